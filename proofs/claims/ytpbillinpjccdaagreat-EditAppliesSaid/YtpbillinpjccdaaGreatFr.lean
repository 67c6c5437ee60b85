/- Contracts: the statements on edits. -/
import Derived.Test.YtpbillinpjccdaaGreatFq
namespace Go.Proofs.YtpbillinpjccdaaGreat.Fr
open Go.RowKit Go.J Go.R Go.Proofs.YtpbillinpjccdaaGreat.Fa Go.Proofs.YtpbillinpjccdaaGreat.Fb Go.Proofs.YtpbillinpjccdaaGreat.Fc Go.Proofs.YtpbillinpjccdaaGreat.Fd Go.Proofs.YtpbillinpjccdaaGreat.Fe Go.Proofs.YtpbillinpjccdaaGreat.Fg Go.Proofs.YtpbillinpjccdaaGreat.Fh Go.Proofs.YtpbillinpjccdaaGreat.Fi Go.Proofs.YtpbillinpjccdaaGreat.Fj Go.Proofs.YtpbillinpjccdaaGreat.Fk Go.Proofs.YtpbillinpjccdaaGreat.Fl Go.Proofs.YtpbillinpjccdaaGreat.Fm Go.Proofs.YtpbillinpjccdaaGreat.Fn Go.Proofs.YtpbillinpjccdaaGreat.Fo Go.Proofs.YtpbillinpjccdaaGreat.Fp Go.Proofs.YtpbillinpjccdaaGreat.Fq
set_option linter.unusedVariables false
set_option linter.unusedSimpArgs false
theorem follows : Tryz.prog.follows .mixedOrders = true := by kernel_rfl
theorem AG_39 : AG Tryz.prog 39 2 := ⟨Tryz.isAgg39, Tryz.sizeOf39⟩
theorem EN_38 : Enters Tryz.prog 38 := enters_of Tryz.func38 (by kernel_rfl) rfl
theorem EN_39 : Enters Tryz.prog 39 := enters_of Tryz.func39 (by kernel_rfl) rfl
theorem EN_40 : Enters Tryz.prog 40 := enters_of Tryz.func40 (by kernel_rfl) rfl
theorem EN_41 : Enters Tryz.prog 41 := enters_of Tryz.func41 (by kernel_rfl) rfl
theorem EN_42 : Enters Tryz.prog 42 := enters_of Tryz.func42 (by kernel_rfl) rfl
theorem EN_43 : Enters Tryz.prog 43 := enters_of Tryz.func43 (by kernel_rfl) rfl
theorem EN_44 : Enters Tryz.prog 44 := enters_of Tryz.func44 (by kernel_rfl) rfl
theorem EN_45 : Enters Tryz.prog 45 := enters_of Tryz.func45 (by kernel_rfl) rfl
theorem EN_46 : Enters Tryz.prog 46 := enters_of Tryz.func46 (by kernel_rfl) rfl
theorem EN_47 : Enters Tryz.prog 47 := enters_of Tryz.func47 (by kernel_rfl) rfl
theorem EN_48 : Enters Tryz.prog 48 := enters_of Tryz.func48 (by kernel_rfl) rfl
theorem EN_49 : Enters Tryz.prog 49 := enters_of Tryz.func49 (by kernel_rfl) rfl
theorem EN_50 : Enters Tryz.prog 50 := enters_of Tryz.func50 (by kernel_rfl) rfl
theorem EN_51 : Enters Tryz.prog 51 := enters_of Tryz.func51 (by kernel_rfl) rfl
theorem EN_52 : Enters Tryz.prog 52 := enters_of Tryz.func52 (by kernel_rfl) rfl
theorem EN_53 : Enters Tryz.prog 53 := enters_of Tryz.func53 (by kernel_rfl) rfl
theorem EN_54 : Enters Tryz.prog 54 := enters_of Tryz.func54 (by kernel_rfl) rfl
theorem EN_55 : Enters Tryz.prog 55 := enters_of Tryz.func55 (by kernel_rfl) rfl
theorem EN_56 : Enters Tryz.prog 56 := enters_of Tryz.func56 (by kernel_rfl) rfl
theorem EN_57 : Enters Tryz.prog 57 := enters_of Tryz.func57 (by kernel_rfl) rfl
theorem EN_58 : Enters Tryz.prog 58 := enters_of Tryz.func58 (by kernel_rfl) rfl
theorem ST_23 : ST Tryz.prog 23 42 6 := ⟨Tryz.underlying23, Tryz.sizeOf42⟩
theorem ST_63 : ST Tryz.prog 63 21 1 := ⟨Tryz.underlying63, Tryz.sizeOf21⟩
theorem ZT_21 : ZT Tryz.prog 21 (.int .i32 0) 1 4 := by unfold ZT; kernel_rfl

set_option maxRecDepth 20000 in
/-- redpencil/redpencillaw15.EditInserts -/
theorem editInsertsF (l : List Nd) (A : Option Addr) (cap : Nat) (w : World) (hS : SlN w A l) (d : Dot) (a : Int) (r : List Int) (A' : Option Addr) (cap' : Nat) (hR : SlR w A' r) : Ct Tryz.prog 6 #[.slice A l.length cap, dv d, .int .i64 a, .slice A' r.length cap'] [] w (fun u hs => u = .bool true ∧ hs = []) := by
  refine Ct.intro Tryz.func6 rfl Tryz.ntmps6 rfl ?_
  refine WA.seq ?_
  refine WA.region ?_
  refine WR.dw (G0 rfl) rfl rfl (.box (vs := [_, _]) rfl rfl rfl) ?_
  rintro _ _ ⟨b2, rfl, rfl⟩
  refine WR.val (G0 rfl) rfl rfl (.assign rfl rfl) ?_
  refine WR.nil ?_
  refine WA.seq ?_
  refine WA.seq ?_
  refine WA.region ?_
  refine WR.val (G0 rfl) rfl rfl (.move rfl rfl) ?_
  refine WR.val (G0 rfl) rfl rfl (.len rfl ST_23.1 rfl) ?_
  refine WR.val (G0 rfl) rfl rfl (.gtr rfl rfl rfl) ?_
  refine WR.val (G0 rfl) rfl rfl (.move rfl rfl) ?_
  refine WR.split (d := 18) rfl (fun h4 => ?_) (fun h4 => ?_)
  · have f5 := h4
    try simp only [decide_eq_true_eq, decide_eq_false_iff_not, Bool.not_eq_true', Bool.not_eq_false', Int.not_lt, Int.not_le] at f5
    refine WR.off (Gf rfl rfl rfl h4) rfl rfl ?_
    refine WR.off (Gf rfl rfl rfl h4) rfl rfl ?_
    refine WR.off (Gf rfl rfl rfl h4) rfl rfl ?_
    refine WR.val (G0 rfl) rfl rfl (.pick_t rfl rfl h4 rfl) ?_
    refine WR.nil ?_
    refine WA.cond_t rfl rfl ?_
    refine WA.seq ?_
    refine WA.region ?_
    refine WR.dw (G0 rfl) rfl rfl (.callv (caps := []) rfl rfl rfl EN_38 (fun w hw => knownF _)) ?_
    rintro _ _ ⟨rfl, rfl⟩
    refine WR.val (G0 rfl) rfl rfl (.assign rfl rfl) ?_
    refine WR.nil ?_
    exact WA.ret1 rfl rfl (List.nil_sublist _) ⟨rfl, rfl⟩
  · have f6 := h4
    try simp only [decide_eq_true_eq, decide_eq_false_iff_not, Bool.not_eq_true', Bool.not_eq_false', Int.not_lt, Int.not_le] at f6
    refine WR.val (Gt rfl rfl rfl h4) rfl rfl (.move rfl rfl) ?_
    refine WR.val (Gt rfl rfl rfl h4) rfl rfl (.len rfl ST_63.1 rfl) ?_
    refine WR.val (Gt rfl rfl rfl h4) rfl rfl (.gtr rfl rfl rfl) ?_
    refine WR.val (G0 rfl) rfl rfl (.pick_f rfl rfl h4 rfl) ?_
    refine WR.nil ?_
    refine WA.cond rfl (fun h8 => ?_) (fun h8 => ?_)
    · have f9 := h8
      try simp only [decide_eq_true_eq, decide_eq_false_iff_not, Bool.not_eq_true', Bool.not_eq_false', Int.not_lt, Int.not_le] at f9
      refine WA.seq ?_
      refine WA.region ?_
      refine WR.dw (G0 rfl) rfl rfl (.callv (caps := []) rfl rfl rfl EN_38 (fun w hw => knownF _)) ?_
      rintro _ _ ⟨rfl, rfl⟩
      refine WR.val (G0 rfl) rfl rfl (.assign rfl rfl) ?_
      refine WR.nil ?_
      exact WA.ret1 rfl rfl (List.nil_sublist _) ⟨rfl, rfl⟩
    · have f10 := h8
      try simp only [decide_eq_true_eq, decide_eq_false_iff_not, Bool.not_eq_true', Bool.not_eq_false', Int.not_lt, Int.not_le] at f10
      refine WA.skip ?_
      refine WA.seq ?_
      refine WA.region ?_
      refine WR.val (G0 rfl) rfl rfl (.move rfl rfl) ?_
      refine WR.dw (G0 rfl) rfl rfl (.call0 (caps := []) rfl rfl rfl EN_39 (fun w hw => jcopyF _ _ _ _ (hw.slf0 hS) (by first | omega | (simp; omega)))) ?_
      rintro _ _ ⟨_, ⟨v12, v13, rfl, rfl⟩, rfl⟩
      refine WR.val (G0 rfl) rfl rfl (.move rfl rfl) ?_
      refine WR.nilrow 21 1 ?_
      refine WR.dw (G0 rfl) rfl rfl (.append 0 rfl ST_63.1 ZT_21 rfl (by decide) rfl rfl rfl (fun _ hw => hw.slf0 hR) (one_flat one_rc _) (by omega) (by omega)) ?_
      rintro _ _ ⟨A15, c16, rfl, rfl⟩
      refine WR.val (G0 rfl) rfl rfl (.assign rfl rfl) ?_
      refine WR.val (G0 rfl) rfl rfl (.assign rfl rfl) ?_
      refine WR.nil ?_
      refine WA.seq ?_
      have hlen := replaceR_len l d a 0 r
      refine WA.roweq 0 rfl (0 + r.length) (r.flatMap rc) rfl (by simp) ?_
      refine WA.region ?_
      refine WR.val (G0 rfl) rfl rfl (.move rfl rfl) ?_
      refine WR.val (G0 rfl) rfl rfl (.loadK (vs := [_, _]) rfl AG_39 rfl (fun _ hw => hw.rd_blk (k := 2) 2 rfl rfl)) ?_
      refine WR.val (G0 rfl) rfl rfl (.move rfl rfl) ?_
      refine WR.val (G0 rfl) rfl rfl (.move rfl rfl) ?_
      refine WR.dw (G0 rfl) rfl rfl (.call0 (caps := []) rfl rfl rfl EN_40 (fun w hw => jreplaceF _ _ _ _ (hw.slf0 hS) (by first | omega | (simp; omega)) _ _ _ _ _ _ (hw.slf0 hR) (by first | omega | (simp; omega)))) ?_
      rintro _ _ ⟨_, ⟨v18, v19, rfl, rfl⟩, rfl⟩
      refine WR.val (G0 rfl) rfl rfl (.move rfl rfl) ?_
      refine WR.val (G0 rfl) rfl rfl (.extract (vs := [_, _]) rfl rfl rfl) ?_
      refine WR.val (G0 rfl) rfl rfl (.extract (vs := [_, _]) rfl rfl rfl) ?_
      refine WR.val (G0 rfl) rfl rfl (.assign rfl rfl) ?_
      refine WR.val (G0 rfl) rfl rfl (.assign rfl rfl) ?_
      refine WR.nil ?_
      refine WA.seq ?_
      refine WA.seq ?_
      refine WA.region ?_
      refine WR.val (G0 rfl) rfl rfl (.move rfl rfl) ?_
      refine WR.val (G0 rfl) rfl rfl (.loadK (vs := [_, _]) rfl AG_39 rfl (fun _ hw => hw.rd_blk (k := 2) 3 rfl rfl)) ?_
      refine WR.val (G0 rfl) rfl rfl (.move rfl rfl) ?_
      refine WR.val (G0 rfl) rfl rfl (.move rfl rfl) ?_
      refine WR.val (G0 rfl) rfl rfl (.move rfl rfl) ?_
      refine WR.val (G0 rfl) rfl rfl (.move rfl rfl) ?_
      refine WR.dw (G0 rfl) rfl rfl (.callv (caps := []) rfl rfl rfl EN_41 (fun w hw => insertsTF l _ _ _ (hw.slf0 hS) (by omega) d a r _ _ (hw.slf0 hR) (by omega) (replaceR l d a 0 r).1 _ _ (hw.slf_row 0 rfl) (by omega) (replaceR l d a 0 r).2 rfl)) ?_
      rintro _ _ ⟨rfl, rfl⟩
      refine WR.val (G0 rfl) rfl rfl (.not rfl rfl) ?_
      refine WR.nil ?_
      refine WA.cond_f rfl rfl ?_
      refine WA.skip ?_
      refine WA.seq ?_
      refine WA.region ?_
      refine WR.val (G0 rfl) rfl rfl (.move rfl rfl) ?_
      refine WR.val (G0 rfl) rfl rfl (.loadK (vs := [_, _]) rfl AG_39 rfl (fun _ hw => hw.rd_blk (k := 2) 3 rfl rfl)) ?_
      refine WR.val (G0 rfl) rfl rfl (.move rfl rfl) ?_
      refine WR.val (G0 rfl) rfl rfl (.move rfl rfl) ?_
      refine WR.dw (G0 rfl) rfl rfl (.call0 (caps := []) rfl rfl rfl EN_42 (fun w hw => insertEF _ _ _ _ (hw.slf0 hS) (by first | omega | (simp; omega)) _ _ _ _ _ (hw.slf0 hR) (by first | omega | (simp; omega)))) ?_
      rintro _ _ ⟨_, ⟨v22, v23, rfl, rfl⟩, rfl⟩
      refine WR.val (G0 rfl) rfl rfl (.move rfl rfl) ?_
      refine WR.val (G0 rfl) rfl rfl (.extract (vs := [_, _]) rfl rfl rfl) ?_
      refine WR.val (G0 rfl) rfl rfl (.extract (vs := [_, _]) rfl rfl rfl) ?_
      refine WR.val (G0 rfl) rfl rfl (.assign rfl rfl) ?_
      refine WR.val (G0 rfl) rfl rfl (.assign rfl rfl) ?_
      refine WR.nil ?_
      refine WA.seq ?_
      refine WA.region ?_
      refine WR.val (G0 rfl) rfl rfl (.move rfl rfl) ?_
      refine WR.dw (G0 rfl) rfl rfl (.callo (caps := []) 0 rfl rfl rfl rfl EN_43 (fun w hw => jstainF _ _ _ _ (by first | omega | (simp; omega)))) ?_
      rintro _ _ ⟨_, ⟨rfl, v25, v26, rfl⟩, rfl⟩
      refine WR.nil ?_
      refine WA.seq ?_
      refine WA.region ?_
      refine WR.val (G0 rfl) rfl rfl (.move rfl rfl) ?_
      refine WR.val (G0 rfl) rfl rfl (.move rfl rfl) ?_
      refine WR.val (G0 rfl) rfl rfl (.move rfl rfl) ?_
      refine WR.val (G0 rfl) rfl rfl (.move rfl rfl) ?_
      refine WR.dw (G0 rfl) rfl rfl (.callv (caps := []) rfl rfl rfl EN_44 (fun w hw => keptF4 l r _ _ _ _ _ _ _ _ _ (by simp) _ (hw.slf0 hS) (hw.slf_row 3 rfl) (hw.slf0 hR) (hw.slf_row 2 rfl) (by omega) (by omega))) ?_
      rintro _ _ ⟨rfl, rfl⟩
      refine WR.val (G0 rfl) rfl rfl (.move rfl rfl) ?_
      refine WR.dw (Gt rfl rfl rfl rfl) rfl rfl (.callv (caps := []) rfl rfl rfl EN_38 (fun w hw => knownF _)) ?_
      rintro _ _ ⟨rfl, rfl⟩
      refine WR.val (G0 rfl) rfl rfl (.pick_t rfl rfl rfl rfl) ?_
      refine WR.val (G0 rfl) rfl rfl (.assign rfl rfl) ?_
      refine WR.nil ?_
      exact WA.ret1 rfl rfl (List.nil_sublist _) ⟨rfl, rfl⟩

set_option maxRecDepth 20000 in
/-- redpencil/redpencillaw15.EditDeletes -/
theorem editDeletesF (l : List Nd) (A : Option Addr) (cap : Nat) (w : World) (hS : SlN w A l) (a n : Int) : Ct Tryz.prog 7 #[.slice A l.length cap, .int .i64 a, .int .i64 n] [] w (fun u hs => u = .bool true ∧ hs = []) := by
  refine Ct.intro Tryz.func7 rfl Tryz.ntmps7 rfl ?_
  refine WA.seq ?_
  refine WA.region ?_
  refine WR.val (G0 rfl) rfl rfl (.assign rfl rfl) ?_
  refine WR.nil ?_
  refine WA.seq ?_
  refine WA.seq ?_
  refine WA.region ?_
  refine WR.val (G0 rfl) rfl rfl (.move rfl rfl) ?_
  refine WR.val (G0 rfl) rfl rfl (.len rfl ST_23.1 rfl) ?_
  refine WR.val (G0 rfl) rfl rfl (.gtr rfl rfl rfl) ?_
  refine WR.nil ?_
  refine WA.cond rfl (fun h2 => ?_) (fun h2 => ?_)
  · have f3 := h2
    try simp only [decide_eq_true_eq, decide_eq_false_iff_not, Bool.not_eq_true', Bool.not_eq_false', Int.not_lt, Int.not_le] at f3
    refine WA.seq ?_
    refine WA.region ?_
    refine WR.dw (G0 rfl) rfl rfl (.callv (caps := []) rfl rfl rfl EN_38 (fun w hw => knownF _)) ?_
    rintro _ _ ⟨rfl, rfl⟩
    refine WR.val (G0 rfl) rfl rfl (.assign rfl rfl) ?_
    refine WR.nil ?_
    exact WA.ret1 rfl rfl (List.nil_sublist _) ⟨rfl, rfl⟩
  · have f4 := h2
    try simp only [decide_eq_true_eq, decide_eq_false_iff_not, Bool.not_eq_true', Bool.not_eq_false', Int.not_lt, Int.not_le] at f4
    refine WA.skip ?_
    refine WA.seq ?_
    refine WA.region ?_
    refine WR.val (G0 rfl) rfl rfl (.move rfl rfl) ?_
    refine WR.dw (G0 rfl) rfl rfl (.call0 (caps := []) rfl rfl rfl EN_39 (fun w hw => jcopyF _ _ _ _ (hw.slf0 hS) (by first | omega | (simp; omega)))) ?_
    rintro _ _ ⟨_, ⟨v6, v7, rfl, rfl⟩, rfl⟩
    refine WR.val (G0 rfl) rfl rfl (.assign rfl rfl) ?_
    refine WR.nil ?_
    refine WA.seq ?_
    have hlen := deleteR_len l a n
    refine WA.region ?_
    refine WR.val (G0 rfl) rfl rfl (.move rfl rfl) ?_
    refine WR.val (G0 rfl) rfl rfl (.move rfl rfl) ?_
    refine WR.val (G0 rfl) rfl rfl (.move rfl rfl) ?_
    refine WR.dw (G0 rfl) rfl rfl (.call0 (caps := []) rfl rfl rfl EN_45 (fun w hw => jdeleteF _ _ _ _ (hw.slf0 hS) (by first | omega | (simp; omega)) _ _)) ?_
    rintro _ _ ⟨_, ⟨v9, v10, rfl, rfl⟩, rfl⟩
    refine WR.val (G0 rfl) rfl rfl (.move rfl rfl) ?_
    refine WR.val (G0 rfl) rfl rfl (.extract (vs := [_, _]) rfl rfl rfl) ?_
    refine WR.val (G0 rfl) rfl rfl (.extract (vs := [_, _]) rfl rfl rfl) ?_
    refine WR.val (G0 rfl) rfl rfl (.assign rfl rfl) ?_
    refine WR.val (G0 rfl) rfl rfl (.assign rfl rfl) ?_
    refine WR.nil ?_
    refine WA.seq ?_
    refine WA.seq ?_
    refine WA.region ?_
    refine WR.val (G0 rfl) rfl rfl (.move rfl rfl) ?_
    refine WR.val (G0 rfl) rfl rfl (.move rfl rfl) ?_
    refine WR.val (G0 rfl) rfl rfl (.move rfl rfl) ?_
    refine WR.val (G0 rfl) rfl rfl (.move rfl rfl) ?_
    refine WR.val (G0 rfl) rfl rfl (.move rfl rfl) ?_
    refine WR.dw (G0 rfl) rfl rfl (.callv (caps := []) rfl rfl rfl EN_46 (fun w hw => deletesTF l _ _ _ (hw.slf0 hS) (by omega) a n (deleteR l a n).1 _ _ (hw.slf_row 0 rfl) (by omega) (deleteR l a n).2 rfl)) ?_
    rintro _ _ ⟨rfl, rfl⟩
    refine WR.val (G0 rfl) rfl rfl (.not rfl rfl) ?_
    refine WR.nil ?_
    refine WA.cond_f rfl rfl ?_
    refine WA.skip ?_
    refine WA.seq ?_
    refine WA.region ?_
    refine WR.val (G0 rfl) rfl rfl (.move rfl rfl) ?_
    refine WR.val (G0 rfl) rfl rfl (.move rfl rfl) ?_
    refine WR.val (G0 rfl) rfl rfl (.move rfl rfl) ?_
    refine WR.dw (G0 rfl) rfl rfl (.call0 (caps := []) rfl rfl rfl EN_47 (fun w hw => deleteEF _ _ _ _ (hw.slf0 hS) (by first | omega | (simp; omega)) _ _)) ?_
    rintro _ _ ⟨_, ⟨v13, v14, rfl, rfl⟩, rfl⟩
    refine WR.val (G0 rfl) rfl rfl (.move rfl rfl) ?_
    refine WR.val (G0 rfl) rfl rfl (.extract (vs := [_, _]) rfl rfl rfl) ?_
    refine WR.val (G0 rfl) rfl rfl (.extract (vs := [_, _]) rfl rfl rfl) ?_
    refine WR.val (G0 rfl) rfl rfl (.assign rfl rfl) ?_
    refine WR.val (G0 rfl) rfl rfl (.assign rfl rfl) ?_
    refine WR.nil ?_
    refine WA.seq ?_
    refine WA.region ?_
    refine WR.val (G0 rfl) rfl rfl (.move rfl rfl) ?_
    refine WR.dw (G0 rfl) rfl rfl (.callo (caps := []) 0 rfl rfl rfl rfl EN_43 (fun w hw => jstainF _ _ _ _ (by first | omega | (simp; omega)))) ?_
    rintro _ _ ⟨_, ⟨rfl, v16, v17, rfl⟩, rfl⟩
    refine WR.nil ?_
    refine WA.seq ?_
    refine WA.region ?_
    refine WR.val (G0 rfl) rfl rfl (.move rfl rfl) ?_
    refine WR.val (G0 rfl) rfl rfl (.move rfl rfl) ?_
    refine WR.dw (G0 rfl) rfl rfl (.callv (caps := []) rfl rfl rfl EN_48 (fun w hw => jsameTF _ _ _ _ _ _ _ (hw.slf0 hS) (hw.slf_row 2 rfl) (by first | omega | (simp; omega)) rfl)) ?_
    rintro _ _ ⟨rfl, rfl⟩
    refine WR.val (G0 rfl) rfl rfl (.move rfl rfl) ?_
    refine WR.dw (Gt rfl rfl rfl rfl) rfl rfl (.callv (caps := []) rfl rfl rfl EN_38 (fun w hw => knownF _)) ?_
    rintro _ _ ⟨rfl, rfl⟩
    refine WR.val (G0 rfl) rfl rfl (.pick_t rfl rfl rfl rfl) ?_
    refine WR.val (G0 rfl) rfl rfl (.assign rfl rfl) ?_
    refine WR.nil ?_
    exact WA.ret1 rfl rfl (List.nil_sublist _) ⟨rfl, rfl⟩

set_option maxRecDepth 20000 in
/-- redpencil/redpencillaw15.EditReplaces -/
theorem editReplacesF (l : List Nd) (A : Option Addr) (cap : Nat) (w : World) (hS : SlN w A l) (d : Dot) (a n : Int) (r : List Int) (A' : Option Addr) (cap' : Nat) (hR : SlR w A' r) : Ct Tryz.prog 8 #[.slice A l.length cap, dv d, .int .i64 a, .int .i64 n, .slice A' r.length cap'] [] w (fun u hs => u = .bool true ∧ hs = []) := by
  refine Ct.intro Tryz.func8 rfl Tryz.ntmps8 rfl ?_
  refine WA.seq ?_
  refine WA.region ?_
  refine WR.dw (G0 rfl) rfl rfl (.box (vs := [_, _]) rfl rfl rfl) ?_
  rintro _ _ ⟨b2, rfl, rfl⟩
  refine WR.val (G0 rfl) rfl rfl (.assign rfl rfl) ?_
  refine WR.nil ?_
  refine WA.seq ?_
  refine WA.seq ?_
  refine WA.region ?_
  refine WR.val (G0 rfl) rfl rfl (.move rfl rfl) ?_
  refine WR.val (G0 rfl) rfl rfl (.len rfl ST_23.1 rfl) ?_
  refine WR.val (G0 rfl) rfl rfl (.gtr rfl rfl rfl) ?_
  refine WR.val (G0 rfl) rfl rfl (.move rfl rfl) ?_
  refine WR.split (d := 20) rfl (fun h4 => ?_) (fun h4 => ?_)
  · have f5 := h4
    try simp only [decide_eq_true_eq, decide_eq_false_iff_not, Bool.not_eq_true', Bool.not_eq_false', Int.not_lt, Int.not_le] at f5
    refine WR.off (Gf rfl rfl rfl h4) rfl rfl ?_
    refine WR.off (Gf rfl rfl rfl h4) rfl rfl ?_
    refine WR.off (Gf rfl rfl rfl h4) rfl rfl ?_
    refine WR.val (G0 rfl) rfl rfl (.pick_t rfl rfl h4 rfl) ?_
    refine WR.nil ?_
    refine WA.cond_t rfl rfl ?_
    refine WA.seq ?_
    refine WA.region ?_
    refine WR.dw (G0 rfl) rfl rfl (.callv (caps := []) rfl rfl rfl EN_38 (fun w hw => knownF _)) ?_
    rintro _ _ ⟨rfl, rfl⟩
    refine WR.val (G0 rfl) rfl rfl (.assign rfl rfl) ?_
    refine WR.nil ?_
    exact WA.ret1 rfl rfl (List.nil_sublist _) ⟨rfl, rfl⟩
  · have f6 := h4
    try simp only [decide_eq_true_eq, decide_eq_false_iff_not, Bool.not_eq_true', Bool.not_eq_false', Int.not_lt, Int.not_le] at f6
    refine WR.val (Gt rfl rfl rfl h4) rfl rfl (.move rfl rfl) ?_
    refine WR.val (Gt rfl rfl rfl h4) rfl rfl (.len rfl ST_63.1 rfl) ?_
    refine WR.val (Gt rfl rfl rfl h4) rfl rfl (.gtr rfl rfl rfl) ?_
    refine WR.val (G0 rfl) rfl rfl (.pick_f rfl rfl h4 rfl) ?_
    refine WR.nil ?_
    refine WA.cond rfl (fun h8 => ?_) (fun h8 => ?_)
    · have f9 := h8
      try simp only [decide_eq_true_eq, decide_eq_false_iff_not, Bool.not_eq_true', Bool.not_eq_false', Int.not_lt, Int.not_le] at f9
      refine WA.seq ?_
      refine WA.region ?_
      refine WR.dw (G0 rfl) rfl rfl (.callv (caps := []) rfl rfl rfl EN_38 (fun w hw => knownF _)) ?_
      rintro _ _ ⟨rfl, rfl⟩
      refine WR.val (G0 rfl) rfl rfl (.assign rfl rfl) ?_
      refine WR.nil ?_
      exact WA.ret1 rfl rfl (List.nil_sublist _) ⟨rfl, rfl⟩
    · have f10 := h8
      try simp only [decide_eq_true_eq, decide_eq_false_iff_not, Bool.not_eq_true', Bool.not_eq_false', Int.not_lt, Int.not_le] at f10
      refine WA.skip ?_
      refine WA.seq ?_
      refine WA.region ?_
      refine WR.val (G0 rfl) rfl rfl (.move rfl rfl) ?_
      refine WR.dw (G0 rfl) rfl rfl (.call0 (caps := []) rfl rfl rfl EN_39 (fun w hw => jcopyF _ _ _ _ (hw.slf0 hS) (by first | omega | (simp; omega)))) ?_
      rintro _ _ ⟨_, ⟨v12, v13, rfl, rfl⟩, rfl⟩
      refine WR.val (G0 rfl) rfl rfl (.move rfl rfl) ?_
      refine WR.nilrow 21 1 ?_
      refine WR.dw (G0 rfl) rfl rfl (.append 0 rfl ST_63.1 ZT_21 rfl (by decide) rfl rfl rfl (fun _ hw => hw.slf0 hR) (one_flat one_rc _) (by omega) (by omega)) ?_
      rintro _ _ ⟨A15, c16, rfl, rfl⟩
      refine WR.val (G0 rfl) rfl rfl (.assign rfl rfl) ?_
      refine WR.val (G0 rfl) rfl rfl (.assign rfl rfl) ?_
      refine WR.nil ?_
      refine WA.seq ?_
      have hlen := replaceR_len l d a n r
      refine WA.roweq 0 rfl (0 + r.length) (r.flatMap rc) rfl (by simp) ?_
      refine WA.region ?_
      refine WR.val (G0 rfl) rfl rfl (.move rfl rfl) ?_
      refine WR.val (G0 rfl) rfl rfl (.loadK (vs := [_, _]) rfl AG_39 rfl (fun _ hw => hw.rd_blk (k := 2) 2 rfl rfl)) ?_
      refine WR.val (G0 rfl) rfl rfl (.move rfl rfl) ?_
      refine WR.val (G0 rfl) rfl rfl (.move rfl rfl) ?_
      refine WR.val (G0 rfl) rfl rfl (.move rfl rfl) ?_
      refine WR.dw (G0 rfl) rfl rfl (.call0 (caps := []) rfl rfl rfl EN_40 (fun w hw => jreplaceF _ _ _ _ (hw.slf0 hS) (by first | omega | (simp; omega)) _ _ _ _ _ _ (hw.slf0 hR) (by first | omega | (simp; omega)))) ?_
      rintro _ _ ⟨_, ⟨v18, v19, rfl, rfl⟩, rfl⟩
      refine WR.val (G0 rfl) rfl rfl (.move rfl rfl) ?_
      refine WR.val (G0 rfl) rfl rfl (.extract (vs := [_, _]) rfl rfl rfl) ?_
      refine WR.val (G0 rfl) rfl rfl (.extract (vs := [_, _]) rfl rfl rfl) ?_
      refine WR.val (G0 rfl) rfl rfl (.assign rfl rfl) ?_
      refine WR.val (G0 rfl) rfl rfl (.assign rfl rfl) ?_
      refine WR.nil ?_
      refine WA.seq ?_
      refine WA.seq ?_
      refine WA.region ?_
      refine WR.val (G0 rfl) rfl rfl (.move rfl rfl) ?_
      refine WR.val (G0 rfl) rfl rfl (.loadK (vs := [_, _]) rfl AG_39 rfl (fun _ hw => hw.rd_blk (k := 2) 3 rfl rfl)) ?_
      refine WR.val (G0 rfl) rfl rfl (.move rfl rfl) ?_
      refine WR.val (G0 rfl) rfl rfl (.move rfl rfl) ?_
      refine WR.val (G0 rfl) rfl rfl (.move rfl rfl) ?_
      refine WR.val (G0 rfl) rfl rfl (.move rfl rfl) ?_
      refine WR.val (G0 rfl) rfl rfl (.move rfl rfl) ?_
      refine WR.dw (G0 rfl) rfl rfl (.callv (caps := []) rfl rfl rfl EN_49 (fun w hw => replacesTF l _ _ _ (hw.slf0 hS) (by omega) d a n r _ _ (hw.slf0 hR) (by omega) (replaceR l d a n r).1 _ _ (hw.slf_row 0 rfl) (by omega) (replaceR l d a n r).2 rfl)) ?_
      rintro _ _ ⟨rfl, rfl⟩
      refine WR.val (G0 rfl) rfl rfl (.not rfl rfl) ?_
      refine WR.nil ?_
      refine WA.cond_f rfl rfl ?_
      refine WA.skip ?_
      refine WA.seq ?_
      refine WA.region ?_
      refine WR.val (G0 rfl) rfl rfl (.move rfl rfl) ?_
      refine WR.val (G0 rfl) rfl rfl (.loadK (vs := [_, _]) rfl AG_39 rfl (fun _ hw => hw.rd_blk (k := 2) 3 rfl rfl)) ?_
      refine WR.val (G0 rfl) rfl rfl (.move rfl rfl) ?_
      refine WR.val (G0 rfl) rfl rfl (.move rfl rfl) ?_
      refine WR.val (G0 rfl) rfl rfl (.move rfl rfl) ?_
      refine WR.dw (G0 rfl) rfl rfl (.call0 (caps := []) rfl rfl rfl EN_50 (fun w hw => replaceEF _ _ _ _ (hw.slf0 hS) (by first | omega | (simp; omega)) _ _ _ _ _ _ (hw.slf0 hR) (by first | omega | (simp; omega)))) ?_
      rintro _ _ ⟨_, ⟨v22, v23, rfl, rfl⟩, rfl⟩
      refine WR.val (G0 rfl) rfl rfl (.move rfl rfl) ?_
      refine WR.val (G0 rfl) rfl rfl (.extract (vs := [_, _]) rfl rfl rfl) ?_
      refine WR.val (G0 rfl) rfl rfl (.extract (vs := [_, _]) rfl rfl rfl) ?_
      refine WR.val (G0 rfl) rfl rfl (.assign rfl rfl) ?_
      refine WR.val (G0 rfl) rfl rfl (.assign rfl rfl) ?_
      refine WR.nil ?_
      refine WA.seq ?_
      refine WA.region ?_
      refine WR.val (G0 rfl) rfl rfl (.move rfl rfl) ?_
      refine WR.dw (G0 rfl) rfl rfl (.callo (caps := []) 0 rfl rfl rfl rfl EN_43 (fun w hw => jstainF _ _ _ _ (by first | omega | (simp; omega)))) ?_
      rintro _ _ ⟨_, ⟨rfl, v25, v26, rfl⟩, rfl⟩
      refine WR.nil ?_
      refine WA.seq ?_
      refine WA.region ?_
      refine WR.val (G0 rfl) rfl rfl (.move rfl rfl) ?_
      refine WR.val (G0 rfl) rfl rfl (.move rfl rfl) ?_
      refine WR.val (G0 rfl) rfl rfl (.move rfl rfl) ?_
      refine WR.val (G0 rfl) rfl rfl (.move rfl rfl) ?_
      refine WR.dw (G0 rfl) rfl rfl (.callv (caps := []) rfl rfl rfl EN_44 (fun w hw => keptF4 l r _ _ _ _ _ _ _ _ _ (by simp) _ (hw.slf0 hS) (hw.slf_row 3 rfl) (hw.slf0 hR) (hw.slf_row 2 rfl) (by omega) (by omega))) ?_
      rintro _ _ ⟨rfl, rfl⟩
      refine WR.val (G0 rfl) rfl rfl (.move rfl rfl) ?_
      refine WR.dw (Gt rfl rfl rfl rfl) rfl rfl (.callv (caps := []) rfl rfl rfl EN_38 (fun w hw => knownF _)) ?_
      rintro _ _ ⟨rfl, rfl⟩
      refine WR.val (G0 rfl) rfl rfl (.pick_t rfl rfl rfl rfl) ?_
      refine WR.val (G0 rfl) rfl rfl (.assign rfl rfl) ?_
      refine WR.nil ?_
      exact WA.ret1 rfl rfl (List.nil_sublist _) ⟨rfl, rfl⟩

set_option maxRecDepth 20000 in
/-- redpencil/redpencillaw15.EditApplies -/
theorem editAppliesF (l m : List Nd) (A A' : Option Addr) (cap cap' : Nat) (w : World) (hS : SlN w A l) (hM : SlN w A' m) (hc : l.length ≤ cap) (hc' : m.length ≤ cap') : Ct Tryz.prog 9 #[.slice A l.length cap, .slice A' m.length cap'] [] w (fun u hs => u = .bool true ∧ hs = []) := by
  refine Ct.intro Tryz.func9 rfl Tryz.ntmps9 rfl ?_
  refine WA.seq ?_
  refine WA.region ?_
  refine WR.val (G0 rfl) rfl rfl (.assign rfl rfl) ?_
  refine WR.nil ?_
  refine WA.seq ?_
  refine WA.seq ?_
  refine WA.region ?_
  refine WR.val (G0 rfl) rfl rfl (.move rfl rfl) ?_
  refine WR.val (G0 rfl) rfl rfl (.len rfl ST_23.1 rfl) ?_
  refine WR.val (G0 rfl) rfl rfl (.gtr rfl rfl rfl) ?_
  refine WR.val (G0 rfl) rfl rfl (.move rfl rfl) ?_
  refine WR.split (d := 12) rfl (fun h2 => ?_) (fun h2 => ?_)
  · have f3 := h2
    try simp only [decide_eq_true_eq, decide_eq_false_iff_not, Bool.not_eq_true', Bool.not_eq_false', Int.not_lt, Int.not_le] at f3
    refine WR.off (Gf rfl rfl rfl h2) rfl rfl ?_
    refine WR.off (Gf rfl rfl rfl h2) rfl rfl ?_
    refine WR.off (Gf rfl rfl rfl h2) rfl rfl ?_
    refine WR.val (G0 rfl) rfl rfl (.pick_t rfl rfl h2 rfl) ?_
    refine WR.nil ?_
    refine WA.cond_t rfl rfl ?_
    refine WA.seq ?_
    refine WA.region ?_
    refine WR.dw (G0 rfl) rfl rfl (.callv (caps := []) rfl rfl rfl EN_38 (fun w hw => knownF _)) ?_
    rintro _ _ ⟨rfl, rfl⟩
    refine WR.val (G0 rfl) rfl rfl (.assign rfl rfl) ?_
    refine WR.nil ?_
    exact WA.ret1 rfl rfl (List.nil_sublist _) ⟨by simp_all, rfl⟩
  · have f4 := h2
    try simp only [decide_eq_true_eq, decide_eq_false_iff_not, Bool.not_eq_true', Bool.not_eq_false', Int.not_lt, Int.not_le] at f4
    refine WR.val (Gt rfl rfl rfl h2) rfl rfl (.move rfl rfl) ?_
    refine WR.val (Gt rfl rfl rfl h2) rfl rfl (.len rfl ST_23.1 rfl) ?_
    refine WR.val (Gt rfl rfl rfl h2) rfl rfl (.gtr rfl rfl rfl) ?_
    refine WR.val (G0 rfl) rfl rfl (.pick_f rfl rfl h2 rfl) ?_
    refine WR.nil ?_
    refine WA.cond rfl (fun h6 => ?_) (fun h6 => ?_)
    · have f7 := h6
      try simp only [decide_eq_true_eq, decide_eq_false_iff_not, Bool.not_eq_true', Bool.not_eq_false', Int.not_lt, Int.not_le] at f7
      refine WA.seq ?_
      refine WA.region ?_
      refine WR.dw (G0 rfl) rfl rfl (.callv (caps := []) rfl rfl rfl EN_38 (fun w hw => knownF _)) ?_
      rintro _ _ ⟨rfl, rfl⟩
      refine WR.val (G0 rfl) rfl rfl (.assign rfl rfl) ?_
      refine WR.nil ?_
      exact WA.ret1 rfl rfl (List.nil_sublist _) ⟨by simp_all, rfl⟩
    · have f8 := h6
      try simp only [decide_eq_true_eq, decide_eq_false_iff_not, Bool.not_eq_true', Bool.not_eq_false', Int.not_lt, Int.not_le] at f8
      refine WA.skip ?_
      refine WA.seq ?_
      refine WA.seq ?_
      refine WA.region ?_
      refine WR.val (G0 rfl) rfl rfl (.move rfl rfl) ?_
      refine WR.dw (G0 rfl) rfl rfl (.callv (caps := []) rfl rfl rfl EN_51 (fun w hw => latestF _ _ _ _ (hw.slf0 hS) (by first | omega | (simp; omega)))) ?_
      rintro _ _ ⟨rfl, rfl⟩
      refine WR.val (G0 rfl) rfl rfl (.move rfl rfl) ?_
      refine WR.dw (G0 rfl) rfl rfl (.callv (caps := []) rfl rfl rfl EN_52 (fun w hw => jlatestF _ _ _ _ (hw.slf0 hS) (by first | omega | (simp; omega)))) ?_
      rintro _ _ ⟨rfl, rfl⟩
      refine WR.val (G0 rfl) rfl rfl (.neq rfl rfl rfl) ?_
      refine WR.nil ?_
      refine WA.cond rfl (fun h10 => ?_) (fun h10 => ?_)
      · have f11 := h10
        try simp only [decide_eq_true_eq, decide_eq_false_iff_not, Bool.not_eq_true', Bool.not_eq_false', Int.not_lt, Int.not_le] at f11
        refine WA.seq ?_
        exfalso; simp_all
      · have f12 := h10
        try simp only [decide_eq_true_eq, decide_eq_false_iff_not, Bool.not_eq_true', Bool.not_eq_false', Int.not_lt, Int.not_le] at f12
        refine WA.skip ?_
        refine WA.seq ?_
        refine WA.region ?_
        refine WR.val (G0 rfl) rfl rfl (.move rfl rfl) ?_
        refine WR.val (G0 rfl) rfl rfl (.move rfl rfl) ?_
        refine WR.dw (G0 rfl) rfl rfl (.call0 (caps := []) rfl rfl rfl EN_53 (fun w hw => applyEF _ _ _ _ (hw.slf0 hS) (by first | omega | (simp; omega)) _ _ _ (hw.slf0 hM) (by first | omega | (simp; omega)) hc hc')) ?_
        rintro _ _ ⟨_, ⟨v15, v16, v17, v18, rfl, rfl⟩, rfl⟩
        refine WR.val (G0 rfl) rfl rfl (.move rfl rfl) ?_
        refine WR.val (G0 rfl) rfl rfl (.extract (vs := [_, _, _]) rfl rfl rfl) ?_
        refine WR.val (G0 rfl) rfl rfl (.extract (vs := [_, _, _]) rfl rfl rfl) ?_
        refine WR.val (G0 rfl) rfl rfl (.extract (vs := [_, _, _]) rfl rfl rfl) ?_
        refine WR.val (G0 rfl) rfl rfl (.assign rfl rfl) ?_
        refine WR.val (G0 rfl) rfl rfl (.assign rfl rfl) ?_
        refine WR.val (G0 rfl) rfl rfl (.assign rfl rfl) ?_
        refine WR.nil ?_
        refine WA.seq ?_
        refine WA.block ?_
        refine WA.seq ?_
        refine WA.region ?_
        refine WR.val (G0 rfl) rfl rfl (.move rfl rfl) ?_
        refine WR.dw (G0 rfl) rfl rfl (.callv (caps := []) rfl rfl rfl EN_54 (fun w hw => jstoreF _ _ _ _ (hw.slf0 hS) (by first | omega | (simp; omega)))) ?_
        rintro _ _ ⟨rfl, rfl⟩
        refine WR.val (G0 rfl) rfl rfl (.not rfl rfl) ?_
        refine WR.val (G0 rfl) rfl rfl (.move rfl rfl) ?_
        refine WR.split (d := 34) rfl (fun h21 => ?_) (fun h21 => ?_)
        · have f22 := h21
          try simp only [decide_eq_true_eq, decide_eq_false_iff_not, Bool.not_eq_true', Bool.not_eq_false', Int.not_lt, Int.not_le] at f22
          refine WR.off (Gf rfl rfl rfl h21) rfl rfl ?_
          refine WR.off (Gf rfl rfl rfl h21) rfl rfl ?_
          refine WR.off (Gf rfl rfl rfl h21) rfl rfl ?_
          refine WR.val (G0 rfl) rfl rfl (.pick_t rfl rfl h21 rfl) ?_
          refine WR.val (G0 rfl) rfl rfl (.assign rfl rfl) ?_
          refine WR.nil ?_
          refine WA.cond_t rfl rfl ?_
          refine WA.seq ?_
          have hE : applyR l m = ([], [], 2) := by
            have hj : joinR l m = ([], 2) := if_pos (by simp_all)
            unfold applyR; rw [hj]; rfl
          rw [hE]
          refine WA.region ?_
          refine WR.val (G0 rfl) rfl rfl (.move rfl rfl) ?_
          refine WR.val (G0 rfl) rfl rfl (.len rfl ST_23.1 rfl) ?_
          refine WR.val (G0 rfl) rfl rfl (.eql rfl rfl rfl) ?_
          refine WR.val (G0 rfl) rfl rfl (.move rfl rfl) ?_
          refine WR.split (d := 42) rfl (fun h24 => ?_) (fun h24 => ?_)
          · have f25 := h24
            try simp only [decide_eq_true_eq, decide_eq_false_iff_not, Bool.not_eq_true', Bool.not_eq_false', Int.not_lt, Int.not_le] at f25
            refine WR.val (Gt rfl rfl rfl h24) rfl rfl (.move rfl rfl) ?_
            refine WR.val (Gt rfl rfl rfl h24) rfl rfl (.len rfl ST_63.1 rfl) ?_
            refine WR.val (Gt rfl rfl rfl h24) rfl rfl (.eql rfl rfl rfl) ?_
            refine WR.val (G0 rfl) rfl rfl (.pick_t rfl rfl h24 rfl) ?_
            refine WR.val (G0 rfl) rfl rfl (.move rfl rfl) ?_
            refine WR.split (d := 47) rfl (fun h27 => ?_) (fun h27 => ?_)
            · have f28 := h27
              try simp only [decide_eq_true_eq, decide_eq_false_iff_not, Bool.not_eq_true', Bool.not_eq_false', Int.not_lt, Int.not_le] at f28
              refine WR.val (Gt rfl rfl rfl h27) rfl rfl (.move rfl rfl) ?_
              refine WR.val (Gt rfl rfl rfl h27) rfl rfl (.eql rfl rfl rfl) ?_
              refine WR.val (G0 rfl) rfl rfl (.pick_t rfl rfl h27 rfl) ?_
              refine WR.val (G0 rfl) rfl rfl (.move rfl rfl) ?_
              refine WR.split (d := 51) rfl (fun h30 => ?_) (fun h30 => ?_)
              · have f31 := h30
                try simp only [decide_eq_true_eq, decide_eq_false_iff_not, Bool.not_eq_true', Bool.not_eq_false', Int.not_lt, Int.not_le] at f31
                refine WR.dw (Gt rfl rfl rfl h30) rfl rfl (.callv (caps := []) rfl rfl rfl EN_38 (fun w hw => knownF _)) ?_
                rintro _ _ ⟨rfl, rfl⟩
                refine WR.val (G0 rfl) rfl rfl (.pick_t rfl rfl h30 rfl) ?_
                refine WR.val (G0 rfl) rfl rfl (.assign rfl rfl) ?_
                refine WR.nil ?_
                exact WA.ret1 rfl rfl (List.nil_sublist _) ⟨by simp_all, rfl⟩
              · have f32 := h30
                try simp only [decide_eq_true_eq, decide_eq_false_iff_not, Bool.not_eq_true', Bool.not_eq_false', Int.not_lt, Int.not_le] at f32
                refine WR.off (Gf rfl rfl rfl h30) rfl rfl ?_
                refine WR.val (G0 rfl) rfl rfl (.pick_f rfl rfl h30 rfl) ?_
                refine WR.val (G0 rfl) rfl rfl (.assign rfl rfl) ?_
                refine WR.nil ?_
                exact WA.ret1 rfl rfl (List.nil_sublist _) ⟨by simp_all, rfl⟩
            · have f33 := h27
              try simp only [decide_eq_true_eq, decide_eq_false_iff_not, Bool.not_eq_true', Bool.not_eq_false', Int.not_lt, Int.not_le] at f33
              refine WR.off (Gf rfl rfl rfl h27) rfl rfl ?_
              refine WR.off (Gf rfl rfl rfl h27) rfl rfl ?_
              refine WR.val (G0 rfl) rfl rfl (.pick_f rfl rfl h27 rfl) ?_
              refine WR.val (G0 rfl) rfl rfl (.move rfl rfl) ?_
              refine WR.off (Gf rfl rfl rfl rfl) rfl rfl ?_
              refine WR.val (G0 rfl) rfl rfl (.pick_f rfl rfl rfl rfl) ?_
              refine WR.val (G0 rfl) rfl rfl (.assign rfl rfl) ?_
              refine WR.nil ?_
              exact WA.ret1 rfl rfl (List.nil_sublist _) ⟨by simp_all, rfl⟩
          · have f34 := h24
            try simp only [decide_eq_true_eq, decide_eq_false_iff_not, Bool.not_eq_true', Bool.not_eq_false', Int.not_lt, Int.not_le] at f34
            refine WR.off (Gf rfl rfl rfl h24) rfl rfl ?_
            refine WR.off (Gf rfl rfl rfl h24) rfl rfl ?_
            refine WR.off (Gf rfl rfl rfl h24) rfl rfl ?_
            refine WR.val (G0 rfl) rfl rfl (.pick_f rfl rfl h24 rfl) ?_
            refine WR.val (G0 rfl) rfl rfl (.move rfl rfl) ?_
            refine WR.off (Gf rfl rfl rfl rfl) rfl rfl ?_
            refine WR.off (Gf rfl rfl rfl rfl) rfl rfl ?_
            refine WR.val (G0 rfl) rfl rfl (.pick_f rfl rfl rfl rfl) ?_
            refine WR.val (G0 rfl) rfl rfl (.move rfl rfl) ?_
            refine WR.off (Gf rfl rfl rfl rfl) rfl rfl ?_
            refine WR.val (G0 rfl) rfl rfl (.pick_f rfl rfl rfl rfl) ?_
            refine WR.val (G0 rfl) rfl rfl (.assign rfl rfl) ?_
            refine WR.nil ?_
            exact WA.ret1 rfl rfl (List.nil_sublist _) ⟨by simp_all, rfl⟩
        · have f35 := h21
          try simp only [decide_eq_true_eq, decide_eq_false_iff_not, Bool.not_eq_true', Bool.not_eq_false', Int.not_lt, Int.not_le] at f35
          refine WR.val (Gt rfl rfl rfl h21) rfl rfl (.move rfl rfl) ?_
          refine WR.dw (Gt rfl rfl rfl h21) rfl rfl (.callv (caps := []) rfl rfl rfl EN_54 (fun w hw => jstoreF _ _ _ _ (hw.slf0 hM) (by first | omega | (simp; omega)))) ?_
          rintro _ _ ⟨rfl, rfl⟩
          refine WR.val (Gt rfl rfl rfl h21) rfl rfl (.not rfl rfl) ?_
          refine WR.val (G0 rfl) rfl rfl (.pick_f rfl rfl h21 rfl) ?_
          refine WR.val (G0 rfl) rfl rfl (.assign rfl rfl) ?_
          refine WR.nil ?_
          refine WA.cond rfl (fun h38 => ?_) (fun h38 => ?_)
          · have f39 := h38
            try simp only [decide_eq_true_eq, decide_eq_false_iff_not, Bool.not_eq_true', Bool.not_eq_false', Int.not_lt, Int.not_le] at f39
            refine WA.seq ?_
            have hE : applyR l m = ([], [], 2) := by
              have hj : joinR l m = ([], 2) := if_pos (by simp_all)
              unfold applyR; rw [hj]; rfl
            rw [hE]
            refine WA.region ?_
            refine WR.val (G0 rfl) rfl rfl (.move rfl rfl) ?_
            refine WR.val (G0 rfl) rfl rfl (.len rfl ST_23.1 rfl) ?_
            refine WR.val (G0 rfl) rfl rfl (.eql rfl rfl rfl) ?_
            refine WR.val (G0 rfl) rfl rfl (.move rfl rfl) ?_
            refine WR.split (d := 42) rfl (fun h41 => ?_) (fun h41 => ?_)
            · have f42 := h41
              try simp only [decide_eq_true_eq, decide_eq_false_iff_not, Bool.not_eq_true', Bool.not_eq_false', Int.not_lt, Int.not_le] at f42
              refine WR.val (Gt rfl rfl rfl h41) rfl rfl (.move rfl rfl) ?_
              refine WR.val (Gt rfl rfl rfl h41) rfl rfl (.len rfl ST_63.1 rfl) ?_
              refine WR.val (Gt rfl rfl rfl h41) rfl rfl (.eql rfl rfl rfl) ?_
              refine WR.val (G0 rfl) rfl rfl (.pick_t rfl rfl h41 rfl) ?_
              refine WR.val (G0 rfl) rfl rfl (.move rfl rfl) ?_
              refine WR.split (d := 47) rfl (fun h44 => ?_) (fun h44 => ?_)
              · have f45 := h44
                try simp only [decide_eq_true_eq, decide_eq_false_iff_not, Bool.not_eq_true', Bool.not_eq_false', Int.not_lt, Int.not_le] at f45
                refine WR.val (Gt rfl rfl rfl h44) rfl rfl (.move rfl rfl) ?_
                refine WR.val (Gt rfl rfl rfl h44) rfl rfl (.eql rfl rfl rfl) ?_
                refine WR.val (G0 rfl) rfl rfl (.pick_t rfl rfl h44 rfl) ?_
                refine WR.val (G0 rfl) rfl rfl (.move rfl rfl) ?_
                refine WR.split (d := 51) rfl (fun h47 => ?_) (fun h47 => ?_)
                · have f48 := h47
                  try simp only [decide_eq_true_eq, decide_eq_false_iff_not, Bool.not_eq_true', Bool.not_eq_false', Int.not_lt, Int.not_le] at f48
                  refine WR.dw (Gt rfl rfl rfl h47) rfl rfl (.callv (caps := []) rfl rfl rfl EN_38 (fun w hw => knownF _)) ?_
                  rintro _ _ ⟨rfl, rfl⟩
                  refine WR.val (G0 rfl) rfl rfl (.pick_t rfl rfl h47 rfl) ?_
                  refine WR.val (G0 rfl) rfl rfl (.assign rfl rfl) ?_
                  refine WR.nil ?_
                  exact WA.ret1 rfl rfl (List.nil_sublist _) ⟨by simp_all, rfl⟩
                · have f49 := h47
                  try simp only [decide_eq_true_eq, decide_eq_false_iff_not, Bool.not_eq_true', Bool.not_eq_false', Int.not_lt, Int.not_le] at f49
                  refine WR.off (Gf rfl rfl rfl h47) rfl rfl ?_
                  refine WR.val (G0 rfl) rfl rfl (.pick_f rfl rfl h47 rfl) ?_
                  refine WR.val (G0 rfl) rfl rfl (.assign rfl rfl) ?_
                  refine WR.nil ?_
                  exact WA.ret1 rfl rfl (List.nil_sublist _) ⟨by simp_all, rfl⟩
              · have f50 := h44
                try simp only [decide_eq_true_eq, decide_eq_false_iff_not, Bool.not_eq_true', Bool.not_eq_false', Int.not_lt, Int.not_le] at f50
                refine WR.off (Gf rfl rfl rfl h44) rfl rfl ?_
                refine WR.off (Gf rfl rfl rfl h44) rfl rfl ?_
                refine WR.val (G0 rfl) rfl rfl (.pick_f rfl rfl h44 rfl) ?_
                refine WR.val (G0 rfl) rfl rfl (.move rfl rfl) ?_
                refine WR.off (Gf rfl rfl rfl rfl) rfl rfl ?_
                refine WR.val (G0 rfl) rfl rfl (.pick_f rfl rfl rfl rfl) ?_
                refine WR.val (G0 rfl) rfl rfl (.assign rfl rfl) ?_
                refine WR.nil ?_
                exact WA.ret1 rfl rfl (List.nil_sublist _) ⟨by simp_all, rfl⟩
            · have f51 := h41
              try simp only [decide_eq_true_eq, decide_eq_false_iff_not, Bool.not_eq_true', Bool.not_eq_false', Int.not_lt, Int.not_le] at f51
              refine WR.off (Gf rfl rfl rfl h41) rfl rfl ?_
              refine WR.off (Gf rfl rfl rfl h41) rfl rfl ?_
              refine WR.off (Gf rfl rfl rfl h41) rfl rfl ?_
              refine WR.val (G0 rfl) rfl rfl (.pick_f rfl rfl h41 rfl) ?_
              refine WR.val (G0 rfl) rfl rfl (.move rfl rfl) ?_
              refine WR.off (Gf rfl rfl rfl rfl) rfl rfl ?_
              refine WR.off (Gf rfl rfl rfl rfl) rfl rfl ?_
              refine WR.val (G0 rfl) rfl rfl (.pick_f rfl rfl rfl rfl) ?_
              refine WR.val (G0 rfl) rfl rfl (.move rfl rfl) ?_
              refine WR.off (Gf rfl rfl rfl rfl) rfl rfl ?_
              refine WR.val (G0 rfl) rfl rfl (.pick_f rfl rfl rfl rfl) ?_
              refine WR.val (G0 rfl) rfl rfl (.assign rfl rfl) ?_
              refine WR.nil ?_
              exact WA.ret1 rfl rfl (List.nil_sublist _) ⟨by simp_all, rfl⟩
          · have f52 := h38
            try simp only [decide_eq_true_eq, decide_eq_false_iff_not, Bool.not_eq_true', Bool.not_eq_false', Int.not_lt, Int.not_le] at f52
            refine WA.seq ?_
            have hol : storeOk l = true := by simp_all
            have hom : storeOk m = true := by simp_all
            have hag9 := agreeJ_eq (a := l) (storeOk_dd hom)
            refine WA.region ?_
            refine WR.val (G0 rfl) rfl rfl (.move rfl rfl) ?_
            refine WR.val (G0 rfl) rfl rfl (.move rfl rfl) ?_
            refine WR.dw (G0 rfl) rfl rfl (.callv (caps := []) rfl rfl rfl EN_55 (fun w hw => jagreeF _ _ _ _ (hw.slf0 hS) (by first | omega | (simp; omega)) _ _ _ (hw.slf0 hM) (by first | omega | (simp; omega)))) ?_
            rintro _ _ ⟨rfl, rfl⟩
            refine WR.val (G0 rfl) rfl rfl (.not rfl rfl) ?_
            refine WR.val (G0 rfl) rfl rfl (.assign rfl rfl) ?_
            refine WR.nil ?_
            refine WA.cond rfl (fun h55 => ?_) (fun h55 => ?_)
            · have f56 := h55
              try simp only [decide_eq_true_eq, decide_eq_false_iff_not, Bool.not_eq_true', Bool.not_eq_false', Int.not_lt, Int.not_le] at f56
              refine WA.seq ?_
              have hE : applyR l m = ([], [], 15) := by
                have hj : joinR l m = ([], 15) := by rw [joinR, if_neg (by simp [hol, hom]), if_neg (by simp_all)]
                unfold applyR; rw [hj]; rfl
              rw [hE]
              refine WA.region ?_
              refine WR.val (G0 rfl) rfl rfl (.move rfl rfl) ?_
              refine WR.val (G0 rfl) rfl rfl (.len rfl ST_23.1 rfl) ?_
              refine WR.val (G0 rfl) rfl rfl (.eql rfl rfl rfl) ?_
              refine WR.val (G0 rfl) rfl rfl (.move rfl rfl) ?_
              refine WR.split (d := 62) rfl (fun h58 => ?_) (fun h58 => ?_)
              · have f59 := h58
                try simp only [decide_eq_true_eq, decide_eq_false_iff_not, Bool.not_eq_true', Bool.not_eq_false', Int.not_lt, Int.not_le] at f59
                refine WR.val (Gt rfl rfl rfl h58) rfl rfl (.move rfl rfl) ?_
                refine WR.val (Gt rfl rfl rfl h58) rfl rfl (.len rfl ST_63.1 rfl) ?_
                refine WR.val (Gt rfl rfl rfl h58) rfl rfl (.eql rfl rfl rfl) ?_
                refine WR.val (G0 rfl) rfl rfl (.pick_t rfl rfl h58 rfl) ?_
                refine WR.val (G0 rfl) rfl rfl (.move rfl rfl) ?_
                refine WR.split (d := 67) rfl (fun h61 => ?_) (fun h61 => ?_)
                · have f62 := h61
                  try simp only [decide_eq_true_eq, decide_eq_false_iff_not, Bool.not_eq_true', Bool.not_eq_false', Int.not_lt, Int.not_le] at f62
                  refine WR.val (Gt rfl rfl rfl h61) rfl rfl (.move rfl rfl) ?_
                  refine WR.val (Gt rfl rfl rfl h61) rfl rfl (.eql rfl rfl rfl) ?_
                  refine WR.val (G0 rfl) rfl rfl (.pick_t rfl rfl h61 rfl) ?_
                  refine WR.val (G0 rfl) rfl rfl (.move rfl rfl) ?_
                  refine WR.split (d := 71) rfl (fun h64 => ?_) (fun h64 => ?_)
                  · have f65 := h64
                    try simp only [decide_eq_true_eq, decide_eq_false_iff_not, Bool.not_eq_true', Bool.not_eq_false', Int.not_lt, Int.not_le] at f65
                    refine WR.dw (Gt rfl rfl rfl h64) rfl rfl (.callv (caps := []) rfl rfl rfl EN_38 (fun w hw => knownF _)) ?_
                    rintro _ _ ⟨rfl, rfl⟩
                    refine WR.val (G0 rfl) rfl rfl (.pick_t rfl rfl h64 rfl) ?_
                    refine WR.val (G0 rfl) rfl rfl (.assign rfl rfl) ?_
                    refine WR.nil ?_
                    exact WA.ret1 rfl rfl (List.nil_sublist _) ⟨by simp_all, rfl⟩
                  · have f66 := h64
                    try simp only [decide_eq_true_eq, decide_eq_false_iff_not, Bool.not_eq_true', Bool.not_eq_false', Int.not_lt, Int.not_le] at f66
                    refine WR.off (Gf rfl rfl rfl h64) rfl rfl ?_
                    refine WR.val (G0 rfl) rfl rfl (.pick_f rfl rfl h64 rfl) ?_
                    refine WR.val (G0 rfl) rfl rfl (.assign rfl rfl) ?_
                    refine WR.nil ?_
                    exact WA.ret1 rfl rfl (List.nil_sublist _) ⟨by simp_all, rfl⟩
                · have f67 := h61
                  try simp only [decide_eq_true_eq, decide_eq_false_iff_not, Bool.not_eq_true', Bool.not_eq_false', Int.not_lt, Int.not_le] at f67
                  refine WR.off (Gf rfl rfl rfl h61) rfl rfl ?_
                  refine WR.off (Gf rfl rfl rfl h61) rfl rfl ?_
                  refine WR.val (G0 rfl) rfl rfl (.pick_f rfl rfl h61 rfl) ?_
                  refine WR.val (G0 rfl) rfl rfl (.move rfl rfl) ?_
                  refine WR.off (Gf rfl rfl rfl rfl) rfl rfl ?_
                  refine WR.val (G0 rfl) rfl rfl (.pick_f rfl rfl rfl rfl) ?_
                  refine WR.val (G0 rfl) rfl rfl (.assign rfl rfl) ?_
                  refine WR.nil ?_
                  exact WA.ret1 rfl rfl (List.nil_sublist _) ⟨by simp_all, rfl⟩
              · have f68 := h58
                try simp only [decide_eq_true_eq, decide_eq_false_iff_not, Bool.not_eq_true', Bool.not_eq_false', Int.not_lt, Int.not_le] at f68
                refine WR.off (Gf rfl rfl rfl h58) rfl rfl ?_
                refine WR.off (Gf rfl rfl rfl h58) rfl rfl ?_
                refine WR.off (Gf rfl rfl rfl h58) rfl rfl ?_
                refine WR.val (G0 rfl) rfl rfl (.pick_f rfl rfl h58 rfl) ?_
                refine WR.val (G0 rfl) rfl rfl (.move rfl rfl) ?_
                refine WR.off (Gf rfl rfl rfl rfl) rfl rfl ?_
                refine WR.off (Gf rfl rfl rfl rfl) rfl rfl ?_
                refine WR.val (G0 rfl) rfl rfl (.pick_f rfl rfl rfl rfl) ?_
                refine WR.val (G0 rfl) rfl rfl (.move rfl rfl) ?_
                refine WR.off (Gf rfl rfl rfl rfl) rfl rfl ?_
                refine WR.val (G0 rfl) rfl rfl (.pick_f rfl rfl rfl rfl) ?_
                refine WR.val (G0 rfl) rfl rfl (.assign rfl rfl) ?_
                refine WR.nil ?_
                exact WA.ret1 rfl rfl (List.nil_sublist _) ⟨by simp_all, rfl⟩
            · have f69 := h55
              try simp only [decide_eq_true_eq, decide_eq_false_iff_not, Bool.not_eq_true', Bool.not_eq_false', Int.not_lt, Int.not_le] at f69
              refine WA.skip ?_
              refine WA.mark ?_
              refine WA.seq ?_
              have hag : agree l m = true := by simp_all
              have hj : joinR l m = (jn l m, 0) := by rw [joinR, if_neg (by simp [hol, hom]), if_pos hag]
              have hE : applyR l m = (jn l m, runesOf (jn l m), 0) := by unfold applyR; rw [hj]; rfl
              rw [hE]
              have hg : gjn l m = jn l m := gjn_jn (storeOk_sorted hol) (storeOk_sorted hom) hag
              have hjo := jn_ok hol hom hag
              have hjl := jn_len m l
              have hrl := Nat.le_trans (Nat.le_of_eq (by simp [runesOf] : (runesOf (jn l m)).length = (visN (jn l m)).length)) (visN_len hjo)
              refine WA.region ?_
              refine WR.val (G0 rfl) rfl rfl (.move rfl rfl) ?_
              refine WR.val (G0 rfl) rfl rfl (.move rfl rfl) ?_
              refine WR.dw (G0 rfl) rfl rfl (.call0 (caps := []) rfl rfl rfl EN_56 (fun w hw => jjoinF _ _ _ _ _ _ _ (hw.slf0 hS) (hw.slf0 hM) (by first | omega | (simp; omega)) (by first | omega | (simp; omega)))) ?_
              rintro _ _ ⟨_, ⟨v71, v72, rfl, rfl⟩, rfl⟩
              refine WR.val (G0 rfl) rfl rfl (.assign rfl rfl) ?_
              refine WR.nil ?_
              refine WA.seq ?_
              rw [hg]
              refine WA.region ?_
              refine WR.val (G0 rfl) rfl rfl (.move rfl rfl) ?_
              refine WR.val (G0 rfl) rfl rfl (.move rfl rfl) ?_
              refine WR.dw (G0 rfl) rfl rfl (.callv (caps := []) rfl rfl rfl EN_48 (fun w hw => jsameTF _ _ _ _ _ _ _ (hw.slf_row 1 rfl) (hw.slf_row 0 rfl) (by dsimp only; omega) rfl)) ?_
              rintro _ _ ⟨rfl, rfl⟩
              refine WR.val (G0 rfl) rfl rfl (.move rfl rfl) ?_
              refine WR.val (Gt rfl rfl rfl rfl) rfl rfl (.move rfl rfl) ?_
              refine WR.val (Gt rfl rfl rfl rfl) rfl rfl (.move rfl rfl) ?_
              refine WR.dw (Gt rfl rfl rfl rfl) rfl rfl (.call0 (caps := []) rfl rfl rfl EN_58 (fun w hw => jrunesF (jn l m) _ _ _ (hw.slf_row 0 rfl) (by omega) hjo)) ?_
              rintro _ _ ⟨_, ⟨v74, v75, rfl, rfl⟩, rfl⟩
              refine WR.dw (Gt rfl rfl rfl rfl) rfl rfl (.callv (caps := []) rfl rfl rfl EN_57 (fun w hw => jsameRTF _ _ _ _ _ _ _ (hw.slf_row 3 rfl) (hw.slf_row 0 rfl) (by dsimp only; omega) rfl)) ?_
              rintro _ _ ⟨rfl, rfl⟩
              refine WR.val (G0 rfl) rfl rfl (.pick_t rfl rfl rfl rfl) ?_
              refine WR.val (G0 rfl) rfl rfl (.move rfl rfl) ?_
              refine WR.val (Gt rfl rfl rfl rfl) rfl rfl (.move rfl rfl) ?_
              refine WR.val (Gt rfl rfl rfl rfl) rfl rfl (.eql rfl rfl rfl) ?_
              refine WR.val (G0 rfl) rfl rfl (.pick_t rfl rfl rfl rfl) ?_
              refine WR.val (G0 rfl) rfl rfl (.move rfl rfl) ?_
              refine WR.split (d := 90) rfl (fun h77 => ?_) (fun h77 => ?_)
              · have f78 := h77
                try simp only [decide_eq_true_eq, decide_eq_false_iff_not, Bool.not_eq_true', Bool.not_eq_false', Int.not_lt, Int.not_le] at f78
                refine WR.dw (Gt rfl rfl rfl h77) rfl rfl (.callv (caps := []) rfl rfl rfl EN_38 (fun w hw => knownF _)) ?_
                rintro _ _ ⟨rfl, rfl⟩
                refine WR.val (G0 rfl) rfl rfl (.pick_t rfl rfl h77 rfl) ?_
                refine WR.val (G0 rfl) rfl rfl (.assign rfl rfl) ?_
                refine WR.nil ?_
                exact WA.ret1 rfl rfl (List.nil_sublist _) ⟨by simp_all, rfl⟩
              · have f79 := h77
                try simp only [decide_eq_true_eq, decide_eq_false_iff_not, Bool.not_eq_true', Bool.not_eq_false', Int.not_lt, Int.not_le] at f79
                refine WR.off (Gf rfl rfl rfl h77) rfl rfl ?_
                refine WR.val (G0 rfl) rfl rfl (.pick_f rfl rfl h77 rfl) ?_
                refine WR.val (G0 rfl) rfl rfl (.assign rfl rfl) ?_
                refine WR.nil ?_
                exact WA.ret1 rfl rfl (List.nil_sublist _) ⟨by simp_all, rfl⟩
end Go.Proofs.YtpbillinpjccdaaGreat.Fr
