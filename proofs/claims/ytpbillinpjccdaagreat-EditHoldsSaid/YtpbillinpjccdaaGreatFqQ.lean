/- Contracts: the helpers of the statements on edits. -/
import Derived.Test.YtpbillinpjccdaaGreatFpQ
import Derived.Test.YtpbillinpjccdaaGreatJhQ
namespace Go.Proofs.YtpbillinpjccdaaGreat.Fq
open Go.RowKit Go.J Go.R Go.Proofs.YtpbillinpjccdaaGreat.Fa Go.Proofs.YtpbillinpjccdaaGreat.Fb Go.Proofs.YtpbillinpjccdaaGreat.Fc Go.Proofs.YtpbillinpjccdaaGreat.Fd Go.Proofs.YtpbillinpjccdaaGreat.Fe Go.Proofs.YtpbillinpjccdaaGreat.Fg Go.Proofs.YtpbillinpjccdaaGreat.Fh Go.Proofs.YtpbillinpjccdaaGreat.Fi Go.Proofs.YtpbillinpjccdaaGreat.Fj Go.Proofs.YtpbillinpjccdaaGreat.Fk Go.Proofs.YtpbillinpjccdaaGreat.Fl Go.Proofs.YtpbillinpjccdaaGreat.Fm Go.Proofs.YtpbillinpjccdaaGreat.Fn Go.Proofs.YtpbillinpjccdaaGreat.Fo Go.Proofs.YtpbillinpjccdaaGreat.Fp
set_option linter.unusedVariables false
set_option linter.unusedSimpArgs false
theorem follows : Tryz.prog.follows .mixedOrders = true := by kernel_rfl
theorem AG_39 : AG Tryz.prog 39 2 := ⟨Tryz.isAgg39, Tryz.sizeOf39⟩
theorem AG_42 : AG Tryz.prog 42 6 := ⟨Tryz.isAgg42, Tryz.sizeOf42⟩
theorem EN_111 : Enters Tryz.prog 111 := enters_of Tryz.func111 (by kernel_rfl) rfl
theorem EN_41 : Enters Tryz.prog 41 := enters_of Tryz.func41 (by kernel_rfl) rfl
theorem EN_42 : Enters Tryz.prog 42 := enters_of Tryz.func42 (by kernel_rfl) rfl
theorem EN_46 : Enters Tryz.prog 46 := enters_of Tryz.func46 (by kernel_rfl) rfl
theorem EN_47 : Enters Tryz.prog 47 := enters_of Tryz.func47 (by kernel_rfl) rfl
theorem EN_48 : Enters Tryz.prog 48 := enters_of Tryz.func48 (by kernel_rfl) rfl
theorem EN_49 : Enters Tryz.prog 49 := enters_of Tryz.func49 (by kernel_rfl) rfl
theorem EN_50 : Enters Tryz.prog 50 := enters_of Tryz.func50 (by kernel_rfl) rfl
theorem EN_51 : Enters Tryz.prog 51 := enters_of Tryz.func51 (by kernel_rfl) rfl
theorem EN_53 : Enters Tryz.prog 53 := enters_of Tryz.func53 (by kernel_rfl) rfl
theorem EN_60 : Enters Tryz.prog 60 := enters_of Tryz.func60 (by kernel_rfl) rfl
theorem FA_42_3 : FA Tryz.prog 42 3 5 := fun ad w => by simp [Instr.fieldAt, run_underlying Tryz.underlying42, Instr.sureAddr, fieldPlace, Tryz.sizeOf21]
theorem NA_21 : NA Tryz.prog 21 := ⟨Tryz.isAgg21, Tryz.sizeOf21⟩
theorem ST_63 : ST Tryz.prog 63 21 1 := ⟨Tryz.underlying63, Tryz.sizeOf21⟩
theorem ZT_39 : ZT Tryz.prog 39 (.agg #[.int .i64 0, .int .i64 0]) 2 16 := by unfold ZT; kernel_rfl
theorem ZT_42 : ZT Tryz.prog 42 (.agg #[.int .i64 0, .int .i64 0, .int .i64 0, .int .i64 0, .int .i64 0, .int .i32 0]) 6 48 := by unfold ZT; kernel_rfl
set_option maxRecDepth 20000 in
/-- redpencil/redpencillaw15.dot -/
theorem ldotF (r c : Int) (w : World) : Ct Tryz.prog 60 #[.int .i64 r, .int .i64 c] [] w (fun u hs => u = dv ⟨r, c⟩ ∧ hs = []) := by
  refine Ct.intro Tryz.func60 rfl Tryz.ntmps60 rfl ?_
  refine WA.seq ?_
  refine WA.region ?_
  refine WR.dw (G0 rfl) rfl rfl (.alloc (vs := [_, _]) rfl ZT_39 rfl) ?_
  rintro _ _ ⟨b2, rfl, rfl⟩
  refine WR.nil ?_
  refine WA.seq ?_
  refine WA.region ?_
  refine WR.val (G0 rfl) rfl rfl (.move rfl rfl) ?_
  refine WR.val (G0 rfl) rfl rfl (.move rfl rfl) ?_
  refine WR.val (G0 rfl) rfl rfl (.build (vs := [_, _]) [.int .i64 0, .int .i64 0] [0, 1] rfl rfl rfl (fun _ => by kernel_rfl)) ?_
  refine WR.dw0 (G0 rfl) rfl (.store (i := 0) rfl AG_39.2 rfl rfl [_, _] rfl rfl (by intro u hu; simp at hu; rcases hu with rfl | rfl <;> rfl) rfl rfl) ?_
  rintro _ _ ⟨rfl, rfl⟩
  refine WR.nil ?_
  exact WA.retv1 rfl (.cellK (vs := [_, _]) AG_39 rfl (fun _ hw => hw.rd_blk (k := 2) 0 rfl rfl)) (List.nil_sublist _) ⟨rfl, rfl⟩
set_option maxRecDepth 20000 in
/-- redpencil/redpencillaw15.inserts -/
theorem insertsF (l : List Nd) (A : Option Addr) (cap : Nat) (w : World) (hS : SlN w A l) (hl : l.length ≤ 100000) (d : Dot) (a : Int) (r : List Int) (A' : Option Addr) (cap' : Nat) (hR : SlR w A' r) (hr : r.length ≤ 100000) (m : List Nd) (A'' : Option Addr) (cap'' : Nat) (hM : SlN w A'' m) (hm : m.length ≤ 700000) (e : Int) : Ct Tryz.prog 41 #[.slice A l.length cap, dv d, .int .i64 a, .slice A' r.length cap', .slice A'' m.length cap'', .int .i64 e] [] w (fun u hs => u = .bool (decide (replaceR l d a 0 r = (m, e))) ∧ hs = []) := by
  refine Ct.intro Tryz.func41 rfl Tryz.ntmps41 rfl ?_
  refine WA.seq ?_
  refine WA.region ?_
  refine WR.dw (G0 rfl) rfl rfl (.box (vs := [_, _]) rfl rfl rfl) ?_
  rintro _ _ ⟨b2, rfl, rfl⟩
  refine WR.val (G0 rfl) rfl rfl (.assign rfl rfl) ?_
  refine WR.nil ?_
  refine WA.seq ?_
  refine WA.region ?_
  refine WR.val (G0 rfl) rfl rfl (.move rfl rfl) ?_
  refine WR.val (G0 rfl) rfl rfl (.loadK (vs := [_, _]) rfl AG_39 rfl (fun _ hw => hw.rd_blk (k := 2) 0 rfl rfl)) ?_
  refine WR.val (G0 rfl) rfl rfl (.move rfl rfl) ?_
  refine WR.val (G0 rfl) rfl rfl (.move rfl rfl) ?_
  refine WR.dw (G0 rfl) rfl rfl (.call0 (caps := []) rfl rfl rfl EN_42 (fun w hw => insertEF _ _ _ _ (hw.slf0 hS) (by first | omega | (simp; omega)) _ _ _ _ _ (hw.slf0 hR) (by first | omega | (simp; omega)))) ?_
  rintro _ _ ⟨_, ⟨v4, v5, rfl, rfl⟩, rfl⟩
  refine WR.val (G0 rfl) rfl rfl (.move rfl rfl) ?_
  refine WR.val (G0 rfl) rfl rfl (.extract (vs := [_, _]) rfl rfl rfl) ?_
  refine WR.val (G0 rfl) rfl rfl (.extract (vs := [_, _]) rfl rfl rfl) ?_
  refine WR.val (G0 rfl) rfl rfl (.assign rfl rfl) ?_
  refine WR.val (G0 rfl) rfl rfl (.assign rfl rfl) ?_
  refine WR.nil ?_
  refine WA.seq ?_
  have hrl := replaceR_len l d a 0 r
  refine WA.region ?_
  refine WR.val (G0 rfl) rfl rfl (.move rfl rfl) ?_
  refine WR.val (G0 rfl) rfl rfl (.move rfl rfl) ?_
  refine WR.dw (G0 rfl) rfl rfl (.callv (caps := []) rfl rfl rfl EN_48 (fun w hw => jsameF _ _ _ _ (hw.slf_row 0 rfl) (by first | omega | (simp; omega)) _ _ _ (hw.slf0 hM) (by first | omega | (simp; omega)))) ?_
  rintro _ _ ⟨rfl, rfl⟩
  refine WR.val (G0 rfl) rfl rfl (.move rfl rfl) ?_
  refine WR.split (d := 26) rfl (fun h7 => ?_) (fun h7 => ?_)
  · have f8 := h7
    try simp only [decide_eq_true_eq, decide_eq_false_iff_not, Bool.not_eq_true', Bool.not_eq_false', Int.not_lt, Int.not_le] at f8
    refine WR.val (Gt rfl rfl rfl h7) rfl rfl (.move rfl rfl) ?_
    refine WR.val (Gt rfl rfl rfl h7) rfl rfl (.move rfl rfl) ?_
    refine WR.val (Gt rfl rfl rfl h7) rfl rfl (.eql rfl rfl rfl) ?_
    refine WR.val (G0 rfl) rfl rfl (.pick_t rfl rfl h7 rfl) ?_
    refine WR.val (G0 rfl) rfl rfl (.assign rfl rfl) ?_
    refine WR.nil ?_
    exact WA.ret1 rfl rfl (List.nil_sublist _) ⟨by congr 1; rw [Bool.eq_iff_iff]; simp_all [Prod.ext_iff], rfl⟩
  · have f10 := h7
    try simp only [decide_eq_true_eq, decide_eq_false_iff_not, Bool.not_eq_true', Bool.not_eq_false', Int.not_lt, Int.not_le] at f10
    refine WR.off (Gf rfl rfl rfl h7) rfl rfl ?_
    refine WR.off (Gf rfl rfl rfl h7) rfl rfl ?_
    refine WR.off (Gf rfl rfl rfl h7) rfl rfl ?_
    refine WR.val (G0 rfl) rfl rfl (.pick_f rfl rfl h7 rfl) ?_
    refine WR.val (G0 rfl) rfl rfl (.assign rfl rfl) ?_
    refine WR.nil ?_
    exact WA.ret1 rfl rfl (List.nil_sublist _) ⟨by congr 1; rw [Bool.eq_iff_iff]; simp_all [Prod.ext_iff], rfl⟩
theorem insertsTF (l : List Nd) (A : Option Addr) (cap : Nat) (w : World) (hS : SlN w A l) (hl : l.length ≤ 100000) (d : Dot) (a : Int) (r : List Int) (A' : Option Addr) (cap' : Nat) (hR : SlR w A' r) (hr : r.length ≤ 100000) (m : List Nd) (A'' : Option Addr) (cap'' : Nat) (hM : SlN w A'' m) (hm : m.length ≤ 700000) (e : Int) (hk : replaceR l d a 0 r = (m, e)) : Ct Tryz.prog 41 #[.slice A l.length cap, dv d, .int .i64 a, .slice A' r.length cap', .slice A'' m.length cap'', .int .i64 e] [] w (fun u hs => u = .bool true ∧ hs = []) := by
  have h := insertsF l A cap w hS hl d a r A' cap' hR hr m A'' cap'' hM hm e
  rw [decide_eq_true hk] at h
  exact h
set_option maxRecDepth 20000 in
/-- redpencil/redpencillaw15.deletes -/
theorem deletesF (l : List Nd) (A : Option Addr) (cap : Nat) (w : World) (hS : SlN w A l) (hl : l.length ≤ 100000) (a n : Int) (m : List Nd) (A'' : Option Addr) (cap'' : Nat) (hM : SlN w A'' m) (hm : m.length ≤ 700000) (e : Int) : Ct Tryz.prog 46 #[.slice A l.length cap, .int .i64 a, .int .i64 n, .slice A'' m.length cap'', .int .i64 e] [] w (fun u hs => u = .bool (decide (deleteR l a n = (m, e))) ∧ hs = []) := by
  refine Ct.intro Tryz.func46 rfl Tryz.ntmps46 rfl ?_
  refine WA.seq ?_
  refine WA.region ?_
  refine WR.val (G0 rfl) rfl rfl (.assign rfl rfl) ?_
  refine WR.nil ?_
  refine WA.seq ?_
  refine WA.region ?_
  refine WR.val (G0 rfl) rfl rfl (.move rfl rfl) ?_
  refine WR.val (G0 rfl) rfl rfl (.move rfl rfl) ?_
  refine WR.val (G0 rfl) rfl rfl (.move rfl rfl) ?_
  refine WR.dw (G0 rfl) rfl rfl (.call0 (caps := []) rfl rfl rfl EN_47 (fun w hw => deleteEF _ _ _ _ (hw.slf0 hS) (by first | omega | (simp; omega)) _ _)) ?_
  rintro _ _ ⟨_, ⟨v2, v3, rfl, rfl⟩, rfl⟩
  refine WR.val (G0 rfl) rfl rfl (.move rfl rfl) ?_
  refine WR.val (G0 rfl) rfl rfl (.extract (vs := [_, _]) rfl rfl rfl) ?_
  refine WR.val (G0 rfl) rfl rfl (.extract (vs := [_, _]) rfl rfl rfl) ?_
  refine WR.val (G0 rfl) rfl rfl (.assign rfl rfl) ?_
  refine WR.val (G0 rfl) rfl rfl (.assign rfl rfl) ?_
  refine WR.nil ?_
  refine WA.seq ?_
  have hrl := deleteR_len l a n
  refine WA.region ?_
  refine WR.val (G0 rfl) rfl rfl (.move rfl rfl) ?_
  refine WR.val (G0 rfl) rfl rfl (.move rfl rfl) ?_
  refine WR.dw (G0 rfl) rfl rfl (.callv (caps := []) rfl rfl rfl EN_48 (fun w hw => jsameF _ _ _ _ (hw.slf_row 0 rfl) (by first | omega | (simp; omega)) _ _ _ (hw.slf0 hM) (by first | omega | (simp; omega)))) ?_
  rintro _ _ ⟨rfl, rfl⟩
  refine WR.val (G0 rfl) rfl rfl (.move rfl rfl) ?_
  refine WR.split (d := 23) rfl (fun h5 => ?_) (fun h5 => ?_)
  · have f6 := h5
    try simp only [decide_eq_true_eq, decide_eq_false_iff_not, Bool.not_eq_true', Bool.not_eq_false', Int.not_lt, Int.not_le] at f6
    refine WR.val (Gt rfl rfl rfl h5) rfl rfl (.move rfl rfl) ?_
    refine WR.val (Gt rfl rfl rfl h5) rfl rfl (.move rfl rfl) ?_
    refine WR.val (Gt rfl rfl rfl h5) rfl rfl (.eql rfl rfl rfl) ?_
    refine WR.val (G0 rfl) rfl rfl (.pick_t rfl rfl h5 rfl) ?_
    refine WR.val (G0 rfl) rfl rfl (.assign rfl rfl) ?_
    refine WR.nil ?_
    exact WA.ret1 rfl rfl (List.nil_sublist _) ⟨by congr 1; rw [Bool.eq_iff_iff]; simp_all [Prod.ext_iff], rfl⟩
  · have f8 := h5
    try simp only [decide_eq_true_eq, decide_eq_false_iff_not, Bool.not_eq_true', Bool.not_eq_false', Int.not_lt, Int.not_le] at f8
    refine WR.off (Gf rfl rfl rfl h5) rfl rfl ?_
    refine WR.off (Gf rfl rfl rfl h5) rfl rfl ?_
    refine WR.off (Gf rfl rfl rfl h5) rfl rfl ?_
    refine WR.val (G0 rfl) rfl rfl (.pick_f rfl rfl h5 rfl) ?_
    refine WR.val (G0 rfl) rfl rfl (.assign rfl rfl) ?_
    refine WR.nil ?_
    exact WA.ret1 rfl rfl (List.nil_sublist _) ⟨by congr 1; rw [Bool.eq_iff_iff]; simp_all [Prod.ext_iff], rfl⟩
theorem deletesTF (l : List Nd) (A : Option Addr) (cap : Nat) (w : World) (hS : SlN w A l) (hl : l.length ≤ 100000) (a n : Int) (m : List Nd) (A'' : Option Addr) (cap'' : Nat) (hM : SlN w A'' m) (hm : m.length ≤ 700000) (e : Int) (hk : deleteR l a n = (m, e)) : Ct Tryz.prog 46 #[.slice A l.length cap, .int .i64 a, .int .i64 n, .slice A'' m.length cap'', .int .i64 e] [] w (fun u hs => u = .bool true ∧ hs = []) := by
  have h := deletesF l A cap w hS hl a n m A'' cap'' hM hm e
  rw [decide_eq_true hk] at h
  exact h
set_option maxRecDepth 20000 in
/-- redpencil/redpencillaw15.replaces -/
theorem replacesF (l : List Nd) (A : Option Addr) (cap : Nat) (w : World) (hS : SlN w A l) (hl : l.length ≤ 100000) (d : Dot) (a n : Int) (r : List Int) (A' : Option Addr) (cap' : Nat) (hR : SlR w A' r) (hr : r.length ≤ 100000) (m : List Nd) (A'' : Option Addr) (cap'' : Nat) (hM : SlN w A'' m) (hm : m.length ≤ 700000) (e : Int) : Ct Tryz.prog 49 #[.slice A l.length cap, dv d, .int .i64 a, .int .i64 n, .slice A' r.length cap', .slice A'' m.length cap'', .int .i64 e] [] w (fun u hs => u = .bool (decide (replaceR l d a n r = (m, e))) ∧ hs = []) := by
  refine Ct.intro Tryz.func49 rfl Tryz.ntmps49 rfl ?_
  refine WA.seq ?_
  refine WA.region ?_
  refine WR.dw (G0 rfl) rfl rfl (.box (vs := [_, _]) rfl rfl rfl) ?_
  rintro _ _ ⟨b2, rfl, rfl⟩
  refine WR.val (G0 rfl) rfl rfl (.assign rfl rfl) ?_
  refine WR.nil ?_
  refine WA.seq ?_
  refine WA.region ?_
  refine WR.val (G0 rfl) rfl rfl (.move rfl rfl) ?_
  refine WR.val (G0 rfl) rfl rfl (.loadK (vs := [_, _]) rfl AG_39 rfl (fun _ hw => hw.rd_blk (k := 2) 0 rfl rfl)) ?_
  refine WR.val (G0 rfl) rfl rfl (.move rfl rfl) ?_
  refine WR.val (G0 rfl) rfl rfl (.move rfl rfl) ?_
  refine WR.val (G0 rfl) rfl rfl (.move rfl rfl) ?_
  refine WR.dw (G0 rfl) rfl rfl (.call0 (caps := []) rfl rfl rfl EN_50 (fun w hw => replaceEF _ _ _ _ (hw.slf0 hS) (by first | omega | (simp; omega)) _ _ _ _ _ _ (hw.slf0 hR) (by first | omega | (simp; omega)))) ?_
  rintro _ _ ⟨_, ⟨v4, v5, rfl, rfl⟩, rfl⟩
  refine WR.val (G0 rfl) rfl rfl (.move rfl rfl) ?_
  refine WR.val (G0 rfl) rfl rfl (.extract (vs := [_, _]) rfl rfl rfl) ?_
  refine WR.val (G0 rfl) rfl rfl (.extract (vs := [_, _]) rfl rfl rfl) ?_
  refine WR.val (G0 rfl) rfl rfl (.assign rfl rfl) ?_
  refine WR.val (G0 rfl) rfl rfl (.assign rfl rfl) ?_
  refine WR.nil ?_
  refine WA.seq ?_
  have hrl := replaceR_len l d a n r
  refine WA.region ?_
  refine WR.val (G0 rfl) rfl rfl (.move rfl rfl) ?_
  refine WR.val (G0 rfl) rfl rfl (.move rfl rfl) ?_
  refine WR.dw (G0 rfl) rfl rfl (.callv (caps := []) rfl rfl rfl EN_48 (fun w hw => jsameF _ _ _ _ (hw.slf_row 0 rfl) (by first | omega | (simp; omega)) _ _ _ (hw.slf0 hM) (by first | omega | (simp; omega)))) ?_
  rintro _ _ ⟨rfl, rfl⟩
  refine WR.val (G0 rfl) rfl rfl (.move rfl rfl) ?_
  refine WR.split (d := 29) rfl (fun h7 => ?_) (fun h7 => ?_)
  · have f8 := h7
    try simp only [decide_eq_true_eq, decide_eq_false_iff_not, Bool.not_eq_true', Bool.not_eq_false', Int.not_lt, Int.not_le] at f8
    refine WR.val (Gt rfl rfl rfl h7) rfl rfl (.move rfl rfl) ?_
    refine WR.val (Gt rfl rfl rfl h7) rfl rfl (.move rfl rfl) ?_
    refine WR.val (Gt rfl rfl rfl h7) rfl rfl (.eql rfl rfl rfl) ?_
    refine WR.val (G0 rfl) rfl rfl (.pick_t rfl rfl h7 rfl) ?_
    refine WR.val (G0 rfl) rfl rfl (.assign rfl rfl) ?_
    refine WR.nil ?_
    exact WA.ret1 rfl rfl (List.nil_sublist _) ⟨by congr 1; rw [Bool.eq_iff_iff]; simp_all [Prod.ext_iff], rfl⟩
  · have f10 := h7
    try simp only [decide_eq_true_eq, decide_eq_false_iff_not, Bool.not_eq_true', Bool.not_eq_false', Int.not_lt, Int.not_le] at f10
    refine WR.off (Gf rfl rfl rfl h7) rfl rfl ?_
    refine WR.off (Gf rfl rfl rfl h7) rfl rfl ?_
    refine WR.off (Gf rfl rfl rfl h7) rfl rfl ?_
    refine WR.val (G0 rfl) rfl rfl (.pick_f rfl rfl h7 rfl) ?_
    refine WR.val (G0 rfl) rfl rfl (.assign rfl rfl) ?_
    refine WR.nil ?_
    exact WA.ret1 rfl rfl (List.nil_sublist _) ⟨by congr 1; rw [Bool.eq_iff_iff]; simp_all [Prod.ext_iff], rfl⟩
theorem replacesTF (l : List Nd) (A : Option Addr) (cap : Nat) (w : World) (hS : SlN w A l) (hl : l.length ≤ 100000) (d : Dot) (a n : Int) (r : List Int) (A' : Option Addr) (cap' : Nat) (hR : SlR w A' r) (hr : r.length ≤ 100000) (m : List Nd) (A'' : Option Addr) (cap'' : Nat) (hM : SlN w A'' m) (hm : m.length ≤ 700000) (e : Int) (hk : replaceR l d a n r = (m, e)) : Ct Tryz.prog 49 #[.slice A l.length cap, dv d, .int .i64 a, .int .i64 n, .slice A' r.length cap', .slice A'' m.length cap'', .int .i64 e] [] w (fun u hs => u = .bool true ∧ hs = []) := by
  have h := replacesF l A cap w hS hl d a n r A' cap' hR hr m A'' cap'' hM hm e
  rw [decide_eq_true hk] at h
  exact h
set_option maxRecDepth 20000 in
/-- redpencil/redpencillaw15.texts -/
theorem textsTF (l m : List Nd) (A A' : Option Addr) (cap cap' : Nat) (bs : List UInt8) (w : World) (hS : SlN w A l) (hM : SlN w A' m) (hl : l.length ≤ 100000) (hm : m.length ≤ 100000) (hc : l.length ≤ cap) (hc' : m.length ≤ cap') (h0 : (applyR l m).2.2 = 0) (hb : rbytes (applyR l m).2.1 = bs) : Ct Tryz.prog 111 #[.slice A l.length cap, .slice A' m.length cap', .string ⟨bs.toArray⟩] [] w (fun u hs => u = .bool true ∧ hs = []) := by
  refine Ct.intro Tryz.func111 rfl Tryz.ntmps111 rfl ?_
  refine WA.seq ?_
  refine WA.region ?_
  refine WR.val (G0 rfl) rfl rfl (.assign rfl rfl) ?_
  refine WR.nil ?_
  refine WA.seq ?_
  refine WA.region ?_
  refine WR.val (G0 rfl) rfl rfl (.move rfl rfl) ?_
  refine WR.val (G0 rfl) rfl rfl (.move rfl rfl) ?_
  refine WR.dw (G0 rfl) rfl rfl (.call0 (caps := []) rfl rfl rfl EN_53 (fun w hw => applyEF _ _ _ _ (hw.slf0 hS) (by first | omega | (simp; omega)) _ _ _ (hw.slf0 hM) (by first | omega | (simp; omega)) hc hc')) ?_
  rintro _ _ ⟨_, ⟨v3, v4, v5, v6, rfl, rfl⟩, rfl⟩
  refine WR.val (G0 rfl) rfl rfl (.move rfl rfl) ?_
  refine WR.val (G0 rfl) rfl rfl (.extract (vs := [_, _, _]) rfl rfl rfl) ?_
  refine WR.val (G0 rfl) rfl rfl (.extract (vs := [_, _, _]) rfl rfl rfl) ?_
  refine WR.val (G0 rfl) rfl rfl (.extract (vs := [_, _, _]) rfl rfl rfl) ?_
  refine WR.val (G0 rfl) rfl rfl (.assign rfl rfl) ?_
  refine WR.val (G0 rfl) rfl rfl (.assign rfl rfl) ?_
  refine WR.val (G0 rfl) rfl rfl (.assign rfl rfl) ?_
  refine WR.nil ?_
  refine WA.seq ?_
  refine WA.region ?_
  refine WR.val (G0 rfl) rfl rfl (.move rfl rfl) ?_
  refine WR.val (G0 rfl) rfl rfl (.runesStr rfl ST_63.1 Tryz.underlying21 Tryz.underlying9 rfl (fun _ hw => by rw [← flat_rc]; exact (hw.slf_row 1 rfl))) ?_
  refine WR.val (G0 rfl) rfl rfl (.move rfl rfl) ?_
  refine WR.val (G0 rfl) rfl rfl (.eqlStr rfl Tryz.underlying9 rfl rfl) ?_
  refine WR.val (G0 rfl) rfl rfl (.move rfl rfl) ?_
  refine WR.split (d := 21) rfl (fun h8 => ?_) (fun h8 => ?_)
  · have f9 := h8
    try simp only [decide_eq_true_eq, decide_eq_false_iff_not, Bool.not_eq_true', Bool.not_eq_false', Int.not_lt, Int.not_le] at f9
    refine WR.val (Gt rfl rfl rfl h8) rfl rfl (.move rfl rfl) ?_
    refine WR.val (Gt rfl rfl rfl h8) rfl rfl (.eql rfl rfl rfl) ?_
    refine WR.val (G0 rfl) rfl rfl (.pick_t rfl rfl h8 rfl) ?_
    refine WR.val (G0 rfl) rfl rfl (.assign rfl rfl) ?_
    refine WR.nil ?_
    exact WA.ret1 rfl rfl (List.nil_sublist _) ⟨by have h9 := runesBytes_data (applyR l m).2.1; rw [hb] at h9; have h8 := bytes_data bs; simp_all, rfl⟩
  · have f11 := h8
    try simp only [decide_eq_true_eq, decide_eq_false_iff_not, Bool.not_eq_true', Bool.not_eq_false', Int.not_lt, Int.not_le] at f11
    refine WR.off (Gf rfl rfl rfl h8) rfl rfl ?_
    refine WR.off (Gf rfl rfl rfl h8) rfl rfl ?_
    refine WR.val (G0 rfl) rfl rfl (.pick_f rfl rfl h8 rfl) ?_
    refine WR.val (G0 rfl) rfl rfl (.assign rfl rfl) ?_
    refine WR.nil ?_
    exact WA.ret1 rfl rfl (List.nil_sublist _) ⟨by have h9 := runesBytes_data (applyR l m).2.1; rw [hb] at h9; have h8 := bytes_data bs; simp_all, rfl⟩
theorem jsameTF (l m : List Nd) (A A' : Option Addr) (cap cap' : Nat) (w : World) (hS : SlN w A l) (hM : SlN w A' m) (hl : l.length ≤ 800000) (hk : l = m) : Ct Tryz.prog 48 #[.slice A l.length cap, .slice A' m.length cap'] [] w (fun u hs => u = .bool true ∧ hs = []) := by
  have h := jsameF l A cap w hS hl m A' cap' hM (by subst hk; exact hl)
  rw [decide_eq_true hk] at h
  exact h
theorem jsameRTF (l m : List Int) (A A' : Option Addr) (cap cap' : Nat) (w : World) (hS : SlR w A l) (hM : SlR w A' m) (hl : l.length ≤ 800000) (hk : l = m) : Ct Tryz.prog 57 #[.slice A l.length cap, .slice A' m.length cap'] [] w (fun u hs => u = .bool true ∧ hs = []) := by
  have h := jsameRF l m A A' cap cap' w hS hM hl (by subst hk; exact hl)
  rw [decide_eq_true hk] at h
  exact h
theorem k1 : replaceR [⟨⟨1, 1⟩, ⟨0, 0⟩, 1, 97⟩, ⟨⟨1, 2⟩, ⟨1, 1⟩, 2, 0⟩, ⟨⟨1, 3⟩, ⟨1, 2⟩, 3, 99⟩] ⟨2, 1⟩ 1 0 [120, 121] = ([⟨⟨2, 1⟩, ⟨1, 1⟩, 4, 120⟩, ⟨⟨2, 2⟩, ⟨2, 1⟩, 5, 121⟩], 0) := by decide +kernel
theorem k2 : (applyR [⟨⟨1, 1⟩, ⟨0, 0⟩, 1, 97⟩, ⟨⟨1, 2⟩, ⟨1, 1⟩, 2, 0⟩, ⟨⟨1, 3⟩, ⟨1, 2⟩, 3, 99⟩] [⟨⟨2, 1⟩, ⟨1, 1⟩, 4, 120⟩, ⟨⟨2, 2⟩, ⟨2, 1⟩, 5, 121⟩]).2.2 = 0 ∧ rbytes (applyR [⟨⟨1, 1⟩, ⟨0, 0⟩, 1, 97⟩, ⟨⟨1, 2⟩, ⟨1, 1⟩, 2, 0⟩, ⟨⟨1, 3⟩, ⟨1, 2⟩, 3, 99⟩] [⟨⟨2, 1⟩, ⟨1, 1⟩, 4, 120⟩, ⟨⟨2, 2⟩, ⟨2, 1⟩, 5, 121⟩]).2.1 = [97, 120, 121, 99] := by decide +kernel
theorem k3 : deleteR [⟨⟨1, 1⟩, ⟨0, 0⟩, 1, 97⟩, ⟨⟨1, 2⟩, ⟨1, 1⟩, 2, 0⟩, ⟨⟨1, 3⟩, ⟨1, 2⟩, 3, 99⟩] 1 1 = ([⟨⟨1, 3⟩, ⟨1, 2⟩, 3, 0⟩], 0) := by decide +kernel
theorem k4 : replaceR [⟨⟨1, 1⟩, ⟨0, 0⟩, 1, 97⟩, ⟨⟨1, 2⟩, ⟨1, 1⟩, 2, 0⟩, ⟨⟨1, 3⟩, ⟨1, 2⟩, 3, 99⟩] ⟨2, 1⟩ 0 2 [122] = ([⟨⟨1, 1⟩, ⟨0, 0⟩, 1, 0⟩, ⟨⟨2, 1⟩, ⟨0, 0⟩, 4, 122⟩, ⟨⟨1, 3⟩, ⟨1, 2⟩, 3, 0⟩], 0) := by decide +kernel
theorem k5 : (applyR [⟨⟨1, 1⟩, ⟨0, 0⟩, 1, 97⟩, ⟨⟨1, 2⟩, ⟨1, 1⟩, 2, 0⟩, ⟨⟨1, 3⟩, ⟨1, 2⟩, 3, 99⟩] [⟨⟨1, 1⟩, ⟨0, 0⟩, 1, 0⟩, ⟨⟨2, 1⟩, ⟨0, 0⟩, 4, 122⟩, ⟨⟨1, 3⟩, ⟨1, 2⟩, 3, 0⟩]).2.2 = 0 ∧ rbytes (applyR [⟨⟨1, 1⟩, ⟨0, 0⟩, 1, 97⟩, ⟨⟨1, 2⟩, ⟨1, 1⟩, 2, 0⟩, ⟨⟨1, 3⟩, ⟨1, 2⟩, 3, 99⟩] [⟨⟨1, 1⟩, ⟨0, 0⟩, 1, 0⟩, ⟨⟨2, 1⟩, ⟨0, 0⟩, 4, 122⟩, ⟨⟨1, 3⟩, ⟨1, 2⟩, 3, 0⟩]).2.1 = [122] := by decide +kernel
theorem k6 : replaceR [⟨⟨1, 1⟩, ⟨0, 0⟩, 1, 97⟩, ⟨⟨1, 2⟩, ⟨1, 1⟩, 2, 0⟩, ⟨⟨1, 3⟩, ⟨1, 2⟩, 3, 99⟩] ⟨2, 1⟩ 3 0 [120] = ([], 3) := by decide +kernel
theorem k7 : replaceR [⟨⟨1, 1⟩, ⟨0, 0⟩, 1, 97⟩, ⟨⟨1, 2⟩, ⟨1, 1⟩, 2, 0⟩, ⟨⟨1, 3⟩, ⟨1, 2⟩, 3, 99⟩] ⟨1, 1⟩ 0 0 [120] = ([], 11) := by decide +kernel
theorem k8 : replaceR [⟨⟨1, 1⟩, ⟨0, 0⟩, 1, 97⟩, ⟨⟨1, 2⟩, ⟨1, 1⟩, 2, 0⟩, ⟨⟨1, 3⟩, ⟨1, 2⟩, 3, 99⟩] ⟨2, 4294967295⟩ 0 0 [120, 121] = ([], 14) := by decide +kernel
theorem k9 : replaceR [⟨⟨1, 1⟩, ⟨0, 0⟩, 1, 97⟩, ⟨⟨1, 2⟩, ⟨1, 1⟩, 2, 0⟩, ⟨⟨1, 3⟩, ⟨1, 2⟩, 3, 99⟩] ⟨2, 1⟩ 0 0 [0] = ([], 13) := by decide +kernel
theorem k10 : deleteR [⟨⟨1, 1⟩, ⟨0, 0⟩, 1, 97⟩, ⟨⟨1, 2⟩, ⟨1, 1⟩, 2, 0⟩, ⟨⟨1, 3⟩, ⟨1, 2⟩, 3, 99⟩] 0 3 = ([], 3) := by decide +kernel
theorem k11 : latest [⟨⟨1, 1⟩, ⟨0, 0⟩, 1, 97⟩, ⟨⟨1, 2⟩, ⟨1, 1⟩, 2, 0⟩, ⟨⟨1, 3⟩, ⟨1, 2⟩, 3, 99⟩] = 3 := by decide +kernel
set_option maxRecDepth 20000 in
/-- redpencil/redpencillaw15.known -/
theorem knownF (w : World) : Ct Tryz.prog 38 #[] [] w (fun u hs => u = .bool true ∧ hs = []) := by
  refine Ct.intro Tryz.func38 rfl Tryz.ntmps38 rfl ?_
  refine WA.seq ?_
  refine WA.region ?_
  refine WR.val (G0 rfl) rfl rfl (.assign rfl rfl) ?_
  refine WR.nil ?_
  refine WA.seq ?_
  refine WA.region ?_
  refine WR.dw (G0 rfl) rfl rfl (.callv (caps := []) rfl rfl rfl EN_60 (fun w hw => ldotF _ _ w)) ?_
  rintro _ _ ⟨rfl, rfl⟩
  refine WR.val (G0 rfl) rfl rfl (.build (vs := [_, _, _, _, _, _]) [.int .i64 0, .int .i64 0, .int .i64 0, .int .i64 0, .int .i64 0, .int .i32 0] [0, 2, 4, 5] rfl rfl rfl (fun _ => by kernel_rfl)) ?_
  refine WR.dw (G0 rfl) rfl rfl (.alloc (vs := [_, _, _, _, _, _]) rfl ZT_42 rfl) ?_
  rintro _ _ ⟨b2, rfl, rfl⟩
  refine WR.dw0 (G0 rfl) rfl (.store (i := 0) rfl AG_42.2 rfl rfl [_, _, _, _, _, _] rfl rfl (by intro u hu; simp at hu; rcases hu with rfl | rfl | rfl | rfl | rfl | rfl <;> rfl) rfl rfl) ?_
  rintro _ _ ⟨rfl, rfl⟩
  refine WR.nil ?_
  refine WA.seq ?_
  refine WA.region ?_
  refine WR.dw (G0 rfl) rfl rfl (.callv (caps := []) rfl rfl rfl EN_60 (fun w hw => ldotF _ _ w)) ?_
  rintro _ _ ⟨rfl, rfl⟩
  refine WR.dw (G0 rfl) rfl rfl (.callv (caps := []) rfl rfl rfl EN_60 (fun w hw => ldotF _ _ w)) ?_
  rintro _ _ ⟨rfl, rfl⟩
  refine WR.val (G0 rfl) rfl rfl (.build (vs := [_, _, _, _, _, _]) [.int .i64 0, .int .i64 0, .int .i64 0, .int .i64 0, .int .i64 0, .int .i32 0] [0, 2, 4, 5] rfl rfl rfl (fun _ => by kernel_rfl)) ?_
  refine WR.dw (G0 rfl) rfl rfl (.alloc (vs := [_, _, _, _, _, _]) rfl ZT_42 rfl) ?_
  rintro _ _ ⟨b4, rfl, rfl⟩
  refine WR.dw0 (G0 rfl) rfl (.store (i := 0) rfl AG_42.2 rfl rfl [_, _, _, _, _, _] rfl rfl (by intro u hu; simp at hu; rcases hu with rfl | rfl | rfl | rfl | rfl | rfl <;> rfl) rfl rfl) ?_
  rintro _ _ ⟨rfl, rfl⟩
  refine WR.nil ?_
  refine WA.seq ?_
  refine WA.region ?_
  refine WR.dw (G0 rfl) rfl rfl (.callv (caps := []) rfl rfl rfl EN_60 (fun w hw => ldotF _ _ w)) ?_
  rintro _ _ ⟨rfl, rfl⟩
  refine WR.dw (G0 rfl) rfl rfl (.callv (caps := []) rfl rfl rfl EN_60 (fun w hw => ldotF _ _ w)) ?_
  rintro _ _ ⟨rfl, rfl⟩
  refine WR.val (G0 rfl) rfl rfl (.build (vs := [_, _, _, _, _, _]) [.int .i64 0, .int .i64 0, .int .i64 0, .int .i64 0, .int .i64 0, .int .i32 0] [0, 2, 4, 5] rfl rfl rfl (fun _ => by kernel_rfl)) ?_
  refine WR.dw (G0 rfl) rfl rfl (.alloc (vs := [_, _, _, _, _, _]) rfl ZT_42 rfl) ?_
  rintro _ _ ⟨b6, rfl, rfl⟩
  refine WR.dw0 (G0 rfl) rfl (.store (i := 0) rfl AG_42.2 rfl rfl [_, _, _, _, _, _] rfl rfl (by intro u hu; simp at hu; rcases hu with rfl | rfl | rfl | rfl | rfl | rfl <;> rfl) rfl rfl) ?_
  rintro _ _ ⟨rfl, rfl⟩
  refine WR.nil ?_
  refine WA.seq ?_
  refine WA.region ?_
  refine WR.val (G0 rfl) rfl rfl (.loadK (vs := [_, _, _, _, _, _]) rfl AG_42 rfl (fun _ hw => hw.rd_blk (k := 6) 2 rfl rfl)) ?_
  refine WR.val (G0 rfl) rfl rfl (.loadK (vs := [_, _, _, _, _, _]) rfl AG_42 rfl (fun _ hw => hw.rd_blk (k := 6) 1 rfl rfl)) ?_
  refine WR.val (G0 rfl) rfl rfl (.loadK (vs := [_, _, _, _, _, _]) rfl AG_42 rfl (fun _ hw => hw.rd_blk (k := 6) 0 rfl rfl)) ?_
  refine WR.dw (G0 rfl) rfl rfl (.buildSlice (k := 6) (e := 42) (vs := [_, _, _, _, _, _, _, _, _, _, _, _, _, _, _, _, _, _]) rfl rfl rfl (fun _ => by kernel_rfl) rfl) ?_
  rintro _ _ ⟨b8, rfl, rfl⟩
  refine WR.val (G0 rfl) rfl rfl (.assign rfl rfl) ?_
  refine WR.nil ?_
  refine WA.seq ?_
  refine WA.draws0 follows ?_
  refine WH.take 0 rfl (Pf_blind _ _ _ _ _) (by kernel_rfl) (by kernel_rfl) (by kernel_rfl) (.refl _) (G0 rfl) rfl rfl (.loadK (vs := [_, _, _, _, _, _]) rfl AG_42 rfl (fun _ hw => hw.rd_blk (k := 6) 3 rfl rfl)) ?_
  refine WH.take 1 rfl (Pf_blind _ _ _ _ _) (by kernel_rfl) (by kernel_rfl) (by kernel_rfl) (.refl _) (G0 rfl) rfl rfl (.loadK (vs := [_, _, _, _, _, _]) rfl AG_42 rfl (fun _ hw => hw.rd_blk (k := 6) 1 rfl rfl)) ?_
  refine WH.two (i := 2) (j := 3) (by kernel_rfl) ?_ ?_
  · refine WO.dw 2 rfl (G0 rfl) rfl rfl (.alloc (vs := [_, _, _, _, _, _]) rfl ZT_42 rfl) ?_
    rintro _ _ ⟨b14, rfl, rfl⟩
    refine ⟨(.cons _ (.refl _)), ?_⟩
    refine WH.dw 3 rfl (by kernel_rfl) (G0 rfl) rfl rfl (.alloc (vs := [_, _, _, _, _, _]) rfl ZT_42 rfl) ?_
    rintro _ _ ⟨b18, rfl, rfl⟩
    refine ⟨(.cons _ (.cons _ (.refl _))), ?_⟩
    refine WH.dw0 4 rfl (by kernel_rfl) (G0 rfl) rfl (.store (i := 1) rfl AG_42.2 rfl rfl [_, _, _, _, _, _] rfl rfl (by intro u hu; simp at hu; rcases hu with rfl | rfl | rfl | rfl | rfl | rfl <;> rfl) rfl rfl) ?_
    rintro _ _ ⟨rfl, rfl⟩
    refine ⟨(.cons _ (.cons _ (.refl _))), ?_⟩
    refine WH.dw0 5 rfl (by kernel_rfl) (G0 rfl) rfl (.store (i := 0) rfl AG_42.2 rfl rfl [_, _, _, _, _, _] rfl rfl (by intro u hu; simp at hu; rcases hu with rfl | rfl | rfl | rfl | rfl | rfl <;> rfl) rfl rfl) ?_
    rintro _ _ ⟨rfl, rfl⟩
    refine ⟨(.cons _ (.cons _ (.refl _))), ?_⟩
    refine WH.done (by kernel_rfl) ?_
    refine WA.seq ?_
    refine WA.region ?_
    refine WR.val (G0 rfl) rfl rfl (.fa rfl FA_42_3 rfl) ?_
    refine WR.dw0 (G0 rfl) rfl (.store (i := 1) rfl NA_21.2 rfl rfl [_] rfl rfl (by intro u hu; simp at hu; subst hu; rfl) rfl rfl) ?_
    rintro _ _ ⟨rfl, rfl⟩
    refine WR.val (G0 rfl) rfl rfl (.fa rfl FA_42_3 rfl) ?_
    refine WR.dw0 (G0 rfl) rfl (.store (i := 0) rfl NA_21.2 rfl rfl [_] rfl rfl (by intro u hu; simp at hu; subst hu; rfl) rfl rfl) ?_
    rintro _ _ ⟨rfl, rfl⟩
    refine WR.nil ?_
    refine WA.seq ?_
    refine WA.region ?_
    refine WR.dw (G0 rfl) rfl rfl (.callv (caps := []) rfl rfl rfl EN_60 (fun w hw => ldotF _ _ w)) ?_
    rintro _ _ ⟨rfl, rfl⟩
    refine WR.dw (G0 rfl) rfl rfl (.callv (caps := []) rfl rfl rfl EN_60 (fun w hw => ldotF _ _ w)) ?_
    rintro _ _ ⟨rfl, rfl⟩
    refine WR.val (G0 rfl) rfl rfl (.build (vs := [_, _, _, _, _, _]) [.int .i64 0, .int .i64 0, .int .i64 0, .int .i64 0, .int .i64 0, .int .i32 0] [0, 2, 4, 5] rfl rfl rfl (fun _ => by kernel_rfl)) ?_
    refine WR.dw (G0 rfl) rfl rfl (.callv (caps := []) rfl rfl rfl EN_60 (fun w hw => ldotF _ _ w)) ?_
    rintro _ _ ⟨rfl, rfl⟩
    refine WR.dw (G0 rfl) rfl rfl (.callv (caps := []) rfl rfl rfl EN_60 (fun w hw => ldotF _ _ w)) ?_
    rintro _ _ ⟨rfl, rfl⟩
    refine WR.val (G0 rfl) rfl rfl (.build (vs := [_, _, _, _, _, _]) [.int .i64 0, .int .i64 0, .int .i64 0, .int .i64 0, .int .i64 0, .int .i32 0] [0, 2, 4, 5] rfl rfl rfl (fun _ => by kernel_rfl)) ?_
    refine WR.dw (G0 rfl) rfl rfl (.buildSlice (k := 6) (e := 42) (vs := [_, _, _, _, _, _, _, _, _, _, _, _]) rfl rfl rfl (fun _ => by kernel_rfl) rfl) ?_
    rintro _ _ ⟨b20, rfl, rfl⟩
    refine WR.val (G0 rfl) rfl rfl (.assign rfl rfl) ?_
    refine WR.nil ?_
    refine WA.seq ?_
    refine WA.draws0 follows ?_
    refine WH.take 0 rfl (Pf_blind _ _ _ _ _) (by kernel_rfl) (by kernel_rfl) (by kernel_rfl) (.refl _) (G0 rfl) rfl rfl (.loadK (vs := [_, _, _, _, _, _]) rfl AG_42 rfl (fun _ hw => hw.rd_blk (k := 6) 2 rfl rfl)) ?_
    refine WH.take 3 rfl (Pf_blind _ _ _ _ _) (by kernel_rfl) (by kernel_rfl) (by kernel_rfl) (.refl _) (G0 rfl) rfl rfl (.loadK (vs := [_, _, _, _, _, _]) rfl AG_42 rfl (fun _ hw => hw.rd_blk (k := 6) 1 rfl rfl)) ?_
    refine WH.dw 1 rfl (by kernel_rfl) (G0 rfl) rfl rfl (.callv (caps := []) rfl rfl rfl EN_60 (fun w hw => ldotF _ _ w)) ?_
    rintro _ _ ⟨rfl, rfl⟩
    refine ⟨(.refl _), ?_⟩
    refine WH.take 2 rfl (Pf_blind _ _ _ _ _) (by kernel_rfl) (by kernel_rfl) (by kernel_rfl) (.refl _) (G0 rfl) rfl rfl (.build (vs := [_, _, _, _, _, _]) [.int .i64 0, .int .i64 0, .int .i64 0, .int .i64 0, .int .i64 0, .int .i32 0] [0, 2, 4, 5] rfl rfl rfl (fun _ => by kernel_rfl)) ?_
    refine WH.dw 4 rfl (by kernel_rfl) (G0 rfl) rfl rfl (.buildSlice (k := 6) (e := 42) (vs := [_, _, _, _, _, _, _, _, _, _, _, _, _, _, _, _, _, _]) rfl rfl rfl (fun _ => by kernel_rfl) rfl) ?_
    rintro _ _ ⟨b24, rfl, rfl⟩
    refine ⟨(.cons _ (.refl _)), ?_⟩
    refine WH.take 5 rfl (Pf_blind _ _ _ _ _) (by kernel_rfl) (by kernel_rfl) (by kernel_rfl) (.cons _ (.refl _)) (G0 rfl) rfl rfl (.assign rfl rfl) ?_
    refine WH.done (by kernel_rfl) ?_
    refine WA.seq ?_
    refine WA.seq ?_
    refine WA.region ?_
    refine WR.val (G0 rfl) rfl rfl (.move rfl rfl) ?_
    refine WR.dw (G0 rfl) rfl rfl (.callv (caps := []) rfl rfl rfl EN_60 (fun w hw => ldotF _ _ w)) ?_
    rintro _ _ ⟨rfl, rfl⟩
    refine WR.dw (G0 rfl) rfl rfl (.buildSlice (k := 1) (e := 21) (vs := [_, _]) rfl rfl rfl (fun _ => by kernel_rfl) rfl) ?_
    rintro _ _ ⟨b26, rfl, rfl⟩
    refine WR.val (G0 rfl) rfl rfl (.move rfl rfl) ?_
    refine WR.dw (G0 rfl) rfl rfl (.callv (caps := []) rfl rfl rfl EN_41 (fun w hw => insertsTF [⟨⟨1, 1⟩, ⟨0, 0⟩, 1, 97⟩, ⟨⟨1, 2⟩, ⟨1, 1⟩, 2, 0⟩, ⟨⟨1, 3⟩, ⟨1, 2⟩, 3, 99⟩] _ _ _ (hw.slf_blk 5 rfl rfl (by simp [maxLen])) (by simp) ⟨2, 1⟩ 1 [120, 121] _ _ (hw.slf_blk 0 rfl rfl (by simp [maxLen])) (by simp) [⟨⟨2, 1⟩, ⟨1, 1⟩, 4, 120⟩, ⟨⟨2, 2⟩, ⟨2, 1⟩, 5, 121⟩] _ _ (hw.slf_blk 2 rfl rfl (by simp [maxLen])) (by simp) 0 k1)) ?_
    rintro _ _ ⟨rfl, rfl⟩
    refine WR.val (G0 rfl) rfl rfl (.not rfl rfl) ?_
    refine WR.val (G0 rfl) rfl rfl (.move rfl rfl) ?_
    refine WR.val (Gt rfl rfl rfl rfl) rfl rfl (.move rfl rfl) ?_
    refine WR.val (Gt rfl rfl rfl rfl) rfl rfl (.move rfl rfl) ?_
    refine WR.dw (Gt rfl rfl rfl rfl) rfl rfl (.callv (caps := []) rfl rfl rfl EN_111 (fun w hw => textsTF [⟨⟨1, 1⟩, ⟨0, 0⟩, 1, 97⟩, ⟨⟨1, 2⟩, ⟨1, 1⟩, 2, 0⟩, ⟨⟨1, 3⟩, ⟨1, 2⟩, 3, 99⟩] [⟨⟨2, 1⟩, ⟨1, 1⟩, 4, 120⟩, ⟨⟨2, 2⟩, ⟨2, 1⟩, 5, 121⟩] _ _ _ _ [97, 120, 121, 99] _ (hw.slf_blk 5 rfl rfl (by simp [maxLen])) (hw.slf_blk 2 rfl rfl (by simp [maxLen])) (by simp) (by simp) (by simp) (by simp) k2.1 k2.2)) ?_
    rintro _ _ ⟨rfl, rfl⟩
    refine WR.val (Gt rfl rfl rfl rfl) rfl rfl (.not rfl rfl) ?_
    refine WR.val (G0 rfl) rfl rfl (.pick_f rfl rfl rfl rfl) ?_
    refine WR.val (G0 rfl) rfl rfl (.move rfl rfl) ?_
    refine WR.val (Gt rfl rfl rfl rfl) rfl rfl (.move rfl rfl) ?_
    refine WR.val (Gt rfl rfl rfl rfl) rfl rfl (.loadK (vs := [_, _, _, _, _, _]) rfl AG_42 rfl (fun _ hw => hw.rd_blk (k := 6) 3 rfl rfl)) ?_
    refine WR.dw (Gt rfl rfl rfl rfl) rfl rfl (.buildSlice (k := 6) (e := 42) (vs := [_, _, _, _, _, _]) rfl rfl rfl (fun _ => by kernel_rfl) rfl) ?_
    rintro _ _ ⟨b30, rfl, rfl⟩
    refine WR.dw (Gt rfl rfl rfl rfl) rfl rfl (.callv (caps := []) rfl rfl rfl EN_46 (fun w hw => deletesTF [⟨⟨1, 1⟩, ⟨0, 0⟩, 1, 97⟩, ⟨⟨1, 2⟩, ⟨1, 1⟩, 2, 0⟩, ⟨⟨1, 3⟩, ⟨1, 2⟩, 3, 99⟩] _ _ _ (hw.slf_blk 6 rfl rfl (by simp [maxLen])) (by simp) 1 1 [⟨⟨1, 3⟩, ⟨1, 2⟩, 3, 0⟩] _ _ (hw.slf_blk 0 rfl rfl (by simp [maxLen])) (by simp) 0 k3)) ?_
    rintro _ _ ⟨rfl, rfl⟩
    refine WR.val (Gt rfl rfl rfl rfl) rfl rfl (.not rfl rfl) ?_
    refine WR.val (G0 rfl) rfl rfl (.pick_f rfl rfl rfl rfl) ?_
    refine WR.val (G0 rfl) rfl rfl (.move rfl rfl) ?_
    refine WR.val (Gt rfl rfl rfl rfl) rfl rfl (.move rfl rfl) ?_
    refine WR.dw (Gt rfl rfl rfl rfl) rfl rfl (.callv (caps := []) rfl rfl rfl EN_60 (fun w hw => ldotF _ _ w)) ?_
    rintro _ _ ⟨rfl, rfl⟩
    refine WR.dw (Gt rfl rfl rfl rfl) rfl rfl (.buildSlice (k := 1) (e := 21) (vs := [_]) rfl rfl rfl (fun _ => by kernel_rfl) rfl) ?_
    rintro _ _ ⟨b33, rfl, rfl⟩
    refine WR.val (Gt rfl rfl rfl rfl) rfl rfl (.move rfl rfl) ?_
    refine WR.dw (Gt rfl rfl rfl rfl) rfl rfl (.callv (caps := []) rfl rfl rfl EN_49 (fun w hw => replacesTF [⟨⟨1, 1⟩, ⟨0, 0⟩, 1, 97⟩, ⟨⟨1, 2⟩, ⟨1, 1⟩, 2, 0⟩, ⟨⟨1, 3⟩, ⟨1, 2⟩, 3, 99⟩] _ _ _ (hw.slf_blk 7 rfl rfl (by simp [maxLen])) (by simp) ⟨2, 1⟩ 0 2 [122] _ _ (hw.slf_blk 0 rfl rfl (by simp [maxLen])) (by simp) [⟨⟨1, 1⟩, ⟨0, 0⟩, 1, 0⟩, ⟨⟨2, 1⟩, ⟨0, 0⟩, 4, 122⟩, ⟨⟨1, 3⟩, ⟨1, 2⟩, 3, 0⟩] _ _ (hw.slf_blk 3 rfl rfl (by simp [maxLen])) (by simp) 0 k4)) ?_
    rintro _ _ ⟨rfl, rfl⟩
    refine WR.val (Gt rfl rfl rfl rfl) rfl rfl (.not rfl rfl) ?_
    refine WR.val (G0 rfl) rfl rfl (.pick_f rfl rfl rfl rfl) ?_
    refine WR.val (G0 rfl) rfl rfl (.move rfl rfl) ?_
    refine WR.val (Gt rfl rfl rfl rfl) rfl rfl (.move rfl rfl) ?_
    refine WR.val (Gt rfl rfl rfl rfl) rfl rfl (.move rfl rfl) ?_
    refine WR.dw (Gt rfl rfl rfl rfl) rfl rfl (.callv (caps := []) rfl rfl rfl EN_111 (fun w hw => textsTF [⟨⟨1, 1⟩, ⟨0, 0⟩, 1, 97⟩, ⟨⟨1, 2⟩, ⟨1, 1⟩, 2, 0⟩, ⟨⟨1, 3⟩, ⟨1, 2⟩, 3, 99⟩] [⟨⟨1, 1⟩, ⟨0, 0⟩, 1, 0⟩, ⟨⟨2, 1⟩, ⟨0, 0⟩, 4, 122⟩, ⟨⟨1, 3⟩, ⟨1, 2⟩, 3, 0⟩] _ _ _ _ [122] _ (hw.slf_blk 7 rfl rfl (by simp [maxLen])) (hw.slf_blk 3 rfl rfl (by simp [maxLen])) (by simp) (by simp) (by simp) (by simp) k5.1 k5.2)) ?_
    rintro _ _ ⟨rfl, rfl⟩
    refine WR.val (Gt rfl rfl rfl rfl) rfl rfl (.not rfl rfl) ?_
    refine WR.val (G0 rfl) rfl rfl (.pick_f rfl rfl rfl rfl) ?_
    refine WR.nil ?_
    refine WA.cond_f rfl rfl ?_
    refine WA.skip ?_
    refine WA.seq ?_
    refine WA.region ?_
    refine WR.dw (G0 rfl) rfl rfl (.buildSlice (k := 1) (e := 21) (vs := [_]) rfl rfl rfl (fun _ => by kernel_rfl) rfl) ?_
    rintro _ _ ⟨b37, rfl, rfl⟩
    refine WR.val (G0 rfl) rfl rfl (.assign rfl rfl) ?_
    refine WR.nil ?_
    refine WA.seq ?_
    refine WA.region ?_
    refine WR.val (G0 rfl) rfl rfl (.move rfl rfl) ?_
    refine WR.dw (G0 rfl) rfl rfl (.callv (caps := []) rfl rfl rfl EN_60 (fun w hw => ldotF _ _ w)) ?_
    rintro _ _ ⟨rfl, rfl⟩
    refine WR.val (G0 rfl) rfl rfl (.move rfl rfl) ?_
    refine WR.dw (G0 rfl) rfl rfl (.callv (caps := []) rfl rfl rfl EN_41 (fun w hw => insertsTF [⟨⟨1, 1⟩, ⟨0, 0⟩, 1, 97⟩, ⟨⟨1, 2⟩, ⟨1, 1⟩, 2, 0⟩, ⟨⟨1, 3⟩, ⟨1, 2⟩, 3, 99⟩] _ _ _ (hw.slf_blk 8 rfl rfl (by simp [maxLen])) (by simp) ⟨2, 1⟩ 3 [120] _ _ (hw.slf_blk 0 rfl rfl (by simp [maxLen])) (by simp) [] _ _ (SlF.nil _ _ _) (by simp) 3 k6)) ?_
    rintro _ _ ⟨rfl, rfl⟩
    refine WR.val (G0 rfl) rfl rfl (.move rfl rfl) ?_
    refine WR.val (Gt rfl rfl rfl rfl) rfl rfl (.move rfl rfl) ?_
    refine WR.dw (Gt rfl rfl rfl rfl) rfl rfl (.callv (caps := []) rfl rfl rfl EN_60 (fun w hw => ldotF _ _ w)) ?_
    rintro _ _ ⟨rfl, rfl⟩
    refine WR.val (Gt rfl rfl rfl rfl) rfl rfl (.move rfl rfl) ?_
    refine WR.dw (Gt rfl rfl rfl rfl) rfl rfl (.callv (caps := []) rfl rfl rfl EN_41 (fun w hw => insertsTF [⟨⟨1, 1⟩, ⟨0, 0⟩, 1, 97⟩, ⟨⟨1, 2⟩, ⟨1, 1⟩, 2, 0⟩, ⟨⟨1, 3⟩, ⟨1, 2⟩, 3, 99⟩] _ _ _ (hw.slf_blk 8 rfl rfl (by simp [maxLen])) (by simp) ⟨1, 1⟩ 0 [120] _ _ (hw.slf_blk 0 rfl rfl (by simp [maxLen])) (by simp) [] _ _ (SlF.nil _ _ _) (by simp) 11 k7)) ?_
    rintro _ _ ⟨rfl, rfl⟩
    refine WR.val (G0 rfl) rfl rfl (.pick_t rfl rfl rfl rfl) ?_
    refine WR.val (G0 rfl) rfl rfl (.move rfl rfl) ?_
    refine WR.val (Gt rfl rfl rfl rfl) rfl rfl (.move rfl rfl) ?_
    refine WR.dw (Gt rfl rfl rfl rfl) rfl rfl (.callv (caps := []) rfl rfl rfl EN_60 (fun w hw => ldotF _ _ w)) ?_
    rintro _ _ ⟨rfl, rfl⟩
    refine WR.dw (Gt rfl rfl rfl rfl) rfl rfl (.buildSlice (k := 1) (e := 21) (vs := [_, _]) rfl rfl rfl (fun _ => by kernel_rfl) rfl) ?_
    rintro _ _ ⟨b39, rfl, rfl⟩
    refine WR.dw (Gt rfl rfl rfl rfl) rfl rfl (.callv (caps := []) rfl rfl rfl EN_41 (fun w hw => insertsTF [⟨⟨1, 1⟩, ⟨0, 0⟩, 1, 97⟩, ⟨⟨1, 2⟩, ⟨1, 1⟩, 2, 0⟩, ⟨⟨1, 3⟩, ⟨1, 2⟩, 3, 99⟩] _ _ _ (hw.slf_blk 9 rfl rfl (by simp [maxLen])) (by simp) ⟨2, 4294967295⟩ 0 [120, 121] _ _ (hw.slf_blk 0 rfl rfl (by simp [maxLen])) (by simp) [] _ _ (SlF.nil _ _ _) (by simp) 14 k8)) ?_
    rintro _ _ ⟨rfl, rfl⟩
    refine WR.val (G0 rfl) rfl rfl (.pick_t rfl rfl rfl rfl) ?_
    refine WR.val (G0 rfl) rfl rfl (.move rfl rfl) ?_
    refine WR.val (Gt rfl rfl rfl rfl) rfl rfl (.move rfl rfl) ?_
    refine WR.dw (Gt rfl rfl rfl rfl) rfl rfl (.callv (caps := []) rfl rfl rfl EN_60 (fun w hw => ldotF _ _ w)) ?_
    rintro _ _ ⟨rfl, rfl⟩
    refine WR.dw (Gt rfl rfl rfl rfl) rfl rfl (.buildSlice (k := 1) (e := 21) (vs := [_]) rfl rfl rfl (fun _ => by kernel_rfl) rfl) ?_
    rintro _ _ ⟨b41, rfl, rfl⟩
    refine WR.dw (Gt rfl rfl rfl rfl) rfl rfl (.callv (caps := []) rfl rfl rfl EN_41 (fun w hw => insertsTF [⟨⟨1, 1⟩, ⟨0, 0⟩, 1, 97⟩, ⟨⟨1, 2⟩, ⟨1, 1⟩, 2, 0⟩, ⟨⟨1, 3⟩, ⟨1, 2⟩, 3, 99⟩] _ _ _ (hw.slf_blk 10 rfl rfl (by simp [maxLen])) (by simp) ⟨2, 1⟩ 0 [0] _ _ (hw.slf_blk 0 rfl rfl (by simp [maxLen])) (by simp) [] _ _ (SlF.nil _ _ _) (by simp) 13 k9)) ?_
    rintro _ _ ⟨rfl, rfl⟩
    refine WR.val (G0 rfl) rfl rfl (.pick_t rfl rfl rfl rfl) ?_
    refine WR.val (G0 rfl) rfl rfl (.move rfl rfl) ?_
    refine WR.val (Gt rfl rfl rfl rfl) rfl rfl (.move rfl rfl) ?_
    refine WR.dw (Gt rfl rfl rfl rfl) rfl rfl (.callv (caps := []) rfl rfl rfl EN_46 (fun w hw => deletesTF [⟨⟨1, 1⟩, ⟨0, 0⟩, 1, 97⟩, ⟨⟨1, 2⟩, ⟨1, 1⟩, 2, 0⟩, ⟨⟨1, 3⟩, ⟨1, 2⟩, 3, 99⟩] _ _ _ (hw.slf_blk 10 rfl rfl (by simp [maxLen])) (by simp) 0 3 [] _ _ (SlF.nil _ _ _) (by simp) 3 k10)) ?_
    rintro _ _ ⟨rfl, rfl⟩
    refine WR.val (G0 rfl) rfl rfl (.pick_t rfl rfl rfl rfl) ?_
    refine WR.val (G0 rfl) rfl rfl (.move rfl rfl) ?_
    refine WR.val (Gt rfl rfl rfl rfl) rfl rfl (.move rfl rfl) ?_
    refine WR.dw (Gt rfl rfl rfl rfl) rfl rfl (.callv (caps := []) rfl rfl rfl EN_51 (fun w hw => latestF [⟨⟨1, 1⟩, ⟨0, 0⟩, 1, 97⟩, ⟨⟨1, 2⟩, ⟨1, 1⟩, 2, 0⟩, ⟨⟨1, 3⟩, ⟨1, 2⟩, 3, 99⟩] _ _ _ (hw.slf_blk 10 rfl rfl (by simp [maxLen])) (by simp))) ?_
    rintro _ _ ⟨rfl, rfl⟩
    refine WR.val (Gt rfl rfl rfl rfl) rfl rfl (.eql rfl rfl rfl) ?_
    refine WR.val (G0 rfl) rfl rfl (.pick_t rfl rfl rfl rfl) ?_
    refine WR.val (G0 rfl) rfl rfl (.assign rfl rfl) ?_
    refine WR.nil ?_
    exact WA.ret1 rfl rfl (List.nil_sublist _) ⟨by rw [k11]; rfl, rfl⟩
  · refine WO.dw 3 rfl (G0 rfl) rfl rfl (.alloc (vs := [_, _, _, _, _, _]) rfl ZT_42 rfl) ?_
    rintro _ _ ⟨b44, rfl, rfl⟩
    refine ⟨(.cons _ (.refl _)), ?_⟩
    refine WH.dw 2 rfl (by kernel_rfl) (G0 rfl) rfl rfl (.alloc (vs := [_, _, _, _, _, _]) rfl ZT_42 rfl) ?_
    rintro _ _ ⟨b48, rfl, rfl⟩
    refine ⟨(.cons _ (.cons _ (.refl _))), ?_⟩
    refine WH.dw0 4 rfl (by kernel_rfl) (G0 rfl) rfl (.store (i := 0) rfl AG_42.2 rfl rfl [_, _, _, _, _, _] rfl rfl (by intro u hu; simp at hu; rcases hu with rfl | rfl | rfl | rfl | rfl | rfl <;> rfl) rfl rfl) ?_
    rintro _ _ ⟨rfl, rfl⟩
    refine ⟨(.cons _ (.cons _ (.refl _))), ?_⟩
    refine WH.dw0 5 rfl (by kernel_rfl) (G0 rfl) rfl (.store (i := 1) rfl AG_42.2 rfl rfl [_, _, _, _, _, _] rfl rfl (by intro u hu; simp at hu; rcases hu with rfl | rfl | rfl | rfl | rfl | rfl <;> rfl) rfl rfl) ?_
    rintro _ _ ⟨rfl, rfl⟩
    refine ⟨(.cons _ (.cons _ (.refl _))), ?_⟩
    refine WH.done (by kernel_rfl) ?_
    refine WA.seq ?_
    refine WA.region ?_
    refine WR.val (G0 rfl) rfl rfl (.fa rfl FA_42_3 rfl) ?_
    refine WR.dw0 (G0 rfl) rfl (.store (i := 0) rfl NA_21.2 rfl rfl [_] rfl rfl (by intro u hu; simp at hu; subst hu; rfl) rfl rfl) ?_
    rintro _ _ ⟨rfl, rfl⟩
    refine WR.val (G0 rfl) rfl rfl (.fa rfl FA_42_3 rfl) ?_
    refine WR.dw0 (G0 rfl) rfl (.store (i := 1) rfl NA_21.2 rfl rfl [_] rfl rfl (by intro u hu; simp at hu; subst hu; rfl) rfl rfl) ?_
    rintro _ _ ⟨rfl, rfl⟩
    refine WR.nil ?_
    refine WA.seq ?_
    refine WA.region ?_
    refine WR.dw (G0 rfl) rfl rfl (.callv (caps := []) rfl rfl rfl EN_60 (fun w hw => ldotF _ _ w)) ?_
    rintro _ _ ⟨rfl, rfl⟩
    refine WR.dw (G0 rfl) rfl rfl (.callv (caps := []) rfl rfl rfl EN_60 (fun w hw => ldotF _ _ w)) ?_
    rintro _ _ ⟨rfl, rfl⟩
    refine WR.val (G0 rfl) rfl rfl (.build (vs := [_, _, _, _, _, _]) [.int .i64 0, .int .i64 0, .int .i64 0, .int .i64 0, .int .i64 0, .int .i32 0] [0, 2, 4, 5] rfl rfl rfl (fun _ => by kernel_rfl)) ?_
    refine WR.dw (G0 rfl) rfl rfl (.callv (caps := []) rfl rfl rfl EN_60 (fun w hw => ldotF _ _ w)) ?_
    rintro _ _ ⟨rfl, rfl⟩
    refine WR.dw (G0 rfl) rfl rfl (.callv (caps := []) rfl rfl rfl EN_60 (fun w hw => ldotF _ _ w)) ?_
    rintro _ _ ⟨rfl, rfl⟩
    refine WR.val (G0 rfl) rfl rfl (.build (vs := [_, _, _, _, _, _]) [.int .i64 0, .int .i64 0, .int .i64 0, .int .i64 0, .int .i64 0, .int .i32 0] [0, 2, 4, 5] rfl rfl rfl (fun _ => by kernel_rfl)) ?_
    refine WR.dw (G0 rfl) rfl rfl (.buildSlice (k := 6) (e := 42) (vs := [_, _, _, _, _, _, _, _, _, _, _, _]) rfl rfl rfl (fun _ => by kernel_rfl) rfl) ?_
    rintro _ _ ⟨b50, rfl, rfl⟩
    refine WR.val (G0 rfl) rfl rfl (.assign rfl rfl) ?_
    refine WR.nil ?_
    refine WA.seq ?_
    refine WA.draws0 follows ?_
    refine WH.take 0 rfl (Pf_blind _ _ _ _ _) (by kernel_rfl) (by kernel_rfl) (by kernel_rfl) (.refl _) (G0 rfl) rfl rfl (.loadK (vs := [_, _, _, _, _, _]) rfl AG_42 rfl (fun _ hw => hw.rd_blk (k := 6) 1 rfl rfl)) ?_
    refine WH.take 3 rfl (Pf_blind _ _ _ _ _) (by kernel_rfl) (by kernel_rfl) (by kernel_rfl) (.refl _) (G0 rfl) rfl rfl (.loadK (vs := [_, _, _, _, _, _]) rfl AG_42 rfl (fun _ hw => hw.rd_blk (k := 6) 2 rfl rfl)) ?_
    refine WH.dw 1 rfl (by kernel_rfl) (G0 rfl) rfl rfl (.callv (caps := []) rfl rfl rfl EN_60 (fun w hw => ldotF _ _ w)) ?_
    rintro _ _ ⟨rfl, rfl⟩
    refine ⟨(.refl _), ?_⟩
    refine WH.take 2 rfl (Pf_blind _ _ _ _ _) (by kernel_rfl) (by kernel_rfl) (by kernel_rfl) (.refl _) (G0 rfl) rfl rfl (.build (vs := [_, _, _, _, _, _]) [.int .i64 0, .int .i64 0, .int .i64 0, .int .i64 0, .int .i64 0, .int .i32 0] [0, 2, 4, 5] rfl rfl rfl (fun _ => by kernel_rfl)) ?_
    refine WH.dw 4 rfl (by kernel_rfl) (G0 rfl) rfl rfl (.buildSlice (k := 6) (e := 42) (vs := [_, _, _, _, _, _, _, _, _, _, _, _, _, _, _, _, _, _]) rfl rfl rfl (fun _ => by kernel_rfl) rfl) ?_
    rintro _ _ ⟨b54, rfl, rfl⟩
    refine ⟨(.cons _ (.refl _)), ?_⟩
    refine WH.take 5 rfl (Pf_blind _ _ _ _ _) (by kernel_rfl) (by kernel_rfl) (by kernel_rfl) (.cons _ (.refl _)) (G0 rfl) rfl rfl (.assign rfl rfl) ?_
    refine WH.done (by kernel_rfl) ?_
    refine WA.seq ?_
    refine WA.seq ?_
    refine WA.region ?_
    refine WR.val (G0 rfl) rfl rfl (.move rfl rfl) ?_
    refine WR.dw (G0 rfl) rfl rfl (.callv (caps := []) rfl rfl rfl EN_60 (fun w hw => ldotF _ _ w)) ?_
    rintro _ _ ⟨rfl, rfl⟩
    refine WR.dw (G0 rfl) rfl rfl (.buildSlice (k := 1) (e := 21) (vs := [_, _]) rfl rfl rfl (fun _ => by kernel_rfl) rfl) ?_
    rintro _ _ ⟨b56, rfl, rfl⟩
    refine WR.val (G0 rfl) rfl rfl (.move rfl rfl) ?_
    refine WR.dw (G0 rfl) rfl rfl (.callv (caps := []) rfl rfl rfl EN_41 (fun w hw => insertsTF [⟨⟨1, 1⟩, ⟨0, 0⟩, 1, 97⟩, ⟨⟨1, 2⟩, ⟨1, 1⟩, 2, 0⟩, ⟨⟨1, 3⟩, ⟨1, 2⟩, 3, 99⟩] _ _ _ (hw.slf_blk 5 rfl rfl (by simp [maxLen])) (by simp) ⟨2, 1⟩ 1 [120, 121] _ _ (hw.slf_blk 0 rfl rfl (by simp [maxLen])) (by simp) [⟨⟨2, 1⟩, ⟨1, 1⟩, 4, 120⟩, ⟨⟨2, 2⟩, ⟨2, 1⟩, 5, 121⟩] _ _ (hw.slf_blk 2 rfl rfl (by simp [maxLen])) (by simp) 0 k1)) ?_
    rintro _ _ ⟨rfl, rfl⟩
    refine WR.val (G0 rfl) rfl rfl (.not rfl rfl) ?_
    refine WR.val (G0 rfl) rfl rfl (.move rfl rfl) ?_
    refine WR.val (Gt rfl rfl rfl rfl) rfl rfl (.move rfl rfl) ?_
    refine WR.val (Gt rfl rfl rfl rfl) rfl rfl (.move rfl rfl) ?_
    refine WR.dw (Gt rfl rfl rfl rfl) rfl rfl (.callv (caps := []) rfl rfl rfl EN_111 (fun w hw => textsTF [⟨⟨1, 1⟩, ⟨0, 0⟩, 1, 97⟩, ⟨⟨1, 2⟩, ⟨1, 1⟩, 2, 0⟩, ⟨⟨1, 3⟩, ⟨1, 2⟩, 3, 99⟩] [⟨⟨2, 1⟩, ⟨1, 1⟩, 4, 120⟩, ⟨⟨2, 2⟩, ⟨2, 1⟩, 5, 121⟩] _ _ _ _ [97, 120, 121, 99] _ (hw.slf_blk 5 rfl rfl (by simp [maxLen])) (hw.slf_blk 2 rfl rfl (by simp [maxLen])) (by simp) (by simp) (by simp) (by simp) k2.1 k2.2)) ?_
    rintro _ _ ⟨rfl, rfl⟩
    refine WR.val (Gt rfl rfl rfl rfl) rfl rfl (.not rfl rfl) ?_
    refine WR.val (G0 rfl) rfl rfl (.pick_f rfl rfl rfl rfl) ?_
    refine WR.val (G0 rfl) rfl rfl (.move rfl rfl) ?_
    refine WR.val (Gt rfl rfl rfl rfl) rfl rfl (.move rfl rfl) ?_
    refine WR.val (Gt rfl rfl rfl rfl) rfl rfl (.loadK (vs := [_, _, _, _, _, _]) rfl AG_42 rfl (fun _ hw => hw.rd_blk (k := 6) 4 rfl rfl)) ?_
    refine WR.dw (Gt rfl rfl rfl rfl) rfl rfl (.buildSlice (k := 6) (e := 42) (vs := [_, _, _, _, _, _]) rfl rfl rfl (fun _ => by kernel_rfl) rfl) ?_
    rintro _ _ ⟨b60, rfl, rfl⟩
    refine WR.dw (Gt rfl rfl rfl rfl) rfl rfl (.callv (caps := []) rfl rfl rfl EN_46 (fun w hw => deletesTF [⟨⟨1, 1⟩, ⟨0, 0⟩, 1, 97⟩, ⟨⟨1, 2⟩, ⟨1, 1⟩, 2, 0⟩, ⟨⟨1, 3⟩, ⟨1, 2⟩, 3, 99⟩] _ _ _ (hw.slf_blk 6 rfl rfl (by simp [maxLen])) (by simp) 1 1 [⟨⟨1, 3⟩, ⟨1, 2⟩, 3, 0⟩] _ _ (hw.slf_blk 0 rfl rfl (by simp [maxLen])) (by simp) 0 k3)) ?_
    rintro _ _ ⟨rfl, rfl⟩
    refine WR.val (Gt rfl rfl rfl rfl) rfl rfl (.not rfl rfl) ?_
    refine WR.val (G0 rfl) rfl rfl (.pick_f rfl rfl rfl rfl) ?_
    refine WR.val (G0 rfl) rfl rfl (.move rfl rfl) ?_
    refine WR.val (Gt rfl rfl rfl rfl) rfl rfl (.move rfl rfl) ?_
    refine WR.dw (Gt rfl rfl rfl rfl) rfl rfl (.callv (caps := []) rfl rfl rfl EN_60 (fun w hw => ldotF _ _ w)) ?_
    rintro _ _ ⟨rfl, rfl⟩
    refine WR.dw (Gt rfl rfl rfl rfl) rfl rfl (.buildSlice (k := 1) (e := 21) (vs := [_]) rfl rfl rfl (fun _ => by kernel_rfl) rfl) ?_
    rintro _ _ ⟨b63, rfl, rfl⟩
    refine WR.val (Gt rfl rfl rfl rfl) rfl rfl (.move rfl rfl) ?_
    refine WR.dw (Gt rfl rfl rfl rfl) rfl rfl (.callv (caps := []) rfl rfl rfl EN_49 (fun w hw => replacesTF [⟨⟨1, 1⟩, ⟨0, 0⟩, 1, 97⟩, ⟨⟨1, 2⟩, ⟨1, 1⟩, 2, 0⟩, ⟨⟨1, 3⟩, ⟨1, 2⟩, 3, 99⟩] _ _ _ (hw.slf_blk 7 rfl rfl (by simp [maxLen])) (by simp) ⟨2, 1⟩ 0 2 [122] _ _ (hw.slf_blk 0 rfl rfl (by simp [maxLen])) (by simp) [⟨⟨1, 1⟩, ⟨0, 0⟩, 1, 0⟩, ⟨⟨2, 1⟩, ⟨0, 0⟩, 4, 122⟩, ⟨⟨1, 3⟩, ⟨1, 2⟩, 3, 0⟩] _ _ (hw.slf_blk 3 rfl rfl (by simp [maxLen])) (by simp) 0 k4)) ?_
    rintro _ _ ⟨rfl, rfl⟩
    refine WR.val (Gt rfl rfl rfl rfl) rfl rfl (.not rfl rfl) ?_
    refine WR.val (G0 rfl) rfl rfl (.pick_f rfl rfl rfl rfl) ?_
    refine WR.val (G0 rfl) rfl rfl (.move rfl rfl) ?_
    refine WR.val (Gt rfl rfl rfl rfl) rfl rfl (.move rfl rfl) ?_
    refine WR.val (Gt rfl rfl rfl rfl) rfl rfl (.move rfl rfl) ?_
    refine WR.dw (Gt rfl rfl rfl rfl) rfl rfl (.callv (caps := []) rfl rfl rfl EN_111 (fun w hw => textsTF [⟨⟨1, 1⟩, ⟨0, 0⟩, 1, 97⟩, ⟨⟨1, 2⟩, ⟨1, 1⟩, 2, 0⟩, ⟨⟨1, 3⟩, ⟨1, 2⟩, 3, 99⟩] [⟨⟨1, 1⟩, ⟨0, 0⟩, 1, 0⟩, ⟨⟨2, 1⟩, ⟨0, 0⟩, 4, 122⟩, ⟨⟨1, 3⟩, ⟨1, 2⟩, 3, 0⟩] _ _ _ _ [122] _ (hw.slf_blk 7 rfl rfl (by simp [maxLen])) (hw.slf_blk 3 rfl rfl (by simp [maxLen])) (by simp) (by simp) (by simp) (by simp) k5.1 k5.2)) ?_
    rintro _ _ ⟨rfl, rfl⟩
    refine WR.val (Gt rfl rfl rfl rfl) rfl rfl (.not rfl rfl) ?_
    refine WR.val (G0 rfl) rfl rfl (.pick_f rfl rfl rfl rfl) ?_
    refine WR.nil ?_
    refine WA.cond_f rfl rfl ?_
    refine WA.skip ?_
    refine WA.seq ?_
    refine WA.region ?_
    refine WR.dw (G0 rfl) rfl rfl (.buildSlice (k := 1) (e := 21) (vs := [_]) rfl rfl rfl (fun _ => by kernel_rfl) rfl) ?_
    rintro _ _ ⟨b67, rfl, rfl⟩
    refine WR.val (G0 rfl) rfl rfl (.assign rfl rfl) ?_
    refine WR.nil ?_
    refine WA.seq ?_
    refine WA.region ?_
    refine WR.val (G0 rfl) rfl rfl (.move rfl rfl) ?_
    refine WR.dw (G0 rfl) rfl rfl (.callv (caps := []) rfl rfl rfl EN_60 (fun w hw => ldotF _ _ w)) ?_
    rintro _ _ ⟨rfl, rfl⟩
    refine WR.val (G0 rfl) rfl rfl (.move rfl rfl) ?_
    refine WR.dw (G0 rfl) rfl rfl (.callv (caps := []) rfl rfl rfl EN_41 (fun w hw => insertsTF [⟨⟨1, 1⟩, ⟨0, 0⟩, 1, 97⟩, ⟨⟨1, 2⟩, ⟨1, 1⟩, 2, 0⟩, ⟨⟨1, 3⟩, ⟨1, 2⟩, 3, 99⟩] _ _ _ (hw.slf_blk 8 rfl rfl (by simp [maxLen])) (by simp) ⟨2, 1⟩ 3 [120] _ _ (hw.slf_blk 0 rfl rfl (by simp [maxLen])) (by simp) [] _ _ (SlF.nil _ _ _) (by simp) 3 k6)) ?_
    rintro _ _ ⟨rfl, rfl⟩
    refine WR.val (G0 rfl) rfl rfl (.move rfl rfl) ?_
    refine WR.val (Gt rfl rfl rfl rfl) rfl rfl (.move rfl rfl) ?_
    refine WR.dw (Gt rfl rfl rfl rfl) rfl rfl (.callv (caps := []) rfl rfl rfl EN_60 (fun w hw => ldotF _ _ w)) ?_
    rintro _ _ ⟨rfl, rfl⟩
    refine WR.val (Gt rfl rfl rfl rfl) rfl rfl (.move rfl rfl) ?_
    refine WR.dw (Gt rfl rfl rfl rfl) rfl rfl (.callv (caps := []) rfl rfl rfl EN_41 (fun w hw => insertsTF [⟨⟨1, 1⟩, ⟨0, 0⟩, 1, 97⟩, ⟨⟨1, 2⟩, ⟨1, 1⟩, 2, 0⟩, ⟨⟨1, 3⟩, ⟨1, 2⟩, 3, 99⟩] _ _ _ (hw.slf_blk 8 rfl rfl (by simp [maxLen])) (by simp) ⟨1, 1⟩ 0 [120] _ _ (hw.slf_blk 0 rfl rfl (by simp [maxLen])) (by simp) [] _ _ (SlF.nil _ _ _) (by simp) 11 k7)) ?_
    rintro _ _ ⟨rfl, rfl⟩
    refine WR.val (G0 rfl) rfl rfl (.pick_t rfl rfl rfl rfl) ?_
    refine WR.val (G0 rfl) rfl rfl (.move rfl rfl) ?_
    refine WR.val (Gt rfl rfl rfl rfl) rfl rfl (.move rfl rfl) ?_
    refine WR.dw (Gt rfl rfl rfl rfl) rfl rfl (.callv (caps := []) rfl rfl rfl EN_60 (fun w hw => ldotF _ _ w)) ?_
    rintro _ _ ⟨rfl, rfl⟩
    refine WR.dw (Gt rfl rfl rfl rfl) rfl rfl (.buildSlice (k := 1) (e := 21) (vs := [_, _]) rfl rfl rfl (fun _ => by kernel_rfl) rfl) ?_
    rintro _ _ ⟨b69, rfl, rfl⟩
    refine WR.dw (Gt rfl rfl rfl rfl) rfl rfl (.callv (caps := []) rfl rfl rfl EN_41 (fun w hw => insertsTF [⟨⟨1, 1⟩, ⟨0, 0⟩, 1, 97⟩, ⟨⟨1, 2⟩, ⟨1, 1⟩, 2, 0⟩, ⟨⟨1, 3⟩, ⟨1, 2⟩, 3, 99⟩] _ _ _ (hw.slf_blk 9 rfl rfl (by simp [maxLen])) (by simp) ⟨2, 4294967295⟩ 0 [120, 121] _ _ (hw.slf_blk 0 rfl rfl (by simp [maxLen])) (by simp) [] _ _ (SlF.nil _ _ _) (by simp) 14 k8)) ?_
    rintro _ _ ⟨rfl, rfl⟩
    refine WR.val (G0 rfl) rfl rfl (.pick_t rfl rfl rfl rfl) ?_
    refine WR.val (G0 rfl) rfl rfl (.move rfl rfl) ?_
    refine WR.val (Gt rfl rfl rfl rfl) rfl rfl (.move rfl rfl) ?_
    refine WR.dw (Gt rfl rfl rfl rfl) rfl rfl (.callv (caps := []) rfl rfl rfl EN_60 (fun w hw => ldotF _ _ w)) ?_
    rintro _ _ ⟨rfl, rfl⟩
    refine WR.dw (Gt rfl rfl rfl rfl) rfl rfl (.buildSlice (k := 1) (e := 21) (vs := [_]) rfl rfl rfl (fun _ => by kernel_rfl) rfl) ?_
    rintro _ _ ⟨b71, rfl, rfl⟩
    refine WR.dw (Gt rfl rfl rfl rfl) rfl rfl (.callv (caps := []) rfl rfl rfl EN_41 (fun w hw => insertsTF [⟨⟨1, 1⟩, ⟨0, 0⟩, 1, 97⟩, ⟨⟨1, 2⟩, ⟨1, 1⟩, 2, 0⟩, ⟨⟨1, 3⟩, ⟨1, 2⟩, 3, 99⟩] _ _ _ (hw.slf_blk 10 rfl rfl (by simp [maxLen])) (by simp) ⟨2, 1⟩ 0 [0] _ _ (hw.slf_blk 0 rfl rfl (by simp [maxLen])) (by simp) [] _ _ (SlF.nil _ _ _) (by simp) 13 k9)) ?_
    rintro _ _ ⟨rfl, rfl⟩
    refine WR.val (G0 rfl) rfl rfl (.pick_t rfl rfl rfl rfl) ?_
    refine WR.val (G0 rfl) rfl rfl (.move rfl rfl) ?_
    refine WR.val (Gt rfl rfl rfl rfl) rfl rfl (.move rfl rfl) ?_
    refine WR.dw (Gt rfl rfl rfl rfl) rfl rfl (.callv (caps := []) rfl rfl rfl EN_46 (fun w hw => deletesTF [⟨⟨1, 1⟩, ⟨0, 0⟩, 1, 97⟩, ⟨⟨1, 2⟩, ⟨1, 1⟩, 2, 0⟩, ⟨⟨1, 3⟩, ⟨1, 2⟩, 3, 99⟩] _ _ _ (hw.slf_blk 10 rfl rfl (by simp [maxLen])) (by simp) 0 3 [] _ _ (SlF.nil _ _ _) (by simp) 3 k10)) ?_
    rintro _ _ ⟨rfl, rfl⟩
    refine WR.val (G0 rfl) rfl rfl (.pick_t rfl rfl rfl rfl) ?_
    refine WR.val (G0 rfl) rfl rfl (.move rfl rfl) ?_
    refine WR.val (Gt rfl rfl rfl rfl) rfl rfl (.move rfl rfl) ?_
    refine WR.dw (Gt rfl rfl rfl rfl) rfl rfl (.callv (caps := []) rfl rfl rfl EN_51 (fun w hw => latestF [⟨⟨1, 1⟩, ⟨0, 0⟩, 1, 97⟩, ⟨⟨1, 2⟩, ⟨1, 1⟩, 2, 0⟩, ⟨⟨1, 3⟩, ⟨1, 2⟩, 3, 99⟩] _ _ _ (hw.slf_blk 10 rfl rfl (by simp [maxLen])) (by simp))) ?_
    rintro _ _ ⟨rfl, rfl⟩
    refine WR.val (Gt rfl rfl rfl rfl) rfl rfl (.eql rfl rfl rfl) ?_
    refine WR.val (G0 rfl) rfl rfl (.pick_t rfl rfl rfl rfl) ?_
    refine WR.val (G0 rfl) rfl rfl (.assign rfl rfl) ?_
    refine WR.nil ?_
    exact WA.ret1 rfl rfl (List.nil_sublist _) ⟨by rw [k11]; rfl, rfl⟩
end Go.Proofs.YtpbillinpjccdaaGreat.Fq
