/- Contracts: dots. -/
import Derived.Test.YtpbillinpjccdaaGreatRaQ
import Derived.Test.YtpbillinpjccdaaGreatProg
namespace Go.Proofs.YtpbillinpjccdaaGreat.Fa
open Go.RowKit Go.J Go.R
set_option linter.unusedVariables false
set_option linter.unusedSimpArgs false
theorem follows : Tryz.prog.follows .mixedOrders = true := by kernel_rfl
theorem AG_39 : AG Tryz.prog 39 2 := ⟨Tryz.isAgg39, Tryz.sizeOf39⟩
theorem EN_105 : Enters Tryz.prog 105 := enters_of Tryz.func105 (by kernel_rfl) rfl
theorem EN_106 : Enters Tryz.prog 106 := enters_of Tryz.func106 (by kernel_rfl) rfl
theorem EN_163 : Enters Tryz.prog 163 := enters_of Tryz.func163 (by kernel_rfl) rfl
theorem EQ_eql_39 {a0 a1 b0 b1 : Int} : ∀ x y w, (do eqGuard .eql 39 x y (.agg #[.int .i64 a0, .int .i64 a1]) (.agg #[.int .i64 b0, .int .i64 b1]); binOp .eql 39 (.agg #[.int .i64 a0, .int .i64 a1]) (.agg #[.int .i64 b0, .int .i64 b1]) : Sem Value).run Tryz.prog w = .ok (.bool (decide (a0 = b0) && (decide (a1 = b1)))) w := fun x y w => by
  simp [go_sem]
  by_cases a0 = b0 <;> by_cases a1 = b1 <;> simp [*]
theorem FA_39_0 : FA Tryz.prog 39 0 0 := fun ad w => by simp [Instr.fieldAt, run_underlying Tryz.underlying39, Instr.sureAddr, fieldPlace, Tryz.sizeOf3]
theorem FA_39_1 : FA Tryz.prog 39 1 1 := fun ad w => by simp [Instr.fieldAt, run_underlying Tryz.underlying39, Instr.sureAddr, fieldPlace, Tryz.sizeOf3]
theorem NA_3 : NA Tryz.prog 3 := ⟨Tryz.isAgg3, Tryz.sizeOf3⟩
theorem ST_85 : ST Tryz.prog 85 3 1 := ⟨Tryz.underlying85, Tryz.sizeOf3⟩
set_option maxRecDepth 20000 in
/-- cmp.isNaN[int] -/
theorem isNaN (a : Int) (w : World) : Ct Tryz.prog 163 #[.int .i64 a] [] w (fun u hs => u = .bool false ∧ hs = []) := by
  refine Ct.intro Tryz.func163 rfl Tryz.ntmps163 rfl ?_
  refine WA.seq ?_
  refine WA.region ?_
  refine WR.val (G0 rfl) rfl rfl (.assign rfl rfl) ?_
  refine WR.nil ?_
  refine WA.seq ?_
  refine WA.region ?_
  refine WR.val (G0 rfl) rfl rfl (.move rfl rfl) ?_
  refine WR.val (G0 rfl) rfl rfl (.move rfl rfl) ?_
  refine WR.val (G0 rfl) rfl rfl (.neq rfl rfl rfl) ?_
  refine WR.val (G0 rfl) rfl rfl (.assign rfl rfl) ?_
  refine WR.nil ?_
  exact WA.ret1 rfl rfl (List.nil_sublist _) ⟨by simp, rfl⟩
set_option maxRecDepth 20000 in
/-- cmp.Compare[int] -/
theorem icmpF (a b : Int) (w : World) : Ct Tryz.prog 106 #[.int .i64 a, .int .i64 b] [] w (fun u hs => u = .int .i64 (icmp a b) ∧ hs = []) := by
  refine Ct.intro Tryz.func106 rfl Tryz.ntmps106 rfl ?_
  refine WA.seq ?_
  refine WA.region ?_
  refine WR.val (G0 rfl) rfl rfl (.assign rfl rfl) ?_
  refine WR.nil ?_
  refine WA.seq ?_
  refine WA.region ?_
  refine WR.val (G0 rfl) rfl rfl (.move rfl rfl) ?_
  refine WR.dw (G0 rfl) rfl rfl (.callv (caps := []) rfl rfl rfl EN_163 (fun w hw => isNaN _ w)) ?_
  rintro _ _ ⟨rfl, rfl⟩
  refine WR.val (G0 rfl) rfl rfl (.assign rfl rfl) ?_
  refine WR.nil ?_
  refine WA.seq ?_
  refine WA.region ?_
  refine WR.val (G0 rfl) rfl rfl (.move rfl rfl) ?_
  refine WR.dw (G0 rfl) rfl rfl (.callv (caps := []) rfl rfl rfl EN_163 (fun w hw => isNaN _ w)) ?_
  rintro _ _ ⟨rfl, rfl⟩
  refine WR.val (G0 rfl) rfl rfl (.assign rfl rfl) ?_
  refine WR.nil ?_
  refine WA.seq ?_
  refine WA.seq ?_
  refine WA.region ?_
  refine WR.val (G0 rfl) rfl rfl (.move rfl rfl) ?_
  refine WR.nil ?_
  refine WA.cond_f rfl rfl ?_
  refine WA.skip ?_
  refine WA.seq ?_
  refine WA.seq ?_
  refine WA.region ?_
  refine WR.val (G0 rfl) rfl rfl (.move rfl rfl) ?_
  refine WR.nil ?_
  refine WA.cond_f rfl rfl ?_
  refine WA.skip ?_
  refine WA.seq ?_
  refine WA.seq ?_
  refine WA.region ?_
  refine WR.val (G0 rfl) rfl rfl (.move rfl rfl) ?_
  refine WR.val (G0 rfl) rfl rfl (.move rfl rfl) ?_
  refine WR.val (G0 rfl) rfl rfl (.lss rfl rfl rfl) ?_
  refine WR.nil ?_
  refine WA.cond rfl (fun h2 => ?_) (fun h2 => ?_)
  · have f3 := h2
    try simp only [decide_eq_true_eq, decide_eq_false_iff_not, Bool.not_eq_true', Bool.not_eq_false', Int.not_lt, Int.not_le] at f3
    refine WA.seq ?_
    refine WA.region ?_
    refine WR.val (G0 rfl) rfl rfl (.assign rfl rfl) ?_
    refine WR.nil ?_
    exact WA.ret1 rfl rfl (List.nil_sublist _) ⟨by rw [show icmp a b = -1 from if_pos ‹_›], rfl⟩
  · have f4 := h2
    try simp only [decide_eq_true_eq, decide_eq_false_iff_not, Bool.not_eq_true', Bool.not_eq_false', Int.not_lt, Int.not_le] at f4
    refine WA.skip ?_
    refine WA.seq ?_
    refine WA.seq ?_
    refine WA.region ?_
    refine WR.val (G0 rfl) rfl rfl (.move rfl rfl) ?_
    refine WR.val (G0 rfl) rfl rfl (.move rfl rfl) ?_
    refine WR.val (G0 rfl) rfl rfl (.gtr rfl rfl rfl) ?_
    refine WR.nil ?_
    refine WA.cond rfl (fun h6 => ?_) (fun h6 => ?_)
    · have f7 := h6
      try simp only [decide_eq_true_eq, decide_eq_false_iff_not, Bool.not_eq_true', Bool.not_eq_false', Int.not_lt, Int.not_le] at f7
      refine WA.seq ?_
      refine WA.region ?_
      refine WR.val (G0 rfl) rfl rfl (.assign rfl rfl) ?_
      refine WR.nil ?_
      exact WA.ret1 rfl rfl (List.nil_sublist _) ⟨by rw [show icmp a b = 1 from by unfold icmp; rw [if_neg (by omega), if_pos ‹_›]], rfl⟩
    · have f8 := h6
      try simp only [decide_eq_true_eq, decide_eq_false_iff_not, Bool.not_eq_true', Bool.not_eq_false', Int.not_lt, Int.not_le] at f8
      refine WA.skip ?_
      refine WA.seq ?_
      refine WA.region ?_
      refine WR.val (G0 rfl) rfl rfl (.assign rfl rfl) ?_
      refine WR.nil ?_
      exact WA.ret1 rfl rfl (List.nil_sublist _) ⟨by rw [show icmp a b = 0 from by unfold icmp; rw [if_neg (by omega), if_neg (by omega)]], rfl⟩
set_option maxRecDepth 20000 in
/-- cmp.Or[int] -/
theorem orF (l : List Int) (A : Option Addr) (cap : Nat) (w : World) (hS : SlI w A l) (hl : l.length ≤ 1000) : Ct Tryz.prog 105 #[.slice A l.length cap] [] w (fun u hs => u = .int .i64 (iorL l) ∧ hs = []) := by
  refine Ct.intro Tryz.func105 rfl Tryz.ntmps105 rfl ?_
  refine WA.seq ?_
  refine WA.region ?_
  refine WR.val (G0 rfl) rfl rfl (.assign rfl rfl) ?_
  refine WR.nil ?_
  refine WA.seq ?_
  refine WA.region ?_
  refine WR.val (G0 rfl) rfl rfl (.assign rfl rfl) ?_
  refine WR.nil ?_
  refine WA.seq ?_
  refine WA.seq ?_
  refine WA.region ?_
  refine WR.val (G0 rfl) rfl rfl (.move rfl rfl) ?_
  refine WR.val (G0 rfl) rfl rfl (.len rfl ST_85.1 rfl) ?_
  refine WR.val (G0 rfl) rfl rfl (.move rfl rfl) ?_
  refine WR.nil ?_
  refine WA.block ?_
  refine WA.loop (γ := Nat) (fun k => [(3, .int .i64 0), (6, .slice A l.length cap), (7, .int .i64 l.length), (8, .int .i64 (k : Int))]) (fun k => []) (fun k => k ≤ l.length ∧ iorL (l.drop k) = iorL l) (fun k => l.length - k) 0 (.cons rfl (.cons rfl (.cons rfl (.cons rfl (.nil _))))) (List.nil_sublist _) ⟨by omega, rfl⟩ ?_
  intro k hk
  obtain ⟨hk, hd⟩ := hk
  refine WA.seq ?_
  refine WA.region ?_
  refine WR.val (G0 rfl) rfl rfl (.lss rfl rfl rfl) ?_
  refine WR.nil ?_
  refine WA.seq ?_
  refine WA.cond rfl (fun h2 => ?_) (fun h2 => ?_)
  · have f3 := h2
    try simp only [decide_eq_true_eq, decide_eq_false_iff_not, Bool.not_eq_true', Bool.not_eq_false', Int.not_lt, Int.not_le] at f3
    refine WA.skip ?_
    refine WA.seq ?_
    refine WA.block ?_
    refine WA.seq ?_
    refine WA.region ?_
    refine WR.val (G0 rfl) rfl rfl (.ix rfl ST_85 rfl rfl (by omega) (by omega) (fun _ hw hn => (hw.slf0 hS).some_ hn)) ?_
    refine WR.val (G0 rfl) rfl rfl (.load1 rfl NA_3 rfl (fun _ hw => rdI (hw.slf0 hS) (by omega) (by omega))) ?_
    refine WR.val (G0 rfl) rfl rfl (.assign rfl rfl) ?_
    refine WR.nil ?_
    refine WA.seq ?_
    refine WA.region ?_
    refine WR.val (G0 rfl) rfl rfl (.move rfl rfl) ?_
    refine WR.val (G0 rfl) rfl rfl (.move rfl rfl) ?_
    refine WR.val (G0 rfl) rfl rfl (.neq rfl rfl rfl) ?_
    refine WR.nil ?_
    refine WA.cond rfl (fun h5 => ?_) (fun h5 => ?_)
    · have f6 := h5
      try simp only [decide_eq_true_eq, decide_eq_false_iff_not, Bool.not_eq_true', Bool.not_eq_false', Int.not_lt, Int.not_le] at f6
      refine WA.seq ?_
      refine WA.region ?_
      refine WR.val (G0 rfl) rfl rfl (.move rfl rfl) ?_
      refine WR.val (G0 rfl) rfl rfl (.assign rfl rfl) ?_
      refine WR.nil ?_
      have hq : k < l.length := by omega
      rw [drop_gx l hq, iorL, if_neg (by assumption)] at hd
      exact WA.ret1 rfl rfl (List.nil_sublist _) ⟨by rw [← hd], rfl⟩
    · have f7 := h5
      try simp only [decide_eq_true_eq, decide_eq_false_iff_not, Bool.not_eq_true', Bool.not_eq_false', Int.not_lt, Int.not_le] at f7
      refine WA.skip ?_
      refine WA.mark ?_
      refine WA.region ?_
      refine WR.val (G0 rfl) rfl rfl (.add rfl rfl rfl (by omega) (by omega)) ?_
      refine WR.val (G0 rfl) rfl rfl (.move rfl rfl) ?_
      refine WR.nil ?_
      have hq : k < l.length := by omega
      rw [drop_gx l hq, iorL, if_pos (by simpa using ‹gx l (k : Int) = 0›)] at hd
      exact WA.round (k + 1) (.cons rfl (.cons rfl (.cons rfl (.cons rfl (.nil _))))) .slnil ⟨by omega, hd⟩ (by omega)
  · have f8 := h2
    try simp only [decide_eq_true_eq, decide_eq_false_iff_not, Bool.not_eq_true', Bool.not_eq_false', Int.not_lt, Int.not_le] at f8
    refine WA.exit rfl ?_
    refine WA.seq ?_
    refine WA.region ?_
    refine WR.val (G0 rfl) rfl rfl (.move rfl rfl) ?_
    refine WR.val (G0 rfl) rfl rfl (.assign rfl rfl) ?_
    refine WR.nil ?_
    rw [List.drop_of_length_le (by omega)] at hd
    exact WA.ret1 rfl rfl (List.nil_sublist _) ⟨by rw [← hd]; rfl, rfl⟩
set_option maxRecDepth 20000 in
/-- redpencil/dot.Compare -/
theorem dcmpF (a b : Dot) (w : World) : Ct Tryz.prog 107 #[dv a, dv b] [] w (fun u hs => u = .int .i64 (dcmp a b) ∧ hs = []) := by
  refine Ct.intro Tryz.func107 rfl Tryz.ntmps107 rfl ?_
  refine WA.seq ?_
  refine WA.region ?_
  refine WR.dw (G0 rfl) rfl rfl (.box (vs := [_, _]) rfl rfl rfl) ?_
  rintro _ _ ⟨b2, rfl, rfl⟩
  refine WR.dw (G0 rfl) rfl rfl (.box (vs := [_, _]) rfl rfl rfl) ?_
  rintro _ _ ⟨b4, rfl, rfl⟩
  refine WR.val (G0 rfl) rfl rfl (.assign rfl rfl) ?_
  refine WR.nil ?_
  refine WA.seq ?_
  refine WA.draws0 follows ?_
  refine WH.take 0 rfl (Pf_blind _ _ _ _ _) (by kernel_rfl) (by kernel_rfl) (by kernel_rfl) (.refl _) (G0 rfl) rfl rfl (.fa rfl FA_39_1 rfl) ?_
  refine WH.take 1 rfl (Pf_blind _ _ _ _ _) (by kernel_rfl) (by kernel_rfl) (by kernel_rfl) (.refl _) (G0 rfl) rfl rfl (.load1 rfl NA_3 rfl (fun _ hw => hw.rd_blk (k := 1) 1 rfl rfl)) ?_
  refine WH.take 2 rfl (Pf_blind _ _ _ _ _) (by kernel_rfl) (by kernel_rfl) (by kernel_rfl) (.refl _) (G0 rfl) rfl rfl (.fa rfl FA_39_1 rfl) ?_
  refine WH.take 3 rfl (Pf_blind _ _ _ _ _) (by kernel_rfl) (by kernel_rfl) (by kernel_rfl) (.refl _) (G0 rfl) rfl rfl (.load1 rfl NA_3 rfl (fun _ hw => hw.rd_blk (k := 1) 0 rfl rfl)) ?_
  refine WH.take 5 rfl (Pf_blind _ _ _ _ _) (by kernel_rfl) (by kernel_rfl) (by kernel_rfl) (.refl _) (G0 rfl) rfl rfl (.fa rfl FA_39_0 rfl) ?_
  refine WH.take 6 rfl (Pf_blind _ _ _ _ _) (by kernel_rfl) (by kernel_rfl) (by kernel_rfl) (.refl _) (G0 rfl) rfl rfl (.load1 rfl NA_3 rfl (fun _ hw => hw.rd_blk (k := 1) 1 rfl rfl)) ?_
  refine WH.take 7 rfl (Pf_blind _ _ _ _ _) (by kernel_rfl) (by kernel_rfl) (by kernel_rfl) (.refl _) (G0 rfl) rfl rfl (.fa rfl FA_39_0 rfl) ?_
  refine WH.take 8 rfl (Pf_blind _ _ _ _ _) (by kernel_rfl) (by kernel_rfl) (by kernel_rfl) (.refl _) (G0 rfl) rfl rfl (.load1 rfl NA_3 rfl (fun _ hw => hw.rd_blk (k := 1) 0 rfl rfl)) ?_
  refine WH.dw 4 rfl (by kernel_rfl) (G0 rfl) rfl rfl (.callv (caps := []) rfl rfl rfl EN_106 (fun w hw => icmpF _ _ w)) ?_
  rintro _ _ ⟨rfl, rfl⟩
  refine ⟨(.refl _), ?_⟩
  refine WH.dw 9 rfl (by kernel_rfl) (G0 rfl) rfl rfl (.callv (caps := []) rfl rfl rfl EN_106 (fun w hw => icmpF _ _ w)) ?_
  rintro _ _ ⟨rfl, rfl⟩
  refine ⟨(.refl _), ?_⟩
  refine WH.dw 10 rfl (by kernel_rfl) (G0 rfl) rfl rfl (.buildSlice (k := 1) (e := 3) (vs := [_, _]) rfl rfl rfl (fun _ => by kernel_rfl) rfl) ?_
  rintro _ _ ⟨b8, rfl, rfl⟩
  refine ⟨(.cons _ (.refl _)), ?_⟩
  refine WH.dw 11 rfl (by kernel_rfl) (G0 rfl) rfl rfl (.callv (caps := []) rfl rfl rfl EN_105 (fun w hw => orF [icmp a.c b.c, icmp a.r b.r] _ _ w (hw.slf_blk 0 rfl rfl (by simp [maxLen])) (by simp))) ?_
  rintro _ _ ⟨rfl, rfl⟩
  refine ⟨(.cons _ (.refl _)), ?_⟩
  refine WH.take 12 rfl (Pf_blind _ _ _ _ _) (by kernel_rfl) (by kernel_rfl) (by kernel_rfl) (.cons _ (.refl _)) (G0 rfl) rfl rfl (.assign rfl rfl) ?_
  refine WH.done (by kernel_rfl) ?_
  exact WA.ret1 rfl rfl (List.nil_sublist _) ⟨by rw [iorL_two]; rfl, rfl⟩
set_option maxRecDepth 20000 in
/-- redpencil/dot.Valid -/
theorem dvalidF (d : Dot) (w : World) : Ct Tryz.prog 125 #[dv d] [] w (fun u hs => u = .bool (dvalid d) ∧ hs = []) := by
  refine Ct.intro Tryz.func125 rfl Tryz.ntmps125 rfl ?_
  refine WA.seq ?_
  refine WA.region ?_
  refine WR.dw (G0 rfl) rfl rfl (.box (vs := [_, _]) rfl rfl rfl) ?_
  rintro _ _ ⟨b2, rfl, rfl⟩
  refine WR.val (G0 rfl) rfl rfl (.assign rfl rfl) ?_
  refine WR.nil ?_
  refine WA.seq ?_
  refine WA.region ?_
  refine WR.val (G0 rfl) rfl rfl (.fa rfl FA_39_0 rfl) ?_
  refine WR.val (G0 rfl) rfl rfl (.load1 rfl NA_3 rfl (fun _ hw => hw.rd_blk (k := 1) 0 rfl rfl)) ?_
  refine WR.val (G0 rfl) rfl rfl (.geq rfl rfl rfl) ?_
  refine WR.val (G0 rfl) rfl rfl (.move rfl rfl) ?_
  refine WR.split (d := 6) rfl (fun h4 => ?_) (fun h4 => ?_)
  · have f5 := h4
    try simp only [decide_eq_true_eq, decide_eq_false_iff_not, Bool.not_eq_true', Bool.not_eq_false', Int.not_lt, Int.not_le] at f5
    refine WR.val (Gt rfl rfl rfl h4) rfl rfl (.fa rfl FA_39_0 rfl) ?_
    refine WR.val (Gt rfl rfl rfl h4) rfl rfl (.load1 rfl NA_3 rfl (fun _ hw => hw.rd_blk (k := 1) 0 rfl rfl)) ?_
    refine WR.val (Gt rfl rfl rfl h4) rfl rfl (.leq rfl rfl rfl) ?_
    refine WR.val (G0 rfl) rfl rfl (.pick_t rfl rfl h4 rfl) ?_
    refine WR.val (G0 rfl) rfl rfl (.move rfl rfl) ?_
    refine WR.split (d := 11) rfl (fun h7 => ?_) (fun h7 => ?_)
    · have f8 := h7
      try simp only [decide_eq_true_eq, decide_eq_false_iff_not, Bool.not_eq_true', Bool.not_eq_false', Int.not_lt, Int.not_le] at f8
      refine WR.val (Gt rfl rfl rfl h7) rfl rfl (.fa rfl FA_39_1 rfl) ?_
      refine WR.val (Gt rfl rfl rfl h7) rfl rfl (.load1 rfl NA_3 rfl (fun _ hw => hw.rd_blk (k := 1) 0 rfl rfl)) ?_
      refine WR.val (Gt rfl rfl rfl h7) rfl rfl (.geq rfl rfl rfl) ?_
      refine WR.val (G0 rfl) rfl rfl (.pick_t rfl rfl h7 rfl) ?_
      refine WR.val (G0 rfl) rfl rfl (.move rfl rfl) ?_
      refine WR.split (d := 16) rfl (fun h10 => ?_) (fun h10 => ?_)
      · have f11 := h10
        try simp only [decide_eq_true_eq, decide_eq_false_iff_not, Bool.not_eq_true', Bool.not_eq_false', Int.not_lt, Int.not_le] at f11
        refine WR.val (Gt rfl rfl rfl h10) rfl rfl (.fa rfl FA_39_1 rfl) ?_
        refine WR.val (Gt rfl rfl rfl h10) rfl rfl (.load1 rfl NA_3 rfl (fun _ hw => hw.rd_blk (k := 1) 0 rfl rfl)) ?_
        refine WR.val (Gt rfl rfl rfl h10) rfl rfl (.leq rfl rfl rfl) ?_
        refine WR.val (G0 rfl) rfl rfl (.pick_t rfl rfl h10 rfl) ?_
        refine WR.val (G0 rfl) rfl rfl (.assign rfl rfl) ?_
        refine WR.nil ?_
        exact WA.ret1 rfl rfl (List.nil_sublist _) ⟨by congr 1; rw [Bool.eq_iff_iff]; simp only [dvalid, decide_eq_true_eq]; first | omega | (constructor <;> intro hh <;> first | omega | cases hh), rfl⟩
      · have f13 := h10
        try simp only [decide_eq_true_eq, decide_eq_false_iff_not, Bool.not_eq_true', Bool.not_eq_false', Int.not_lt, Int.not_le] at f13
        refine WR.off (Gf rfl rfl rfl h10) rfl rfl ?_
        refine WR.off (Gf rfl rfl rfl h10) rfl rfl ?_
        refine WR.off (Gf rfl rfl rfl h10) rfl rfl ?_
        refine WR.val (G0 rfl) rfl rfl (.pick_f rfl rfl h10 rfl) ?_
        refine WR.val (G0 rfl) rfl rfl (.assign rfl rfl) ?_
        refine WR.nil ?_
        exact WA.ret1 rfl rfl (List.nil_sublist _) ⟨by congr 1; rw [Bool.eq_iff_iff]; simp only [dvalid, decide_eq_true_eq]; first | omega | (constructor <;> intro hh <;> first | omega | cases hh), rfl⟩
    · have f14 := h7
      try simp only [decide_eq_true_eq, decide_eq_false_iff_not, Bool.not_eq_true', Bool.not_eq_false', Int.not_lt, Int.not_le] at f14
      refine WR.off (Gf rfl rfl rfl h7) rfl rfl ?_
      refine WR.off (Gf rfl rfl rfl h7) rfl rfl ?_
      refine WR.off (Gf rfl rfl rfl h7) rfl rfl ?_
      refine WR.val (G0 rfl) rfl rfl (.pick_f rfl rfl h7 rfl) ?_
      refine WR.val (G0 rfl) rfl rfl (.move rfl rfl) ?_
      refine WR.off (Gf rfl rfl rfl rfl) rfl rfl ?_
      refine WR.off (Gf rfl rfl rfl rfl) rfl rfl ?_
      refine WR.off (Gf rfl rfl rfl rfl) rfl rfl ?_
      refine WR.val (G0 rfl) rfl rfl (.pick_f rfl rfl rfl rfl) ?_
      refine WR.val (G0 rfl) rfl rfl (.assign rfl rfl) ?_
      refine WR.nil ?_
      exact WA.ret1 rfl rfl (List.nil_sublist _) ⟨by congr 1; rw [Bool.eq_iff_iff]; simp only [dvalid, decide_eq_true_eq]; first | omega | (constructor <;> intro hh <;> first | omega | cases hh), rfl⟩
  · have f15 := h4
    try simp only [decide_eq_true_eq, decide_eq_false_iff_not, Bool.not_eq_true', Bool.not_eq_false', Int.not_lt, Int.not_le] at f15
    refine WR.off (Gf rfl rfl rfl h4) rfl rfl ?_
    refine WR.off (Gf rfl rfl rfl h4) rfl rfl ?_
    refine WR.off (Gf rfl rfl rfl h4) rfl rfl ?_
    refine WR.val (G0 rfl) rfl rfl (.pick_f rfl rfl h4 rfl) ?_
    refine WR.val (G0 rfl) rfl rfl (.move rfl rfl) ?_
    refine WR.off (Gf rfl rfl rfl rfl) rfl rfl ?_
    refine WR.off (Gf rfl rfl rfl rfl) rfl rfl ?_
    refine WR.off (Gf rfl rfl rfl rfl) rfl rfl ?_
    refine WR.val (G0 rfl) rfl rfl (.pick_f rfl rfl rfl rfl) ?_
    refine WR.val (G0 rfl) rfl rfl (.move rfl rfl) ?_
    refine WR.off (Gf rfl rfl rfl rfl) rfl rfl ?_
    refine WR.off (Gf rfl rfl rfl rfl) rfl rfl ?_
    refine WR.off (Gf rfl rfl rfl rfl) rfl rfl ?_
    refine WR.val (G0 rfl) rfl rfl (.pick_f rfl rfl rfl rfl) ?_
    refine WR.val (G0 rfl) rfl rfl (.assign rfl rfl) ?_
    refine WR.nil ?_
    exact WA.ret1 rfl rfl (List.nil_sublist _) ⟨by congr 1; rw [Bool.eq_iff_iff]; simp only [dvalid, decide_eq_true_eq]; first | omega | (constructor <;> intro hh <;> first | omega | cases hh), rfl⟩
set_option maxRecDepth 20000 in
/-- redpencil/dot.Root -/
theorem drootF (d : Dot) (w : World) : Ct Tryz.prog 217 #[dv d] [] w (fun u hs => u = .bool (droot d) ∧ hs = []) := by
  refine Ct.intro Tryz.func217 rfl Tryz.ntmps217 rfl ?_
  refine WA.seq ?_
  refine WA.region ?_
  refine WR.dw (G0 rfl) rfl rfl (.box (vs := [_, _]) rfl rfl rfl) ?_
  rintro _ _ ⟨b2, rfl, rfl⟩
  refine WR.val (G0 rfl) rfl rfl (.assign rfl rfl) ?_
  refine WR.nil ?_
  refine WA.seq ?_
  refine WA.region ?_
  refine WR.val (G0 rfl) rfl rfl (.loadK (vs := [_, _]) rfl AG_39 rfl (fun _ hw => hw.rd_blk (k := 2) 0 rfl rfl)) ?_
  refine WR.val (G0 rfl) rfl rfl (.build (vs := [_, _]) [.int .i64 0, .int .i64 0] [0, 1] rfl rfl rfl (fun _ => by kernel_rfl)) ?_
  refine WR.val (G0 rfl) rfl rfl (.bin rfl rfl rfl EQ_eql_39) ?_
  refine WR.val (G0 rfl) rfl rfl (.assign rfl rfl) ?_
  refine WR.nil ?_
  exact WA.ret1 rfl rfl (List.nil_sublist _) ⟨by congr 1; rw [Bool.eq_iff_iff]; simp [droot, Dot.eq_iff], rfl⟩
end Go.Proofs.YtpbillinpjccdaaGreat.Fa
