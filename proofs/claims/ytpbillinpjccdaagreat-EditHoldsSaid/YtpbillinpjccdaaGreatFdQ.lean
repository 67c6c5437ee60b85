/- Contracts: stores. -/
import Derived.Test.YtpbillinpjccdaaGreatFcQ
namespace Go.Proofs.YtpbillinpjccdaaGreat.Fd
open Go.RowKit Go.J Go.R Go.Proofs.YtpbillinpjccdaaGreat.Fa Go.Proofs.YtpbillinpjccdaaGreat.Fb Go.Proofs.YtpbillinpjccdaaGreat.Fc
set_option linter.unusedVariables false
set_option linter.unusedSimpArgs false
theorem follows : Tryz.prog.follows .mixedOrders = true := by kernel_rfl
theorem AG_39 : AG Tryz.prog 39 2 := ⟨Tryz.isAgg39, Tryz.sizeOf39⟩
theorem AG_42 : AG Tryz.prog 42 6 := ⟨Tryz.isAgg42, Tryz.sizeOf42⟩
theorem EN_107 : Enters Tryz.prog 107 := enters_of Tryz.func107 (by kernel_rfl) rfl
theorem EN_125 : Enters Tryz.prog 125 := enters_of Tryz.func125 (by kernel_rfl) rfl
theorem EN_133 : Enters Tryz.prog 133 := enters_of Tryz.func133 (by kernel_rfl) rfl
theorem EN_135 : Enters Tryz.prog 135 := enters_of Tryz.func135 (by kernel_rfl) rfl
theorem EN_136 : Enters Tryz.prog 136 := enters_of Tryz.func136 (by kernel_rfl) rfl
theorem EN_229 : Enters Tryz.prog 229 := enters_of Tryz.func229 (by kernel_rfl) rfl
theorem EN_68 : Enters Tryz.prog 68 := enters_of Tryz.func68 (by kernel_rfl) rfl
theorem FA_42_0 : FA Tryz.prog 42 0 0 := fun ad w => by simp [Instr.fieldAt, run_underlying Tryz.underlying42, Instr.sureAddr, fieldPlace, Tryz.sizeOf39]
theorem FA_42_2 : FA Tryz.prog 42 2 4 := fun ad w => by simp [Instr.fieldAt, run_underlying Tryz.underlying42, Instr.sureAddr, fieldPlace, Tryz.sizeOf3]
theorem NA_3 : NA Tryz.prog 3 := ⟨Tryz.isAgg3, Tryz.sizeOf3⟩
theorem ST_22 : ST Tryz.prog 22 42 6 := ⟨Tryz.underlying22, Tryz.sizeOf42⟩
theorem ST_25 : ST Tryz.prog 25 39 2 := ⟨Tryz.underlying25, Tryz.sizeOf39⟩
theorem ZT_39 : ZT Tryz.prog 39 (.agg #[.int .i64 0, .int .i64 0]) 2 16 := by unfold ZT; kernel_rfl
theorem ZT_42 : ZT Tryz.prog 42 (.agg #[.int .i64 0, .int .i64 0, .int .i64 0, .int .i64 0, .int .i64 0, .int .i32 0]) 6 48 := by unfold ZT; kernel_rfl
set_option maxRecDepth 20000 in
/-- redpencil/store.dots -/
theorem dotsF (l : List Nd) (A : Option Addr) (cap : Nat) (w : World) (hS : SlN w A l) (hl : l.length ≤ 1000000) : Ct Tryz.prog 136 #[.slice A l.length cap] [] w (fun u hs => ∃ B c, u = .slice B (l.map Nd.d).length c ∧ hs = [En.row B (l.map Nd.d).length c 39 2 ((l.map Nd.d).flatMap dc)]) := by
  refine Ct.intro Tryz.func136 rfl Tryz.ntmps136 rfl ?_
  refine WA.seq ?_
  refine WA.region ?_
  refine WR.val (G0 rfl) rfl rfl (.assign rfl rfl) ?_
  refine WR.nil ?_
  refine WA.seq ?_
  refine WA.region ?_
  refine WR.val (G0 rfl) rfl rfl (.assign rfl rfl) ?_
  refine WR.nilrow 39 2 ?_
  refine WR.nil ?_
  refine WA.seq ?_
  refine WA.seq ?_
  refine WA.region ?_
  refine WR.val (G0 rfl) rfl rfl (.move rfl rfl) ?_
  refine WR.val (G0 rfl) rfl rfl (.len rfl ST_22.1 rfl) ?_
  refine WR.val (G0 rfl) rfl rfl (.move rfl rfl) ?_
  refine WR.nil ?_
  refine WA.block ?_
  refine WA.loopK (γ := Nat × Option Addr × Nat) [(2, _), (6, _), (7, _)] [] (fun q => [(3, .slice q.2.1 q.1 q.2.2), (8, .int .i64 (q.1 : Int))]) (fun q => [En.row q.2.1 q.1 q.2.2 39 2 ((((l.map Nd.d).take q.1)).flatMap dc)]) (fun q => q.1 ≤ l.length) (fun q => l.length - q.1) (0, none, 0) (.cons rfl (.cons rfl (.cons rfl (.nil _)))) (.cons rfl (.cons rfl (.nil _))) (.refl _) (by simp) ?_
  intro q hk
  refine WA.seq ?_
  refine WA.region ?_
  refine WR.val (G0 rfl) rfl rfl (.lss rfl rfl rfl) ?_
  refine WR.nil ?_
  refine WA.seq ?_
  refine WA.cond rfl (fun h3 => ?_) (fun h3 => ?_)
  · have f4 := h3
    try simp only [decide_eq_true_eq, decide_eq_false_iff_not, Bool.not_eq_true', Bool.not_eq_false', Int.not_lt, Int.not_le] at f4
    refine WA.skip ?_
    refine WA.seq ?_
    refine WA.block ?_
    refine WA.seq ?_
    refine WA.region ?_
    refine WR.val (G0 rfl) rfl rfl (.ix rfl ST_22 rfl rfl (by omega) (by omega) (fun _ hw hn => (hw.slf0 hS).some_ hn)) ?_
    refine WR.val (G0 rfl) rfl rfl (.loadK (vs := [_, _, _, _, _, _]) rfl AG_42 rfl (fun _ hw => rdN (hw.slf0 hS) (by omega) (by omega))) ?_
    refine WR.dw (G0 rfl) rfl rfl (.alloc (vs := [_, _, _, _, _, _]) rfl ZT_42 rfl) ?_
    rintro _ _ ⟨b6, rfl, rfl⟩
    refine WR.dw0 (G0 rfl) rfl (.store (i := 0) rfl AG_42.2 rfl rfl [_, _, _, _, _, _] rfl rfl (by intro u hu; simp at hu; rcases hu with rfl | rfl | rfl | rfl | rfl | rfl <;> rfl) rfl rfl) ?_
    rintro _ _ ⟨rfl, rfl⟩
    refine WR.nil ?_
    refine WA.region ?_
    refine WR.val (G0 rfl) rfl rfl (.move rfl rfl) ?_
    refine WR.val (G0 rfl) rfl rfl (.fa rfl FA_42_0 rfl) ?_
    refine WR.val (G0 rfl) rfl rfl (.loadK (vs := [_, _]) rfl AG_39 rfl (fun _ hw => hw.rd_blk (k := 2) 0 rfl rfl)) ?_
    refine WR.dw (G0 rfl) rfl rfl (.buildSlice (k := 2) (e := 39) (vs := [_, _]) rfl rfl rfl (fun _ => by kernel_rfl) rfl) ?_
    rintro _ _ ⟨b8, rfl, rfl⟩
    refine WR.dw (G0 rfl) rfl rfl (.append 2 rfl ST_25.1 ZT_39 rfl (by decide) rfl rfl rfl (fun _ hw => hw.slf_blk 0 rfl rfl (by simp [maxLen])) (by intro u hu; simp at hu; rcases hu with rfl | rfl <;> rfl) (by omega) (by omega)) ?_
    rintro _ _ ⟨A9, c10, rfl, rfl⟩
    refine WR.val (G0 rfl) rfl rfl (.assign rfl rfl) ?_
    refine WR.nil ?_
    refine WA.mark ?_
    refine WA.region ?_
    refine WR.val (G0 rfl) rfl rfl (.add rfl rfl rfl (by omega) (by omega)) ?_
    refine WR.val (G0 rfl) rfl rfl (.move rfl rfl) ?_
    refine WR.nil ?_
    refine WA.roweq 2 rfl (q.1 + 1) (((l.map Nd.d).take (q.1 + 1)).flatMap dc) rfl (by rw [take_map_gx Nd.d l (by omega), flat_snoc]) ?_
    exact WA.roundK (q.1 + 1, A9, c10) (.cons rfl (.cons rfl (.cons rfl (.nil _)))) (.cons rfl (.cons rfl (.nil _))) (.cons _ (.cons _ (.refl _))) (by dsimp only; omega) (by dsimp only; omega)
  · have f11 := h3
    try simp only [decide_eq_true_eq, decide_eq_false_iff_not, Bool.not_eq_true', Bool.not_eq_false', Int.not_lt, Int.not_le] at f11
    refine WA.exit rfl ?_
    refine WA.seq ?_
    refine WA.region ?_
    refine WR.val (G0 rfl) rfl rfl (.move rfl rfl) ?_
    refine WR.val (G0 rfl) rfl rfl (.assign rfl rfl) ?_
    refine WR.nil ?_
    have hn : q.1 = (l.map Nd.d).length := by simp; omega
    refine WA.roweq 0 rfl (l.map Nd.d).length ((l.map Nd.d).flatMap dc) hn (by rw [hn, List.take_length]) ?_
    exact WA.ret1 rfl rfl (.refl _) ⟨_, _, by rw [hn], rfl⟩
set_option maxRecDepth 20000 in
/-- redpencil/dot.IsSet -/
theorem isSetF (l : List Dot) (A : Option Addr) (cap : Nat) (w : World) (hS : SlD w A l) (hl : l.length ≤ 1000000) : Ct Tryz.prog 135 #[.slice A l.length cap] [] w (fun u hs => u = .bool (decide (Sorted l)) ∧ hs = []) := by
  refine Ct.intro Tryz.func135 rfl Tryz.ntmps135 rfl ?_
  refine WA.seq ?_
  refine WA.region ?_
  refine WR.val (G0 rfl) rfl rfl (.assign rfl rfl) ?_
  refine WR.nil ?_
  refine WA.seq ?_
  refine WA.seq ?_
  refine WA.region ?_
  refine WR.val (G0 rfl) rfl rfl (.assign rfl rfl) ?_
  refine WR.nil ?_
  refine WA.block ?_
  refine WA.loopK (γ := Nat) [(0, _)] [] (fun k => [(3, .int .i64 (k : Int))]) (fun k => []) (fun k => 1 ≤ k ∧ k ≤ l.length + 1 ∧ Sorted (l.take k)) (fun k => l.length + 1 - k) 1 (.cons rfl (.nil _)) (.cons rfl (.nil _)) .slnil ⟨by omega, by omega, sorted_take_one l⟩ ?_
  intro k hk
  obtain ⟨h1k, hk, hd⟩ := hk
  refine WA.seq ?_
  refine WA.seq ?_
  refine WA.region ?_
  refine WR.val (G0 rfl) rfl rfl (.move rfl rfl) ?_
  refine WR.val (G0 rfl) rfl rfl (.move rfl rfl) ?_
  refine WR.val (G0 rfl) rfl rfl (.len rfl ST_25.1 rfl) ?_
  refine WR.val (G0 rfl) rfl rfl (.lss rfl rfl rfl) ?_
  refine WR.nil ?_
  refine WA.cond rfl (fun h2 => ?_) (fun h2 => ?_)
  · have f3 := h2
    try simp only [decide_eq_true_eq, decide_eq_false_iff_not, Bool.not_eq_true', Bool.not_eq_false', Int.not_lt, Int.not_le] at f3
    refine WA.skip ?_
    refine WA.seq ?_
    refine WA.block ?_
    refine WA.seq ?_
    refine WA.draws0 follows ?_
    refine WH.take 0 rfl (Pf_blind _ _ _ _ _) (by kernel_rfl) (by kernel_rfl) (by kernel_rfl) .slnil (G0 rfl) rfl rfl (.move rfl rfl) ?_
    refine WH.take 1 rfl (Pf_blind _ _ _ _ _) (by kernel_rfl) (by kernel_rfl) (by kernel_rfl) .slnil (G0 rfl) rfl rfl (.move rfl rfl) ?_
    refine WH.take 2 rfl (Pf_blind _ _ _ _ _) (by kernel_rfl) (by kernel_rfl) (by kernel_rfl) .slnil (G0 rfl) rfl rfl (.sub rfl rfl rfl (by omega) (by omega)) ?_
    refine WH.take 3 rfl (Pf_blind _ _ _ _ _) (by kernel_rfl) (by kernel_rfl) (by kernel_rfl) .slnil (G0 rfl) rfl rfl (.ix rfl ST_25 rfl rfl (by omega) (by omega) (fun _ hw hn => (hw.slf0 hS).some_ hn)) ?_
    refine WH.take 4 rfl (Pf_blind _ _ _ _ _) (by kernel_rfl) (by kernel_rfl) (by kernel_rfl) .slnil (G0 rfl) rfl rfl (.loadK (vs := [_, _]) rfl AG_39 rfl (fun _ hw => rdD (hw.slf0 hS) (by omega) (by omega))) ?_
    refine WH.take 5 rfl (Pf_blind _ _ _ _ _) (by kernel_rfl) (by kernel_rfl) (by kernel_rfl) .slnil (G0 rfl) rfl rfl (.move rfl rfl) ?_
    refine WH.take 6 rfl (Pf_blind _ _ _ _ _) (by kernel_rfl) (by kernel_rfl) (by kernel_rfl) .slnil (G0 rfl) rfl rfl (.move rfl rfl) ?_
    refine WH.take 7 rfl (Pf_blind _ _ _ _ _) (by kernel_rfl) (by kernel_rfl) (by kernel_rfl) .slnil (G0 rfl) rfl rfl (.ix rfl ST_25 rfl rfl (by omega) (by omega) (fun _ hw hn => (hw.slf0 hS).some_ hn)) ?_
    refine WH.take 8 rfl (Pf_blind _ _ _ _ _) (by kernel_rfl) (by kernel_rfl) (by kernel_rfl) .slnil (G0 rfl) rfl rfl (.loadK (vs := [_, _]) rfl AG_39 rfl (fun _ hw => rdD (hw.slf0 hS) (by omega) (by omega))) ?_
    refine WH.dw 9 rfl (by kernel_rfl) (G0 rfl) rfl rfl (.callv (caps := []) rfl rfl rfl EN_107 (fun w hw => dcmpF _ _ w)) ?_
    rintro _ _ ⟨rfl, rfl⟩
    refine ⟨.slnil, ?_⟩
    refine WH.take 10 rfl (Pf_blind _ _ _ _ _) (by kernel_rfl) (by kernel_rfl) (by kernel_rfl) .slnil (G0 rfl) rfl rfl (.geq rfl rfl rfl) ?_
    refine WH.done (by kernel_rfl) ?_
    refine WA.cond rfl (fun h5 => ?_) (fun h5 => ?_)
    · have f6 := h5
      try simp only [decide_eq_true_eq, decide_eq_false_iff_not, Bool.not_eq_true', Bool.not_eq_false', Int.not_lt, Int.not_le] at f6
      refine WA.seq ?_
      refine WA.region ?_
      refine WR.val (G0 rfl) rfl rfl (.assign rfl rfl) ?_
      refine WR.nil ?_
      exact WA.ret1 rfl rfl (List.nil_sublist _) ⟨by rw [decide_eq_false (fun hs => absurd (dcmp_neg.2 (sorted_gx hs (i := (k : Int) - 1) (j := (k : Int)) (by omega) (by omega) (by omega))) (by omega))], rfl⟩
    · have f7 := h5
      try simp only [decide_eq_true_eq, decide_eq_false_iff_not, Bool.not_eq_true', Bool.not_eq_false', Int.not_lt, Int.not_le] at f7
      refine WA.skip ?_
      refine WA.mark ?_
      refine WA.region ?_
      refine WR.val (G0 rfl) rfl rfl (.move rfl rfl) ?_
      refine WR.val (G0 rfl) rfl rfl (.add rfl rfl rfl (by omega) (by omega)) ?_
      refine WR.val (G0 rfl) rfl rfl (.assign rfl rfl) ?_
      refine WR.nil ?_
      exact WA.roundK (k + 1) (.cons rfl (.nil _)) (.cons rfl (.nil _)) .slnil ⟨by omega, by omega, sorted_take_succ h1k (by omega) hd (dcmp_neg.1 (by omega))⟩ (by omega)
  · have f8 := h2
    try simp only [decide_eq_true_eq, decide_eq_false_iff_not, Bool.not_eq_true', Bool.not_eq_false', Int.not_lt, Int.not_le] at f8
    refine WA.exit rfl ?_
    refine WA.seq ?_
    refine WA.region ?_
    refine WR.val (G0 rfl) rfl rfl (.assign rfl rfl) ?_
    refine WR.nil ?_
    exact WA.ret1 rfl rfl (List.nil_sublist _) ⟨by rw [List.take_of_length_le (by omega)] at hd; rw [decide_eq_true hd], rfl⟩
set_option maxRecDepth 20000 in
/-- redpencil/store.Valid -/
theorem svalidF (l : List Nd) (A : Option Addr) (cap : Nat) (w : World) (hS : SlN w A l) (hl : l.length ≤ 1000000) : Ct Tryz.prog 68 #[.slice A l.length cap] [] w (fun u hs => u = .bool (storeOk l) ∧ hs = []) := by
  refine Ct.intro Tryz.func68 rfl Tryz.ntmps68 rfl ?_
  refine WA.seq ?_
  refine WA.region ?_
  refine WR.val (G0 rfl) rfl rfl (.assign rfl rfl) ?_
  refine WR.nil ?_
  refine WA.seq ?_
  refine WA.region ?_
  refine WR.val (G0 rfl) rfl rfl (.move rfl rfl) ?_
  refine WR.dw (G0 rfl) rfl rfl (.callv (caps := []) rfl rfl rfl EN_133 (fun w hw => conFN l A cap 134 [] (fun n => !nvalid n) _ (hw.slf0 hS) hl (enters_of Tryz.func134 (by kernel_rfl) rfl) (fun x _ W _ => invalidF x W))) ?_
  rintro _ _ ⟨rfl, rfl⟩
  refine WR.val (G0 rfl) rfl rfl (.not rfl rfl) ?_
  refine WR.val (G0 rfl) rfl rfl (.move rfl rfl) ?_
  refine WR.split (d := 6) rfl (fun h3 => ?_) (fun h3 => ?_)
  · have f4 := h3
    try simp only [decide_eq_true_eq, decide_eq_false_iff_not, Bool.not_eq_true', Bool.not_eq_false', Int.not_lt, Int.not_le] at f4
    refine WR.val (Gt rfl rfl rfl h3) rfl rfl (.move rfl rfl) ?_
    refine WR.dw (Gt rfl rfl rfl h3) rfl rfl (.call0 (caps := []) rfl rfl rfl EN_136 (fun w hw => dotsF _ _ _ _ (hw.slf0 hS) (by first | omega | (simp; omega)))) ?_
    rintro _ _ ⟨_, ⟨v6, v7, rfl, rfl⟩, rfl⟩
    refine WR.dw (Gt rfl rfl rfl h3) rfl rfl (.callv (caps := []) rfl rfl rfl EN_135 (fun w hw => isSetF _ _ _ _ (hw.slf_row 0 rfl) (by first | omega | (simp; omega)))) ?_
    rintro _ _ ⟨rfl, rfl⟩
    refine WR.val (G0 rfl) rfl rfl (.pick_t rfl rfl h3 rfl) ?_
    refine WR.val (G0 rfl) rfl rfl (.assign rfl rfl) ?_
    refine WR.nil ?_
    exact WA.ret1 rfl rfl (List.nil_sublist _) ⟨by congr 1; rw [storeOk, ← any_not_all]; first | (rw [‹(!l.any (fun n => !nvalid n)) = true›]; rfl) | (rw [‹(!l.any (fun n => !nvalid n)) = false›]; rfl), rfl⟩
  · have f9 := h3
    try simp only [decide_eq_true_eq, decide_eq_false_iff_not, Bool.not_eq_true', Bool.not_eq_false', Int.not_lt, Int.not_le] at f9
    refine WR.off (Gf rfl rfl rfl h3) rfl rfl ?_
    refine WR.off (Gf rfl rfl rfl h3) rfl rfl ?_
    refine WR.off (Gf rfl rfl rfl h3) rfl rfl ?_
    refine WR.val (G0 rfl) rfl rfl (.pick_f rfl rfl h3 rfl) ?_
    refine WR.val (G0 rfl) rfl rfl (.assign rfl rfl) ?_
    refine WR.nil ?_
    exact WA.ret1 rfl rfl (List.nil_sublist _) ⟨by congr 1; rw [storeOk, ← any_not_all]; first | (rw [‹(!l.any (fun n => !nvalid n)) = true›]; rfl) | (rw [‹(!l.any (fun n => !nvalid n)) = false›]; rfl), rfl⟩
set_option maxRecDepth 20000 in
/-- redpencil/join.Valid -/
theorem jvalidF (l : List Nd) (A : Option Addr) (cap : Nat) (w : World) (hS : SlN w A l) (hl : l.length ≤ 1000000) : Ct Tryz.prog 94 #[.slice A l.length cap] [] w (fun u hs => u = .bool (storeOk l) ∧ hs = []) := by
  refine Ct.intro Tryz.func94 rfl Tryz.ntmps94 rfl ?_
  refine WA.seq ?_
  refine WA.region ?_
  refine WR.val (G0 rfl) rfl rfl (.assign rfl rfl) ?_
  refine WR.nil ?_
  refine WA.seq ?_
  refine WA.region ?_
  refine WR.val (G0 rfl) rfl rfl (.move rfl rfl) ?_
  refine WR.dw (G0 rfl) rfl rfl (.callv (caps := []) rfl rfl rfl EN_68 (fun w hw => svalidF _ _ _ _ (hw.slf0 hS) (by first | omega | (simp; omega)))) ?_
  rintro _ _ ⟨rfl, rfl⟩
  refine WR.val (G0 rfl) rfl rfl (.assign rfl rfl) ?_
  refine WR.nil ?_
  exact WA.ret1 rfl rfl (List.nil_sublist _) ⟨rfl, rfl⟩
set_option maxRecDepth 20000 in
/-- redpencil/store.Time -/
theorem timeF (l : List Nd) (A : Option Addr) (cap : Nat) (w : World) (hS : SlN w A l) (hl : l.length ≤ 1000000) : Ct Tryz.prog 127 #[.slice A l.length cap] [] w (fun u hs => u = .tuple #[.int .i64 (storeTime l).1, .int .i64 (storeTime l).2] ∧ hs = []) := by
  refine Ct.intro Tryz.func127 rfl Tryz.ntmps127 rfl ?_
  refine WA.seq ?_
  refine WA.region ?_
  refine WR.val (G0 rfl) rfl rfl (.assign rfl rfl) ?_
  refine WR.val (G0 rfl) rfl rfl (.assign rfl rfl) ?_
  refine WR.nil ?_
  refine WA.seq ?_
  refine WA.seq ?_
  refine WA.region ?_
  refine WR.val (G0 rfl) rfl rfl (.move rfl rfl) ?_
  refine WR.dw (G0 rfl) rfl rfl (.callv (caps := []) rfl rfl rfl EN_68 (fun w hw => svalidF _ _ _ _ (hw.slf0 hS) (by first | omega | (simp; omega)))) ?_
  rintro _ _ ⟨rfl, rfl⟩
  refine WR.val (G0 rfl) rfl rfl (.not rfl rfl) ?_
  refine WR.nil ?_
  refine WA.cond rfl (fun h3 => ?_) (fun h3 => ?_)
  · have f4 := h3
    try simp only [decide_eq_true_eq, decide_eq_false_iff_not, Bool.not_eq_true', Bool.not_eq_false', Int.not_lt, Int.not_le] at f4
    refine WA.seq ?_
    refine WA.region ?_
    refine WR.val (G0 rfl) rfl rfl (.assign rfl rfl) ?_
    refine WR.val (G0 rfl) rfl rfl (.assign rfl rfl) ?_
    refine WR.nil ?_
    exact WA.ret2 rfl rfl rfl (List.nil_sublist _) ⟨by simp_all [storeTime], rfl⟩
  · have f5 := h3
    try simp only [decide_eq_true_eq, decide_eq_false_iff_not, Bool.not_eq_true', Bool.not_eq_false', Int.not_lt, Int.not_le] at f5
    refine WA.skip ?_
    refine WA.seq ?_
    refine WA.region ?_
    refine WR.val (G0 rfl) rfl rfl (.assign rfl rfl) ?_
    refine WR.nil ?_
    refine WA.seq ?_
    refine WA.seq ?_
    refine WA.region ?_
    refine WR.val (G0 rfl) rfl rfl (.move rfl rfl) ?_
    refine WR.val (G0 rfl) rfl rfl (.len rfl ST_22.1 rfl) ?_
    refine WR.val (G0 rfl) rfl rfl (.move rfl rfl) ?_
    refine WR.nil ?_
    refine WA.block ?_
    refine WA.loopK (γ := Nat × Int) [(2, _), (3, _), (10, _), (11, _)] [] (fun q => [(4, .int .i64 q.2), (12, .int .i64 (q.1 : Int))]) (fun q => []) (fun q => q.1 ≤ l.length ∧ q.2 = maxTime (l.take q.1)) (fun q => l.length - q.1) (0, 0) (.cons rfl (.cons rfl (.cons rfl (.cons rfl (.nil _))))) (.cons rfl (.cons rfl (.nil _))) .slnil ⟨by simp, rfl⟩ ?_
    intro q hk
    obtain ⟨hk, hd⟩ := hk
    refine WA.seq ?_
    refine WA.region ?_
    refine WR.val (G0 rfl) rfl rfl (.lss rfl rfl rfl) ?_
    refine WR.nil ?_
    refine WA.seq ?_
    refine WA.cond rfl (fun h7 => ?_) (fun h7 => ?_)
    · have f8 := h7
      try simp only [decide_eq_true_eq, decide_eq_false_iff_not, Bool.not_eq_true', Bool.not_eq_false', Int.not_lt, Int.not_le] at f8
      refine WA.skip ?_
      refine WA.seq ?_
      refine WA.block ?_
      refine WA.seq ?_
      refine WA.region ?_
      refine WR.val (G0 rfl) rfl rfl (.ix rfl ST_22 rfl rfl (by omega) (by omega) (fun _ hw hn => (hw.slf0 hS).some_ hn)) ?_
      refine WR.val (G0 rfl) rfl rfl (.loadK (vs := [_, _, _, _, _, _]) rfl AG_42 rfl (fun _ hw => rdN (hw.slf0 hS) (by omega) (by omega))) ?_
      refine WR.dw (G0 rfl) rfl rfl (.alloc (vs := [_, _, _, _, _, _]) rfl ZT_42 rfl) ?_
      rintro _ _ ⟨b10, rfl, rfl⟩
      refine WR.dw0 (G0 rfl) rfl (.store (i := 0) rfl AG_42.2 rfl rfl [_, _, _, _, _, _] rfl rfl (by intro u hu; simp at hu; rcases hu with rfl | rfl | rfl | rfl | rfl | rfl <;> rfl) rfl rfl) ?_
      rintro _ _ ⟨rfl, rfl⟩
      refine WR.nil ?_
      refine WA.region ?_
      refine WR.val (G0 rfl) rfl rfl (.move rfl rfl) ?_
      refine WR.val (G0 rfl) rfl rfl (.fa rfl FA_42_2 rfl) ?_
      refine WR.val (G0 rfl) rfl rfl (.load1 rfl NA_3 rfl (fun _ hw => hw.rd_blk (k := 1) 0 rfl rfl)) ?_
      refine WR.val (G0 rfl) rfl rfl (.max2 rfl rfl rfl) ?_
      refine WR.val (G0 rfl) rfl rfl (.assign rfl rfl) ?_
      refine WR.nil ?_
      refine WA.mark ?_
      refine WA.region ?_
      refine WR.val (G0 rfl) rfl rfl (.add rfl rfl rfl (by omega) (by omega)) ?_
      refine WR.val (G0 rfl) rfl rfl (.move rfl rfl) ?_
      refine WR.nil ?_
      exact WA.roundK (q.1 + 1, _) (.cons rfl (.cons rfl (.cons rfl (.cons rfl (.nil _))))) (.cons rfl (.cons rfl (.nil _))) (.cons _ .slnil) ⟨by dsimp only; omega, by dsimp only; rw [maxTime_take l (by omega), ← hd]⟩ (by dsimp only; omega)
    · have f11 := h7
      try simp only [decide_eq_true_eq, decide_eq_false_iff_not, Bool.not_eq_true', Bool.not_eq_false', Int.not_lt, Int.not_le] at f11
      refine WA.exit rfl ?_
      refine WA.seq ?_
      refine WA.region ?_
      refine WR.val (G0 rfl) rfl rfl (.move rfl rfl) ?_
      refine WR.val (G0 rfl) rfl rfl (.assign rfl rfl) ?_
      refine WR.val (G0 rfl) rfl rfl (.assign rfl rfl) ?_
      refine WR.nil ?_
      exact WA.ret2 rfl rfl rfl (List.nil_sublist _) ⟨by rw [List.take_of_length_le (by omega)] at hd; simp_all [storeTime], rfl⟩
set_option maxRecDepth 20000 in
/-- redpencil/store.find$1 -/
theorem find1F (n : Nd) (d : Dot) (w : World) : Ct Tryz.prog 230 #[nv n, dv d] [] w (fun u hs => u = .int .i64 (dcmp n.d d) ∧ hs = []) := by
  refine Ct.intro Tryz.func230 rfl Tryz.ntmps230 rfl ?_
  refine WA.seq ?_
  refine WA.region ?_
  refine WR.dw (G0 rfl) rfl rfl (.box (vs := [_, _, _, _, _, _]) rfl rfl rfl) ?_
  rintro _ _ ⟨b2, rfl, rfl⟩
  refine WR.dw (G0 rfl) rfl rfl (.box (vs := [_, _]) rfl rfl rfl) ?_
  rintro _ _ ⟨b4, rfl, rfl⟩
  refine WR.val (G0 rfl) rfl rfl (.assign rfl rfl) ?_
  refine WR.nil ?_
  refine WA.seq ?_
  refine WA.region ?_
  refine WR.val (G0 rfl) rfl rfl (.fa rfl FA_42_0 rfl) ?_
  refine WR.val (G0 rfl) rfl rfl (.loadK (vs := [_, _]) rfl AG_39 rfl (fun _ hw => hw.rd_blk (k := 2) 1 rfl rfl)) ?_
  refine WR.val (G0 rfl) rfl rfl (.loadK (vs := [_, _]) rfl AG_39 rfl (fun _ hw => hw.rd_blk (k := 2) 0 rfl rfl)) ?_
  refine WR.dw (G0 rfl) rfl rfl (.callv (caps := []) rfl rfl rfl EN_107 (fun w hw => dcmpF _ _ w)) ?_
  rintro _ _ ⟨rfl, rfl⟩
  refine WR.val (G0 rfl) rfl rfl (.assign rfl rfl) ?_
  refine WR.nil ?_
  exact WA.ret1 rfl rfl (List.nil_sublist _) ⟨rfl, rfl⟩
set_option maxRecDepth 20000 in
/-- redpencil/store.find -/
theorem findF (l : List Nd) (A : Option Addr) (cap : Nat) (d : Dot) (w : World) (hS : SlN w A l) (hl : l.length ≤ 1000000) (hs : Sorted (l.map Nd.d)) : Ct Tryz.prog 178 #[.slice A l.length cap, dv d] [] w (fun u hs => u = .tuple #[.int .i64 (lbn (fun n => dcmp n.d d) l), .bool (decide (d ∈ l.map Nd.d))] ∧ hs = []) := by
  refine Ct.intro Tryz.func178 rfl Tryz.ntmps178 rfl ?_
  refine WA.seq ?_
  refine WA.region ?_
  refine WR.dw (G0 rfl) rfl rfl (.box (vs := [_, _]) rfl rfl rfl) ?_
  rintro _ _ ⟨b2, rfl, rfl⟩
  refine WR.val (G0 rfl) rfl rfl (.assign rfl rfl) ?_
  refine WR.val (G0 rfl) rfl rfl (.assign rfl rfl) ?_
  refine WR.nil ?_
  refine WA.seq ?_
  refine WA.region ?_
  refine WR.val (G0 rfl) rfl rfl (.move rfl rfl) ?_
  refine WR.val (G0 rfl) rfl rfl (.loadK (vs := [_, _]) rfl AG_39 rfl (fun _ hw => hw.rd_blk (k := 2) 0 rfl rfl)) ?_
  refine WR.dw (G0 rfl) rfl rfl (.callv (caps := []) rfl rfl rfl EN_229 (fun w hw => bsFN l A cap d 230 [] (fun n => dcmp n.d d) _ (hw.slf0 hS) hl (mono_sorted hs d) (enters_of Tryz.func230 (by kernel_rfl) rfl) (fun x _ W _ => find1F x d W))) ?_
  rintro _ _ ⟨rfl, rfl⟩
  refine WR.val (G0 rfl) rfl rfl (.extract (vs := [_, _]) rfl rfl rfl) ?_
  refine WR.val (G0 rfl) rfl rfl (.extract (vs := [_, _]) rfl rfl rfl) ?_
  refine WR.val (G0 rfl) rfl rfl (.assign rfl rfl) ?_
  refine WR.val (G0 rfl) rfl rfl (.assign rfl rfl) ?_
  refine WR.nil ?_
  exact WA.ret2 rfl rfl rfl (List.nil_sublist _) ⟨by rw [bsf_sorted hs d], rfl⟩
set_option maxRecDepth 20000 in
/-- redpencil/store.Kill$1 -/
theorem kill1F (d : Dot) (w : World) : Ct Tryz.prog 176 #[dv d] [] w (fun u hs => u = .bool (!dvalid d) ∧ hs = []) := by
  refine Ct.intro Tryz.func176 rfl Tryz.ntmps176 rfl ?_
  refine WA.seq ?_
  refine WA.region ?_
  refine WR.dw (G0 rfl) rfl rfl (.box (vs := [_, _]) rfl rfl rfl) ?_
  rintro _ _ ⟨b2, rfl, rfl⟩
  refine WR.val (G0 rfl) rfl rfl (.assign rfl rfl) ?_
  refine WR.nil ?_
  refine WA.seq ?_
  refine WA.region ?_
  refine WR.val (G0 rfl) rfl rfl (.loadK (vs := [_, _]) rfl AG_39 rfl (fun _ hw => hw.rd_blk (k := 2) 0 rfl rfl)) ?_
  refine WR.dw (G0 rfl) rfl rfl (.callv (caps := []) rfl rfl rfl EN_125 (fun w hw => dvalidF _ w)) ?_
  rintro _ _ ⟨rfl, rfl⟩
  refine WR.val (G0 rfl) rfl rfl (.not rfl rfl) ?_
  refine WR.val (G0 rfl) rfl rfl (.assign rfl rfl) ?_
  refine WR.nil ?_
  exact WA.ret1 rfl rfl (List.nil_sublist _) ⟨rfl, rfl⟩
end Go.Proofs.YtpbillinpjccdaaGreat.Fd
