/- Contracts: the statements on plays of edits. -/
import Derived.Test.YtpbillinpjccdaaGreatFwQ
namespace Go.Proofs.YtpbillinpjccdaaGreat.Fx
open Go.RowKit Go.J Go.R Go.Proofs.YtpbillinpjccdaaGreat.Fa Go.Proofs.YtpbillinpjccdaaGreat.Fb Go.Proofs.YtpbillinpjccdaaGreat.Fc Go.Proofs.YtpbillinpjccdaaGreat.Fd Go.Proofs.YtpbillinpjccdaaGreat.Fe Go.Proofs.YtpbillinpjccdaaGreat.Fg Go.Proofs.YtpbillinpjccdaaGreat.Fh Go.Proofs.YtpbillinpjccdaaGreat.Fi Go.Proofs.YtpbillinpjccdaaGreat.Fj Go.Proofs.YtpbillinpjccdaaGreat.Fk Go.Proofs.YtpbillinpjccdaaGreat.Fl Go.Proofs.YtpbillinpjccdaaGreat.Fm Go.Proofs.YtpbillinpjccdaaGreat.Fn Go.Proofs.YtpbillinpjccdaaGreat.Fo Go.Proofs.YtpbillinpjccdaaGreat.Fp Go.Proofs.YtpbillinpjccdaaGreat.Fq Go.Proofs.YtpbillinpjccdaaGreat.Fw
set_option linter.unusedVariables false
set_option linter.unusedSimpArgs false
theorem follows : Tryz.prog.follows .mixedOrders = true := by kernel_rfl
theorem AG_88 : AG Tryz.prog 88 3 := ⟨Tryz.isAgg88, Tryz.sizeOf88⟩
theorem EN_38 : Enters Tryz.prog 38 := enters_of Tryz.func38 (by kernel_rfl) rfl
theorem EN_48 : Enters Tryz.prog 48 := enters_of Tryz.func48 (by kernel_rfl) rfl
theorem EN_52 : Enters Tryz.prog 52 := enters_of Tryz.func52 (by kernel_rfl) rfl
theorem EN_53 : Enters Tryz.prog 53 := enters_of Tryz.func53 (by kernel_rfl) rfl
theorem EN_57 : Enters Tryz.prog 57 := enters_of Tryz.func57 (by kernel_rfl) rfl
theorem EN_61 : Enters Tryz.prog 61 := enters_of Tryz.func61 (by kernel_rfl) rfl
theorem EN_62 : Enters Tryz.prog 62 := enters_of Tryz.func62 (by kernel_rfl) rfl
theorem EN_63 : Enters Tryz.prog 63 := enters_of Tryz.func63 (by kernel_rfl) rfl
theorem FA_39_0 : FA Tryz.prog 39 0 0 := fun ad w => by simp [Instr.fieldAt, run_underlying Tryz.underlying39, Instr.sureAddr, fieldPlace, Tryz.sizeOf3]
theorem FA_42_0 : FA Tryz.prog 42 0 0 := fun ad w => by simp [Instr.fieldAt, run_underlying Tryz.underlying42, Instr.sureAddr, fieldPlace, Tryz.sizeOf39]
theorem FA_42_3 : FA Tryz.prog 42 3 5 := fun ad w => by simp [Instr.fieldAt, run_underlying Tryz.underlying42, Instr.sureAddr, fieldPlace, Tryz.sizeOf21]
theorem NA_21 : NA Tryz.prog 21 := ⟨Tryz.isAgg21, Tryz.sizeOf21⟩
theorem NA_3 : NA Tryz.prog 3 := ⟨Tryz.isAgg3, Tryz.sizeOf3⟩
theorem ST_23 : ST Tryz.prog 23 42 6 := ⟨Tryz.underlying23, Tryz.sizeOf42⟩
theorem ST_84 : ST Tryz.prog 84 88 3 := ⟨Tryz.underlying84, Tryz.sizeOf88⟩
theorem ST_85 : ST Tryz.prog 85 3 1 := ⟨Tryz.underlying85, Tryz.sizeOf3⟩
set_option maxRecDepth 20000 in
/-- redpencil/redpencillaw15.EditPlays -/
theorem editPlaysF (l : List Ac) (A : Option Addr) (cap : Nat) (w : World) (hS : SlA w A l) (hL : ∀ x ∈ l, AcOk w x) : Ct Tryz.prog 11 #[.slice A l.length cap] [] w (fun u hs => u = .bool true ∧ hs = []) := by
  refine Ct.intro Tryz.func11 rfl Tryz.ntmps11 rfl ?_
  refine WA.seq ?_
  refine WA.region ?_
  refine WR.val (G0 rfl) rfl rfl (.assign rfl rfl) ?_
  refine WR.nil ?_
  refine WA.seq ?_
  refine WA.seq ?_
  refine WA.region ?_
  refine WR.val (G0 rfl) rfl rfl (.move rfl rfl) ?_
  refine WR.val (G0 rfl) rfl rfl (.len rfl ST_84.1 rfl) ?_
  refine WR.val (G0 rfl) rfl rfl (.gtr rfl rfl rfl) ?_
  refine WR.nil ?_
  refine WA.cond rfl (fun h2 => ?_) (fun h2 => ?_)
  · have f3 := h2
    try simp only [decide_eq_true_eq, decide_eq_false_iff_not, Bool.not_eq_true', Bool.not_eq_false', Int.not_lt, Int.not_le] at f3
    refine WA.seq ?_
    refine WA.region ?_
    refine WR.dw (G0 rfl) rfl rfl (.callv (caps := []) rfl rfl rfl EN_38 (fun w hw => knownF _)) ?_
    rintro _ _ ⟨rfl, rfl⟩
    refine WR.val (G0 rfl) rfl rfl (.assign rfl rfl) ?_
    refine WR.nil ?_
    exact WA.ret1 rfl rfl (List.nil_sublist _) ⟨rfl, rfl⟩
  · have f4 := h2
    try simp only [decide_eq_true_eq, decide_eq_false_iff_not, Bool.not_eq_true', Bool.not_eq_false', Int.not_lt, Int.not_le] at f4
    refine WA.skip ?_
    refine WA.seq ?_
    refine WA.region ?_
    refine WR.val (G0 rfl) rfl rfl (.assign rfl rfl) ?_
    refine WR.nilrow 42 6 ?_
    refine WR.nil ?_
    refine WA.seq ?_
    refine WA.region ?_
    refine WR.dw (G0 rfl) rfl rfl (.buildSlice (k := 1) (e := 3) (vs := [_, _]) rfl rfl rfl (fun _ => by kernel_rfl) rfl) ?_
    rintro _ _ ⟨b7, rfl, rfl⟩
    refine WR.asrow (k := 1) 0 2 rfl rfl (by simp [maxLen]) ?_
    refine WR.val (G0 rfl) rfl rfl (.assign rfl rfl) ?_
    refine WR.nil ?_
    refine WA.seq ?_
    refine WA.seq ?_
    refine WA.region ?_
    refine WR.val (G0 rfl) rfl rfl (.assign rfl rfl) ?_
    refine WR.nil ?_
    refine WA.block ?_
    refine WA.loopK (γ := Nat × Option Addr × Nat × List Nd × List Int) [(0, _)] [] (fun q => [(3, .slice q.2.1 q.2.2.2.1.length q.2.2.1), (4, .slice (some ⟨b7, 0, none⟩) q.2.2.2.2.length 2), (5, .int .i64 (q.1 : Int))]) (fun q => [En.row (some ⟨b7, 0, none⟩) q.2.2.2.2.length 2 3 1 (q.2.2.2.2.flatMap ic), En.row q.2.1 q.2.2.2.1.length q.2.2.1 42 6 (q.2.2.2.1.flatMap nc)]) (fun q => q.1 ≤ l.length ∧ q.2.2.2.2.length = 2 ∧ Turns q.2.2.2.1 (gx q.2.2.2.2 0) (gx q.2.2.2.2 1) q.1) (fun q => l.length - q.1) (0, none, 0, [], [1, 1]) (.cons rfl (.nil _)) (.cons rfl (.cons rfl (.cons rfl (.nil _)))) (.refl _) ⟨by omega, rfl, Turns.nil⟩ ?_
    intro q hk
    obtain ⟨hk, hc2, hT⟩ := hk
    have hTl := hT.len
    refine WA.seq ?_
    refine WA.seq ?_
    refine WA.region ?_
    refine WR.val (G0 rfl) rfl rfl (.move rfl rfl) ?_
    refine WR.val (G0 rfl) rfl rfl (.move rfl rfl) ?_
    refine WR.val (G0 rfl) rfl rfl (.len rfl ST_84.1 rfl) ?_
    refine WR.val (G0 rfl) rfl rfl (.lss rfl rfl rfl) ?_
    refine WR.nil ?_
    refine WA.cond rfl (fun h9 => ?_) (fun h9 => ?_)
    · have f10 := h9
      try simp only [decide_eq_true_eq, decide_eq_false_iff_not, Bool.not_eq_true', Bool.not_eq_false', Int.not_lt, Int.not_le] at f10
      refine WA.skip ?_
      refine WA.seq ?_
      refine WA.block ?_
      refine WA.seq ?_
      refine WA.seq ?_
      have hx := hL (gx l (q.1 : Int)) (gx_in (i := q.1) (by omega))
      refine WA.region ?_
      refine WR.val (G0 rfl) rfl rfl (.move rfl rfl) ?_
      refine WR.val (G0 rfl) rfl rfl (.move rfl rfl) ?_
      refine WR.val (G0 rfl) rfl rfl (.ix rfl ST_84 rfl rfl (by omega) (by omega) (fun _ hw hn => (hw.slf0 hS).some_ hn)) ?_
      refine WR.val (G0 rfl) rfl rfl (.loadK (vs := [_, _, _]) rfl AG_88 rfl (fun _ hw => rdA (hw.slf0 hS) (by omega) (by omega))) ?_
      refine WR.dw (G0 rfl) rfl rfl (.callv (caps := []) rfl rfl rfl EN_61 (fun w hw => rightF _ _ _ _ _ _ (hw.slf0 hx.1))) ?_
      rintro _ _ ⟨rfl, rfl⟩
      refine WR.val (G0 rfl) rfl rfl (.not rfl rfl) ?_
      refine WR.nil ?_
      refine WA.cond rfl (fun h13 => ?_) (fun h13 => ?_)
      · have f14 := h13
        try simp only [decide_eq_true_eq, decide_eq_false_iff_not, Bool.not_eq_true', Bool.not_eq_false', Int.not_lt, Int.not_le] at f14
        refine WA.seq ?_
        refine WA.region ?_
        refine WR.dw (G0 rfl) rfl rfl (.callv (caps := []) rfl rfl rfl EN_38 (fun w hw => knownF _)) ?_
        rintro _ _ ⟨rfl, rfl⟩
        refine WR.val (G0 rfl) rfl rfl (.assign rfl rfl) ?_
        refine WR.nil ?_
        exact WA.ret1 rfl rfl (List.nil_sublist _) ⟨rfl, rfl⟩
      · have f15 := h13
        try simp only [decide_eq_true_eq, decide_eq_false_iff_not, Bool.not_eq_true', Bool.not_eq_false', Int.not_lt, Int.not_le] at f15
        refine WA.skip ?_
        refine WA.seq ?_
        have hx5 : (∀ x ∈ (gx l (q.1 : Int)).l, rvalid x = true) ∧ (gx l (q.1 : Int)).l.length ≤ 5 := by simp_all
        refine WA.rowcap 1 rfl (fun hcap => ?_)
        refine WA.draws0 follows ?_
        refine WH.take 0 rfl (Pf_blind _ _ _ _ _) (by kernel_rfl) (by kernel_rfl) (by kernel_rfl) (.refl _) (G0 rfl) rfl rfl (.move rfl rfl) ?_
        refine WH.take 1 rfl (Pf_blind _ _ _ _ _) (by kernel_rfl) (by kernel_rfl) (by kernel_rfl) (.refl _) (G0 rfl) rfl rfl (.move rfl rfl) ?_
        refine WH.take 2 rfl (Pf_blind _ _ _ _ _) (by kernel_rfl) (by kernel_rfl) (by kernel_rfl) (.refl _) (G0 rfl) rfl rfl (.rem rfl rfl rfl (by omega) (by omega)) ?_
        refine WH.take 3 rfl (Pf_blind _ _ _ _ _) (by kernel_rfl) (by kernel_rfl) (by kernel_rfl) (.refl _) (G0 rfl) rfl rfl (.add rfl rfl rfl (by omega) (by omega)) ?_
        refine WH.take 4 rfl (Pf_blind _ _ _ _ _) (by kernel_rfl) (by kernel_rfl) (by kernel_rfl) (.refl _) (G0 rfl) rfl rfl (.move rfl rfl) ?_
        refine WH.take 5 rfl (Pf_blind _ _ _ _ _) (by kernel_rfl) (by kernel_rfl) (by kernel_rfl) (.refl _) (G0 rfl) rfl rfl (.move rfl rfl) ?_
        refine WH.take 6 rfl (Pf_blind _ _ _ _ _) (by kernel_rfl) (by kernel_rfl) (by kernel_rfl) (.refl _) (G0 rfl) rfl rfl (.rem rfl rfl rfl (by omega) (by omega)) ?_
        refine WH.take 7 rfl (Pf_blind _ _ _ _ _) (by kernel_rfl) (by kernel_rfl) (by kernel_rfl) (.refl _) (G0 rfl) rfl rfl (.ix rfl ST_85 rfl rfl (by omega) (by omega) (fun _ hw hn => (hw.slf_row 0 rfl).some_ hn)) ?_
        refine WH.take 8 rfl (Pf_blind _ _ _ _ _) (by kernel_rfl) (by kernel_rfl) (by kernel_rfl) (.refl _) (G0 rfl) rfl rfl (.load1 rfl NA_3 rfl (fun _ hw => rdI (hw.slf_row 0 rfl) (by omega) (by omega))) ?_
        refine WH.take 9 rfl (Pf_blind _ _ _ _ _) (by kernel_rfl) (by kernel_rfl) (by kernel_rfl) (.refl _) (G0 rfl) rfl rfl (.move rfl rfl) ?_
        refine WH.take 10 rfl (Pf_blind _ _ _ _ _) (by kernel_rfl) (by kernel_rfl) (by kernel_rfl) (.refl _) (G0 rfl) rfl rfl (.move rfl rfl) ?_
        refine WH.take 11 rfl (Pf_blind _ _ _ _ _) (by kernel_rfl) (by kernel_rfl) (by kernel_rfl) (.refl _) (G0 rfl) rfl rfl (.ix rfl ST_84 rfl rfl (by omega) (by omega) (fun _ hw hn => (hw.slf0 hS).some_ hn)) ?_
        refine WH.take 12 rfl (Pf_blind _ _ _ _ _) (by kernel_rfl) (by kernel_rfl) (by kernel_rfl) (.refl _) (G0 rfl) rfl rfl (.loadK (vs := [_, _, _]) rfl AG_88 rfl (fun _ hw => rdA (hw.slf0 hS) (by omega) (by omega))) ?_
        refine WH.dw 13 rfl (by kernel_rfl) (G0 rfl) rfl rfl (.call0 (caps := []) rfl rfl rfl EN_62 (fun w hw => editsF q.2.2.2.1 _ _ _ (hw.slf_row 1 rfl) (by omega) hcap.1 (1 + (q.1 : Int) % 2) (gx q.2.2.2.2 ((q.1 : Int) % 2)) (gx l (q.1 : Int)).a (gx l (q.1 : Int)).b (gx l (q.1 : Int)).l _ _ (hw.slf0 hx.1) hx.2.1 hx.2.2.1 hx.2.2.2.1 hx.2.2.2.2 (hT.ok (by omega) hx5.1 hx5.2))) ?_
        rintro _ _ ⟨_, ⟨v24, v25, v26, v27, rfl, rfl⟩, rfl⟩
        refine ⟨(.cons _ (.cons _ (.refl _))), ?_⟩
        refine WH.take 14 rfl (Pf_blind _ _ _ _ _) (by kernel_rfl) (by kernel_rfl) (by kernel_rfl) (.cons _ (.cons _ (.refl _))) (G0 rfl) rfl rfl (.move rfl rfl) ?_
        refine WH.take 15 rfl (Pf_blind _ _ _ _ _) (by kernel_rfl) (by kernel_rfl) (by kernel_rfl) (.cons _ (.cons _ (.refl _))) (G0 rfl) rfl rfl (.extract (vs := [_, _, _, _]) rfl rfl rfl) ?_
        refine WH.take 16 rfl (Pf_blind _ _ _ _ _) (by kernel_rfl) (by kernel_rfl) (by kernel_rfl) (.cons _ (.cons _ (.refl _))) (G0 rfl) rfl rfl (.extract (vs := [_, _, _, _]) rfl rfl rfl) ?_
        refine WH.take 17 rfl (Pf_blind _ _ _ _ _) (by kernel_rfl) (by kernel_rfl) (by kernel_rfl) (.cons _ (.cons _ (.refl _))) (G0 rfl) rfl rfl (.extract (vs := [_, _, _, _]) rfl rfl rfl) ?_
        refine WH.take 18 rfl (Pf_blind _ _ _ _ _) (by kernel_rfl) (by kernel_rfl) (by kernel_rfl) (.cons _ (.cons _ (.refl _))) (G0 rfl) rfl rfl (.extract (vs := [_, _, _, _]) rfl rfl rfl) ?_
        refine WH.take 19 rfl (Pf_blind _ _ _ _ _) (by kernel_rfl) (by kernel_rfl) (by kernel_rfl) (.cons _ (.cons _ (.refl _))) (G0 rfl) rfl rfl (.assign rfl rfl) ?_
        refine WH.take 20 rfl (Pf_blind _ _ _ _ _) (by kernel_rfl) (by kernel_rfl) (by kernel_rfl) (.cons _ (.cons _ (.refl _))) (G0 rfl) rfl rfl (.assign rfl rfl) ?_
        refine WH.take 21 rfl (Pf_blind _ _ _ _ _) (by kernel_rfl) (by kernel_rfl) (by kernel_rfl) (.cons _ (.cons _ (.refl _))) (G0 rfl) rfl rfl (.assign rfl rfl) ?_
        refine WH.take 22 rfl (Pf_blind _ _ _ _ _) (by kernel_rfl) (by kernel_rfl) (by kernel_rfl) (.cons _ (.cons _ (.refl _))) (G0 rfl) rfl rfl (.assign rfl rfl) ?_
        refine WH.done (by kernel_rfl) ?_
        refine WA.seq ?_
        refine WA.seq ?_
        refine WA.region ?_
        refine WR.val (G0 rfl) rfl rfl (.move rfl rfl) ?_
        refine WR.val (G0 rfl) rfl rfl (.not rfl rfl) ?_
        refine WR.nil ?_
        refine WA.cond_f rfl rfl ?_
        refine WA.skip ?_
        refine WA.region ?_
        refine WR.val (G0 rfl) rfl rfl (.move rfl rfl) ?_
        refine WR.val (G0 rfl) rfl rfl (.move rfl rfl) ?_
        refine WR.val (G0 rfl) rfl rfl (.rem rfl rfl rfl (by omega) (by omega)) ?_
        refine WR.val (G0 rfl) rfl rfl (.move rfl rfl) ?_
        refine WR.val (G0 rfl) rfl rfl (.move rfl rfl) ?_
        refine WR.val (G0 rfl) rfl rfl (.assign rfl rfl) ?_
        refine WR.val (G0 rfl) rfl rfl (.ix rfl ST_85 rfl rfl (by omega) (by omega) (fun _ hw hn => (hw.slf_row 2 rfl).some_ hn)) ?_
        refine WR.dw0 (G0 rfl) rfl (.storeRow 2 rfl NA_3.2 rfl rfl [_] rfl rfl (by intro u hu; simp at hu; subst hu; rfl) rfl (by omega) (by decide)) ?_
        rintro _ _ ⟨rfl, rfl⟩
        refine WR.nil ?_
        refine WA.mark ?_
        refine WA.region ?_
        refine WR.val (G0 rfl) rfl rfl (.move rfl rfl) ?_
        refine WR.val (G0 rfl) rfl rfl (.add rfl rfl rfl (by omega) (by omega)) ?_
        refine WR.val (G0 rfl) rfl rfl (.assign rfl rfl) ?_
        refine WR.nil ?_
        refine WA.roweq 2 rfl (q.2.2.2.2.set ((q.1 : Int) % 2).toNat ((gx q.2.2.2.2 ((q.1 : Int) % 2)) + ((gx l (q.1 : Int)).l.length : Int))).length ((q.2.2.2.2.set ((q.1 : Int) % 2).toNat ((gx q.2.2.2.2 ((q.1 : Int) % 2)) + ((gx l (q.1 : Int)).l.length : Int))).flatMap ic) (by rw [List.length_set]) (put_setI q.2.2.2.2 ((q.1 : Int) % 2) _ (by omega) (by omega)) ?_
        refine WA.front 1 rfl ?_
        refine WA.front 2 rfl ?_
        exact WA.roundK (q.1 + 1, _, _, (eX q.2.2.2.1 (gx l (q.1 : Int)).a (gx l (q.1 : Int)).b ⟨1 + (q.1 : Int) % 2, (gx q.2.2.2.2 ((q.1 : Int) % 2))⟩ (gx l (q.1 : Int)).l), (q.2.2.2.2.set ((q.1 : Int) % 2).toNat ((gx q.2.2.2.2 ((q.1 : Int) % 2)) + ((gx l (q.1 : Int)).l.length : Int)))) (.cons rfl (.nil _)) (.cons rfl (.cons (Eq.trans (b := some (.slice (some ⟨b7, 0, none⟩) q.2.2.2.2.length 2)) rfl (by rw [List.length_set])) (.cons rfl (.nil _)))) (.cons_cons _ (.cons_cons _ (.cons _ (.cons _ .slnil)))) ⟨by dsimp only; omega, by dsimp only; rw [List.length_set]; exact hc2, hT.step hc2 (by omega) hx5.1 hx5.2 _ _⟩ (by dsimp only; omega)
    · have f30 := h9
      try simp only [decide_eq_true_eq, decide_eq_false_iff_not, Bool.not_eq_true', Bool.not_eq_false', Int.not_lt, Int.not_le] at f30
      refine WA.exit rfl ?_
      refine WA.seq ?_
      refine WA.region ?_
      refine WR.dw (G0 rfl) rfl rfl (.callv (caps := []) rfl rfl rfl EN_38 (fun w hw => knownF _)) ?_
      rintro _ _ ⟨rfl, rfl⟩
      refine WR.val (G0 rfl) rfl rfl (.assign rfl rfl) ?_
      refine WR.nil ?_
      exact WA.ret1 rfl rfl (List.nil_sublist _) ⟨rfl, rfl⟩
set_option maxRecDepth 20000 in
/-- redpencil/redpencillaw15.EditHolds -/
theorem editHoldsF (s : List Nd) (A : Option Addr) (cap : Nat) (w : World) (hS : SlN w A s) (hc : s.length ≤ cap) (a b a' b' : Int) (l l' : List Int) (B B' : Option Addr) (c c' : Nat) (hA : AcOk w ⟨a, b, B, c, l⟩) (hB : AcOk w ⟨a', b', B', c', l'⟩) : Ct Tryz.prog 12 #[.slice A s.length cap, .agg #[.int .u8 a, .int .u8 b, .slice B l.length c], .agg #[.int .u8 a', .int .u8 b', .slice B' l'.length c']] [] w (fun u hs => u = .bool true ∧ hs = []) := by
  refine Ct.intro Tryz.func12 rfl Tryz.ntmps12 rfl ?_
  refine WA.seq ?_
  refine WA.region ?_
  refine WR.dw (G0 rfl) rfl rfl (.box (vs := [_, _, _]) rfl rfl rfl) ?_
  rintro _ _ ⟨b2, rfl, rfl⟩
  refine WR.dw (G0 rfl) rfl rfl (.box (vs := [_, _, _]) rfl rfl rfl) ?_
  rintro _ _ ⟨b4, rfl, rfl⟩
  refine WR.val (G0 rfl) rfl rfl (.assign rfl rfl) ?_
  refine WR.nil ?_
  refine WA.seq ?_
  refine WA.seq ?_
  refine WA.region ?_
  refine WR.val (G0 rfl) rfl rfl (.move rfl rfl) ?_
  refine WR.val (G0 rfl) rfl rfl (.len rfl ST_23.1 rfl) ?_
  refine WR.val (G0 rfl) rfl rfl (.gtr rfl rfl rfl) ?_
  refine WR.val (G0 rfl) rfl rfl (.move rfl rfl) ?_
  refine WR.split (d := 26) rfl (fun h6 => ?_) (fun h6 => ?_)
  · have f7 := h6
    try simp only [decide_eq_true_eq, decide_eq_false_iff_not, Bool.not_eq_true', Bool.not_eq_false', Int.not_lt, Int.not_le] at f7
    refine WR.off (Gf rfl rfl rfl h6) rfl rfl ?_
    refine WR.off (Gf rfl rfl rfl h6) rfl rfl ?_
    refine WR.off (Gf rfl rfl rfl h6) rfl rfl ?_
    refine WR.val (G0 rfl) rfl rfl (.pick_t rfl rfl h6 rfl) ?_
    refine WR.val (G0 rfl) rfl rfl (.move rfl rfl) ?_
    refine WR.off (Gf rfl rfl rfl rfl) rfl rfl ?_
    refine WR.off (Gf rfl rfl rfl rfl) rfl rfl ?_
    refine WR.off (Gf rfl rfl rfl rfl) rfl rfl ?_
    refine WR.val (G0 rfl) rfl rfl (.pick_t rfl rfl rfl rfl) ?_
    refine WR.val (G0 rfl) rfl rfl (.move rfl rfl) ?_
    refine WR.off (Gf rfl rfl rfl rfl) rfl rfl ?_
    refine WR.off (Gf rfl rfl rfl rfl) rfl rfl ?_
    refine WR.off (Gf rfl rfl rfl rfl) rfl rfl ?_
    refine WR.val (G0 rfl) rfl rfl (.pick_t rfl rfl rfl rfl) ?_
    refine WR.val (G0 rfl) rfl rfl (.move rfl rfl) ?_
    refine WR.off (Gf rfl rfl rfl rfl) rfl rfl ?_
    refine WR.off (Gf rfl rfl rfl rfl) rfl rfl ?_
    refine WR.off (Gf rfl rfl rfl rfl) rfl rfl ?_
    refine WR.val (G0 rfl) rfl rfl (.pick_t rfl rfl rfl rfl) ?_
    refine WR.nil ?_
    refine WA.cond_t rfl rfl ?_
    refine WA.seq ?_
    refine WA.region ?_
    refine WR.dw (G0 rfl) rfl rfl (.callv (caps := []) rfl rfl rfl EN_38 (fun w hw => knownF _)) ?_
    rintro _ _ ⟨rfl, rfl⟩
    refine WR.val (G0 rfl) rfl rfl (.assign rfl rfl) ?_
    refine WR.nil ?_
    exact WA.ret1 rfl rfl (List.nil_sublist _) ⟨rfl, rfl⟩
  · have f8 := h6
    try simp only [decide_eq_true_eq, decide_eq_false_iff_not, Bool.not_eq_true', Bool.not_eq_false', Int.not_lt, Int.not_le] at f8
    refine WR.val (Gt rfl rfl rfl h6) rfl rfl (.move rfl rfl) ?_
    refine WR.dw (Gt rfl rfl rfl h6) rfl rfl (.callv (caps := []) rfl rfl rfl EN_63 (fun w hw => jwellF s _ _ _ (hw.slf0 hS) (by omega))) ?_
    rintro _ _ ⟨rfl, rfl⟩
    refine WR.val (Gt rfl rfl rfl h6) rfl rfl (.not rfl rfl) ?_
    refine WR.val (G0 rfl) rfl rfl (.pick_f rfl rfl h6 rfl) ?_
    refine WR.val (G0 rfl) rfl rfl (.move rfl rfl) ?_
    refine WR.split (d := 31) rfl (fun h11 => ?_) (fun h11 => ?_)
    · have f12 := h11
      try simp only [decide_eq_true_eq, decide_eq_false_iff_not, Bool.not_eq_true', Bool.not_eq_false', Int.not_lt, Int.not_le] at f12
      refine WR.off (Gf rfl rfl rfl h11) rfl rfl ?_
      refine WR.off (Gf rfl rfl rfl h11) rfl rfl ?_
      refine WR.off (Gf rfl rfl rfl h11) rfl rfl ?_
      refine WR.val (G0 rfl) rfl rfl (.pick_t rfl rfl h11 rfl) ?_
      refine WR.val (G0 rfl) rfl rfl (.move rfl rfl) ?_
      refine WR.off (Gf rfl rfl rfl rfl) rfl rfl ?_
      refine WR.off (Gf rfl rfl rfl rfl) rfl rfl ?_
      refine WR.off (Gf rfl rfl rfl rfl) rfl rfl ?_
      refine WR.val (G0 rfl) rfl rfl (.pick_t rfl rfl rfl rfl) ?_
      refine WR.val (G0 rfl) rfl rfl (.move rfl rfl) ?_
      refine WR.off (Gf rfl rfl rfl rfl) rfl rfl ?_
      refine WR.off (Gf rfl rfl rfl rfl) rfl rfl ?_
      refine WR.off (Gf rfl rfl rfl rfl) rfl rfl ?_
      refine WR.val (G0 rfl) rfl rfl (.pick_t rfl rfl rfl rfl) ?_
      refine WR.nil ?_
      refine WA.cond_t rfl rfl ?_
      refine WA.seq ?_
      refine WA.region ?_
      refine WR.dw (G0 rfl) rfl rfl (.callv (caps := []) rfl rfl rfl EN_38 (fun w hw => knownF _)) ?_
      rintro _ _ ⟨rfl, rfl⟩
      refine WR.val (G0 rfl) rfl rfl (.assign rfl rfl) ?_
      refine WR.nil ?_
      exact WA.ret1 rfl rfl (List.nil_sublist _) ⟨rfl, rfl⟩
    · have f13 := h11
      try simp only [decide_eq_true_eq, decide_eq_false_iff_not, Bool.not_eq_true', Bool.not_eq_false', Int.not_lt, Int.not_le] at f13
      refine WR.val (Gt rfl rfl rfl h11) rfl rfl (.loadK (vs := [_, _, _]) rfl AG_88 rfl (fun _ hw => hw.rd_blk (k := 3) 1 rfl rfl)) ?_
      refine WR.dw (Gt rfl rfl rfl h11) rfl rfl (.callv (caps := []) rfl rfl rfl EN_61 (fun w hw => rightF a b l B c _ (hw.slf0 hA.1))) ?_
      rintro _ _ ⟨rfl, rfl⟩
      refine WR.val (Gt rfl rfl rfl h11) rfl rfl (.not rfl rfl) ?_
      refine WR.val (G0 rfl) rfl rfl (.pick_f rfl rfl h11 rfl) ?_
      refine WR.val (G0 rfl) rfl rfl (.move rfl rfl) ?_
      refine WR.split (d := 36) rfl (fun h16 => ?_) (fun h16 => ?_)
      · have f17 := h16
        try simp only [decide_eq_true_eq, decide_eq_false_iff_not, Bool.not_eq_true', Bool.not_eq_false', Int.not_lt, Int.not_le] at f17
        refine WR.off (Gf rfl rfl rfl h16) rfl rfl ?_
        refine WR.off (Gf rfl rfl rfl h16) rfl rfl ?_
        refine WR.off (Gf rfl rfl rfl h16) rfl rfl ?_
        refine WR.val (G0 rfl) rfl rfl (.pick_t rfl rfl h16 rfl) ?_
        refine WR.val (G0 rfl) rfl rfl (.move rfl rfl) ?_
        refine WR.off (Gf rfl rfl rfl rfl) rfl rfl ?_
        refine WR.off (Gf rfl rfl rfl rfl) rfl rfl ?_
        refine WR.off (Gf rfl rfl rfl rfl) rfl rfl ?_
        refine WR.val (G0 rfl) rfl rfl (.pick_t rfl rfl rfl rfl) ?_
        refine WR.nil ?_
        refine WA.cond_t rfl rfl ?_
        refine WA.seq ?_
        refine WA.region ?_
        refine WR.dw (G0 rfl) rfl rfl (.callv (caps := []) rfl rfl rfl EN_38 (fun w hw => knownF _)) ?_
        rintro _ _ ⟨rfl, rfl⟩
        refine WR.val (G0 rfl) rfl rfl (.assign rfl rfl) ?_
        refine WR.nil ?_
        exact WA.ret1 rfl rfl (List.nil_sublist _) ⟨rfl, rfl⟩
      · have f18 := h16
        try simp only [decide_eq_true_eq, decide_eq_false_iff_not, Bool.not_eq_true', Bool.not_eq_false', Int.not_lt, Int.not_le] at f18
        refine WR.val (Gt rfl rfl rfl h16) rfl rfl (.loadK (vs := [_, _, _]) rfl AG_88 rfl (fun _ hw => hw.rd_blk (k := 3) 0 rfl rfl)) ?_
        refine WR.dw (Gt rfl rfl rfl h16) rfl rfl (.callv (caps := []) rfl rfl rfl EN_61 (fun w hw => rightF a' b' l' B' c' _ (hw.slf0 hB.1))) ?_
        rintro _ _ ⟨rfl, rfl⟩
        refine WR.val (Gt rfl rfl rfl h16) rfl rfl (.not rfl rfl) ?_
        refine WR.val (G0 rfl) rfl rfl (.pick_f rfl rfl h16 rfl) ?_
        refine WR.val (G0 rfl) rfl rfl (.move rfl rfl) ?_
        refine WR.split (d := 41) rfl (fun h21 => ?_) (fun h21 => ?_)
        · have f22 := h21
          try simp only [decide_eq_true_eq, decide_eq_false_iff_not, Bool.not_eq_true', Bool.not_eq_false', Int.not_lt, Int.not_le] at f22
          refine WR.off (Gf rfl rfl rfl h21) rfl rfl ?_
          refine WR.off (Gf rfl rfl rfl h21) rfl rfl ?_
          refine WR.off (Gf rfl rfl rfl h21) rfl rfl ?_
          refine WR.val (G0 rfl) rfl rfl (.pick_t rfl rfl h21 rfl) ?_
          refine WR.nil ?_
          refine WA.cond_t rfl rfl ?_
          refine WA.seq ?_
          refine WA.region ?_
          refine WR.dw (G0 rfl) rfl rfl (.callv (caps := []) rfl rfl rfl EN_38 (fun w hw => knownF _)) ?_
          rintro _ _ ⟨rfl, rfl⟩
          refine WR.val (G0 rfl) rfl rfl (.assign rfl rfl) ?_
          refine WR.nil ?_
          exact WA.ret1 rfl rfl (List.nil_sublist _) ⟨rfl, rfl⟩
        · have f23 := h21
          try simp only [decide_eq_true_eq, decide_eq_false_iff_not, Bool.not_eq_true', Bool.not_eq_false', Int.not_lt, Int.not_le] at f23
          refine WR.val (Gt rfl rfl rfl h21) rfl rfl (.move rfl rfl) ?_
          refine WR.dw (Gt rfl rfl rfl h21) rfl rfl (.callv (caps := []) rfl rfl rfl EN_52 (fun w hw => jlatestF s _ _ _ (hw.slf0 hS) (by omega))) ?_
          rintro _ _ ⟨rfl, rfl⟩
          refine WR.val (Gt rfl rfl rfl h21) rfl rfl (.gtr rfl rfl rfl) ?_
          refine WR.val (G0 rfl) rfl rfl (.pick_f rfl rfl h21 rfl) ?_
          refine WR.nil ?_
          refine WA.cond rfl (fun h25 => ?_) (fun h25 => ?_)
          · have f26 := h25
            try simp only [decide_eq_true_eq, decide_eq_false_iff_not, Bool.not_eq_true', Bool.not_eq_false', Int.not_lt, Int.not_le] at f26
            refine WA.seq ?_
            refine WA.region ?_
            refine WR.dw (G0 rfl) rfl rfl (.callv (caps := []) rfl rfl rfl EN_38 (fun w hw => knownF _)) ?_
            rintro _ _ ⟨rfl, rfl⟩
            refine WR.val (G0 rfl) rfl rfl (.assign rfl rfl) ?_
            refine WR.nil ?_
            exact WA.ret1 rfl rfl (List.nil_sublist _) ⟨rfl, rfl⟩
          · have f27 := h25
            try simp only [decide_eq_true_eq, decide_eq_false_iff_not, Bool.not_eq_true', Bool.not_eq_false', Int.not_lt, Int.not_le] at f27
            refine WA.skip ?_
            refine WA.seq ?_
            refine WA.seq ?_
            have hsw : R.well s = true := by simp_all
            have hr5 : (∀ x ∈ l, rvalid x = true) ∧ l.length ≤ 5 := by simp_all
            have hr5' : (∀ x ∈ l', rvalid x = true) ∧ l'.length ≤ 5 := by simp_all
            have hlt := latest_ok (well_store hsw)
            refine WA.region ?_
            refine WR.val (G0 rfl) rfl rfl (.assign rfl rfl) ?_
            refine WR.nil ?_
            refine WA.block ?_
            refine WA.loopK (γ := Nat) [(0, _), (4, _), (5, _)] [_, _] (fun k => [(7, .int .i64 (k : Int))]) (fun k => []) (fun k => k ≤ s.length ∧ ∀ j : Nat, j < k → (gx s (j : Int)).d.r ≠ 60 ∧ (gx s (j : Int)).d.r ≠ 61) (fun k => s.length - k) 0 (.cons rfl (.cons rfl (.cons rfl (.nil _)))) (.cons rfl (.nil _)) (.refl _) ⟨by omega, fun _ h => absurd h (by omega)⟩ ?_
            intro k hk
            obtain ⟨hk, hd⟩ := hk
            refine WA.seq ?_
            refine WA.seq ?_
            refine WA.region ?_
            refine WR.val (G0 rfl) rfl rfl (.move rfl rfl) ?_
            refine WR.val (G0 rfl) rfl rfl (.move rfl rfl) ?_
            refine WR.val (G0 rfl) rfl rfl (.len rfl ST_23.1 rfl) ?_
            refine WR.val (G0 rfl) rfl rfl (.lss rfl rfl rfl) ?_
            refine WR.nil ?_
            refine WA.cond rfl (fun h29 => ?_) (fun h29 => ?_)
            · have f30 := h29
              try simp only [decide_eq_true_eq, decide_eq_false_iff_not, Bool.not_eq_true', Bool.not_eq_false', Int.not_lt, Int.not_le] at f30
              refine WA.skip ?_
              refine WA.seq ?_
              refine WA.block ?_
              refine WA.seq ?_
              refine WA.region ?_
              refine WR.val (G0 rfl) rfl rfl (.move rfl rfl) ?_
              refine WR.val (G0 rfl) rfl rfl (.move rfl rfl) ?_
              refine WR.val (G0 rfl) rfl rfl (.ix rfl ST_23 rfl rfl (by omega) (by omega) (fun _ hw hn => (hw.slf0 hS).some_ hn)) ?_
              refine WR.val (G0 rfl) rfl rfl (.fe rfl FA_42_0 rfl) ?_
              refine WR.val (G0 rfl) rfl rfl (.fe rfl FA_39_0 rfl) ?_
              refine WR.val (G0 rfl) rfl rfl (.load1 rfl NA_3 rfl (fun _ hw => Rd.el (off := 0) (k := 1) (rdN (hw.slf0 hS) (by omega) (by omega)) rfl)) ?_
              refine WR.val (G0 rfl) rfl rfl (.geq rfl rfl rfl) ?_
              refine WR.val (G0 rfl) rfl rfl (.move rfl rfl) ?_
              refine WR.split (d := 60) rfl (fun h32 => ?_) (fun h32 => ?_)
              · have f33 := h32
                try simp only [decide_eq_true_eq, decide_eq_false_iff_not, Bool.not_eq_true', Bool.not_eq_false', Int.not_lt, Int.not_le] at f33
                refine WR.val (Gt rfl rfl rfl h32) rfl rfl (.move rfl rfl) ?_
                refine WR.val (Gt rfl rfl rfl h32) rfl rfl (.move rfl rfl) ?_
                refine WR.val (Gt rfl rfl rfl h32) rfl rfl (.ix rfl ST_23 rfl rfl (by omega) (by omega) (fun _ hw hn => (hw.slf0 hS).some_ hn)) ?_
                refine WR.val (Gt rfl rfl rfl h32) rfl rfl (.fe rfl FA_42_0 rfl) ?_
                refine WR.val (Gt rfl rfl rfl h32) rfl rfl (.fe rfl FA_39_0 rfl) ?_
                refine WR.val (Gt rfl rfl rfl h32) rfl rfl (.load1 rfl NA_3 rfl (fun _ hw => Rd.el (off := 0) (k := 1) (rdN (hw.slf0 hS) (by omega) (by omega)) rfl)) ?_
                refine WR.val (Gt rfl rfl rfl h32) rfl rfl (.leq rfl rfl rfl) ?_
                refine WR.val (G0 rfl) rfl rfl (.pick_t rfl rfl h32 rfl) ?_
                refine WR.nil ?_
                refine WA.cond rfl (fun h35 => ?_) (fun h35 => ?_)
                · have f36 := h35
                  try simp only [decide_eq_true_eq, decide_eq_false_iff_not, Bool.not_eq_true', Bool.not_eq_false', Int.not_lt, Int.not_le] at f36
                  refine WA.seq ?_
                  refine WA.region ?_
                  refine WR.dw (G0 rfl) rfl rfl (.callv (caps := []) rfl rfl rfl EN_38 (fun w hw => knownF _)) ?_
                  rintro _ _ ⟨rfl, rfl⟩
                  refine WR.val (G0 rfl) rfl rfl (.assign rfl rfl) ?_
                  refine WR.nil ?_
                  exact WA.ret1 rfl rfl (List.nil_sublist _) ⟨rfl, rfl⟩
                · have f37 := h35
                  try simp only [decide_eq_true_eq, decide_eq_false_iff_not, Bool.not_eq_true', Bool.not_eq_false', Int.not_lt, Int.not_le] at f37
                  refine WA.skip ?_
                  refine WA.mark ?_
                  refine WA.region ?_
                  refine WR.val (G0 rfl) rfl rfl (.move rfl rfl) ?_
                  refine WR.val (G0 rfl) rfl rfl (.add rfl rfl rfl (by omega) (by omega)) ?_
                  refine WR.val (G0 rfl) rfl rfl (.assign rfl rfl) ?_
                  refine WR.nil ?_
                  exact WA.roundK (k + 1) (.cons rfl (.cons rfl (.cons rfl (.nil _)))) (.cons rfl (.nil _)) (.refl _) ⟨by omega, lt_snoc (P := fun j : Nat => (gx s (j : Int)).d.r ≠ 60 ∧ (gx s (j : Int)).d.r ≠ 61) hd (by constructor <;> omega)⟩ (by omega)
              · have f38 := h32
                try simp only [decide_eq_true_eq, decide_eq_false_iff_not, Bool.not_eq_true', Bool.not_eq_false', Int.not_lt, Int.not_le] at f38
                refine WR.off (Gf rfl rfl rfl h32) rfl rfl ?_
                refine WR.off (Gf rfl rfl rfl h32) rfl rfl ?_
                refine WR.off (Gf rfl rfl rfl h32) rfl rfl ?_
                refine WR.off (Gf rfl rfl rfl h32) rfl rfl ?_
                refine WR.off (Gf rfl rfl rfl h32) rfl rfl ?_
                refine WR.off (Gf rfl rfl rfl h32) rfl rfl ?_
                refine WR.off (Gf rfl rfl rfl h32) rfl rfl ?_
                refine WR.val (G0 rfl) rfl rfl (.pick_f rfl rfl h32 rfl) ?_
                refine WR.nil ?_
                refine WA.cond_f rfl rfl ?_
                refine WA.skip ?_
                refine WA.mark ?_
                refine WA.region ?_
                refine WR.val (G0 rfl) rfl rfl (.move rfl rfl) ?_
                refine WR.val (G0 rfl) rfl rfl (.add rfl rfl rfl (by omega) (by omega)) ?_
                refine WR.val (G0 rfl) rfl rfl (.assign rfl rfl) ?_
                refine WR.nil ?_
                exact WA.roundK (k + 1) (.cons rfl (.cons rfl (.cons rfl (.nil _)))) (.cons rfl (.nil _)) (.refl _) ⟨by omega, lt_snoc (P := fun j : Nat => (gx s (j : Int)).d.r ≠ 60 ∧ (gx s (j : Int)).d.r ≠ 61) hd (by constructor <;> omega)⟩ (by omega)
            · have f39 := h29
              try simp only [decide_eq_true_eq, decide_eq_false_iff_not, Bool.not_eq_true', Bool.not_eq_false', Int.not_lt, Int.not_le] at f39
              refine WA.exit rfl ?_
              refine WA.seq ?_
              have hno : ∀ n ∈ s, n.d.r ≠ 60 ∧ n.d.r ≠ 61 := fun n hn => by
                obtain ⟨i, hi, rfl⟩ := List.getElem_of_mem hn
                have := hd i (by omega)
                rwa [gx_nat s i hi] at this
              have hE : EdOk s ⟨60, 1⟩ l := ⟨hsw, by decide, by dsimp only; omega, by omega, hr5.1, fun n hn i _ e => (hno n hn).1 (congrArg Dot.r e), hr5.2⟩
              have hE' : EdOk s ⟨61, 1⟩ l' := ⟨hsw, by decide, by dsimp only; omega, by omega, hr5'.1, fun n hn i _ e => (hno n hn).2 (congrArg Dot.r e), hr5'.2⟩
              have hXl := hE.next_len (a := a) (b := b)
              have hYl := hE'.next_len (a := a') (b := b')
              have hag : agree (eX s a b ⟨60, 1⟩ l) (eX s a' b' ⟨61, 1⟩ l') = true := two_agree (hE.ed (a := a) (b := b)) (hE'.ed (a := a') (b := b')) (by decide)
              have hag' := agree_comm hag
              have hXs := well_store (hE.next_well (a := a) (b := b))
              have hYs := well_store (hE'.next_well (a := a') (b := b'))
              have hJc : jn (eX s a' b' ⟨61, 1⟩ l') (eX s a b ⟨60, 1⟩ l) = (jn (eX s a b ⟨60, 1⟩ l) (eX s a' b' ⟨61, 1⟩ l')) := (jn_comm (storeOk_sorted hXs) (storeOk_sorted hYs) hag).symm
              have hJw : R.well (jn (eX s a b ⟨60, 1⟩ l) (eX s a' b' ⟨61, 1⟩ l')) = true := jn_well hE.next_well hE'.next_well hag
              have hJl := jn_len (eX s a' b' ⟨61, 1⟩ l') (eX s a b ⟨60, 1⟩ l)
              have hJv := visN_len (well_store hJw)
              have hJr := runesOf_len (jn (eX s a b ⟨60, 1⟩ l) (eX s a' b' ⟨61, 1⟩ l'))
              have hP1 : applyR (eX s a b ⟨60, 1⟩ l) (eX s a' b' ⟨61, 1⟩ l') = ((jn (eX s a b ⟨60, 1⟩ l) (eX s a' b' ⟨61, 1⟩ l')), runesOf (jn (eX s a b ⟨60, 1⟩ l) (eX s a' b' ⟨61, 1⟩ l')), 0) := by
                have h9 : joinR (eX s a b ⟨60, 1⟩ l) (eX s a' b' ⟨61, 1⟩ l') = ((jn (eX s a b ⟨60, 1⟩ l) (eX s a' b' ⟨61, 1⟩ l')), 0) := by rw [joinR, if_neg (by simp [hXs, hYs]), if_pos hag]
                rw [applyR, h9, if_neg (by simp)]
              have hP2 : applyR (eX s a' b' ⟨61, 1⟩ l') (eX s a b ⟨60, 1⟩ l) = ((jn (eX s a b ⟨60, 1⟩ l) (eX s a' b' ⟨61, 1⟩ l')), runesOf (jn (eX s a b ⟨60, 1⟩ l) (eX s a' b' ⟨61, 1⟩ l')), 0) := by
                have h9 : joinR (eX s a' b' ⟨61, 1⟩ l') (eX s a b ⟨60, 1⟩ l) = ((jn (eX s a b ⟨60, 1⟩ l) (eX s a' b' ⟨61, 1⟩ l')), 0) := by rw [joinR, if_neg (by simp [hXs, hYs]), if_pos hag', hJc]
                rw [applyR, h9, if_neg (by simp)]
              have hal : ∀ n ∈ (jn (eX s a b ⟨60, 1⟩ l) (eX s a' b' ⟨61, 1⟩ l')), n.d.r = 60 ∨ n.d.r = 61 → n.x ≠ 0 := fun n hn h => two_alive (hE.ed (a := a) (b := b)) (hE'.ed (a := a') (b := b')) (by decide) hn (fun m hm e => by have := hno m hm; omega)
              refine WA.region ?_
              refine WR.val (G0 rfl) rfl rfl (.move rfl rfl) ?_
              refine WR.val (G0 rfl) rfl rfl (.loadK (vs := [_, _, _]) rfl AG_88 rfl (fun _ hw => hw.rd_blk (k := 3) 1 rfl rfl)) ?_
              refine WR.dw (G0 rfl) rfl rfl (.call0 (caps := []) rfl rfl rfl EN_62 (fun w hw => editsF s _ _ _ (hw.slf0 hS) (by omega) hc 60 1 a b l _ _ (hw.slf0 hA.1) hA.2.1 hA.2.2.1 hA.2.2.2.1 hA.2.2.2.2 hE)) ?_
              rintro _ _ ⟨_, ⟨v42, v43, v44, v45, rfl, rfl⟩, rfl⟩
              refine WR.val (G0 rfl) rfl rfl (.move rfl rfl) ?_
              refine WR.val (G0 rfl) rfl rfl (.extract (vs := [_, _, _, _]) rfl rfl rfl) ?_
              refine WR.val (G0 rfl) rfl rfl (.extract (vs := [_, _, _, _]) rfl rfl rfl) ?_
              refine WR.val (G0 rfl) rfl rfl (.extract (vs := [_, _, _, _]) rfl rfl rfl) ?_
              refine WR.val (G0 rfl) rfl rfl (.extract (vs := [_, _, _, _]) rfl rfl rfl) ?_
              refine WR.val (G0 rfl) rfl rfl (.assign rfl rfl) ?_
              refine WR.val (G0 rfl) rfl rfl (.assign rfl rfl) ?_
              refine WR.val (G0 rfl) rfl rfl (.assign rfl rfl) ?_
              refine WR.val (G0 rfl) rfl rfl (.assign rfl rfl) ?_
              refine WR.nil ?_
              refine WA.seq ?_
              refine WA.region ?_
              refine WR.val (G0 rfl) rfl rfl (.move rfl rfl) ?_
              refine WR.val (G0 rfl) rfl rfl (.loadK (vs := [_, _, _]) rfl AG_88 rfl (fun _ hw => hw.rd_blk (k := 3) 2 rfl rfl)) ?_
              refine WR.dw (G0 rfl) rfl rfl (.call0 (caps := []) rfl rfl rfl EN_62 (fun w hw => editsF s _ _ _ (hw.slf0 hS) (by omega) hc 61 1 a' b' l' _ _ (hw.slf0 hB.1) hB.2.1 hB.2.2.1 hB.2.2.2.1 hB.2.2.2.2 hE')) ?_
              rintro _ _ ⟨_, ⟨v48, v49, v50, v51, rfl, rfl⟩, rfl⟩
              refine WR.val (G0 rfl) rfl rfl (.move rfl rfl) ?_
              refine WR.val (G0 rfl) rfl rfl (.extract (vs := [_, _, _, _]) rfl rfl rfl) ?_
              refine WR.val (G0 rfl) rfl rfl (.extract (vs := [_, _, _, _]) rfl rfl rfl) ?_
              refine WR.val (G0 rfl) rfl rfl (.extract (vs := [_, _, _, _]) rfl rfl rfl) ?_
              refine WR.val (G0 rfl) rfl rfl (.extract (vs := [_, _, _, _]) rfl rfl rfl) ?_
              refine WR.val (G0 rfl) rfl rfl (.assign rfl rfl) ?_
              refine WR.val (G0 rfl) rfl rfl (.assign rfl rfl) ?_
              refine WR.val (G0 rfl) rfl rfl (.assign rfl rfl) ?_
              refine WR.val (G0 rfl) rfl rfl (.assign rfl rfl) ?_
              refine WR.nil ?_
              refine WA.seq ?_
              refine WA.seq ?_
              refine WA.region ?_
              refine WR.val (G0 rfl) rfl rfl (.move rfl rfl) ?_
              refine WR.val (G0 rfl) rfl rfl (.not rfl rfl) ?_
              refine WR.val (G0 rfl) rfl rfl (.move rfl rfl) ?_
              refine WR.val (Gt rfl rfl rfl rfl) rfl rfl (.move rfl rfl) ?_
              refine WR.val (Gt rfl rfl rfl rfl) rfl rfl (.not rfl rfl) ?_
              refine WR.val (G0 rfl) rfl rfl (.pick_f rfl rfl rfl rfl) ?_
              refine WR.nil ?_
              refine WA.cond_f rfl rfl ?_
              refine WA.skip ?_
              refine WA.seq ?_
              refine WA.rowcap 3 rfl (fun hcx => ?_)
              refine WA.rowcap 1 rfl (fun hcy => ?_)
              refine WA.region ?_
              refine WR.val (G0 rfl) rfl rfl (.move rfl rfl) ?_
              refine WR.val (G0 rfl) rfl rfl (.move rfl rfl) ?_
              refine WR.dw (G0 rfl) rfl rfl (.call0 (caps := []) rfl rfl rfl EN_53 (fun w hw => applyEF (eX s a b ⟨60, 1⟩ l) _ _ _ (hw.slf_row 3 rfl) (by omega) (eX s a' b' ⟨61, 1⟩ l') _ _ (hw.slf_row 1 rfl) (by omega) hcx.1 hcy.1)) ?_
              rintro _ _ ⟨_, ⟨v56, v57, v58, v59, rfl, rfl⟩, rfl⟩
              refine WR.val (G0 rfl) rfl rfl (.move rfl rfl) ?_
              refine WR.val (G0 rfl) rfl rfl (.extract (vs := [_, _, _]) rfl rfl rfl) ?_
              refine WR.val (G0 rfl) rfl rfl (.extract (vs := [_, _, _]) rfl rfl rfl) ?_
              refine WR.val (G0 rfl) rfl rfl (.extract (vs := [_, _, _]) rfl rfl rfl) ?_
              refine WR.val (G0 rfl) rfl rfl (.assign rfl rfl) ?_
              refine WR.val (G0 rfl) rfl rfl (.assign rfl rfl) ?_
              refine WR.val (G0 rfl) rfl rfl (.assign rfl rfl) ?_
              refine WR.nil ?_
              refine WA.seq ?_
              rw [hP1]
              refine WA.region ?_
              refine WR.val (G0 rfl) rfl rfl (.move rfl rfl) ?_
              refine WR.val (G0 rfl) rfl rfl (.move rfl rfl) ?_
              refine WR.dw (G0 rfl) rfl rfl (.call0 (caps := []) rfl rfl rfl EN_53 (fun w hw => applyEF (eX s a' b' ⟨61, 1⟩ l') _ _ _ (hw.slf_row 3 rfl) (by omega) (eX s a b ⟨60, 1⟩ l) _ _ (hw.slf_row 5 rfl) (by omega) hcy.1 hcx.1)) ?_
              rintro _ _ ⟨_, ⟨v62, v63, v64, v65, rfl, rfl⟩, rfl⟩
              refine WR.val (G0 rfl) rfl rfl (.move rfl rfl) ?_
              refine WR.val (G0 rfl) rfl rfl (.extract (vs := [_, _, _]) rfl rfl rfl) ?_
              refine WR.val (G0 rfl) rfl rfl (.extract (vs := [_, _, _]) rfl rfl rfl) ?_
              refine WR.val (G0 rfl) rfl rfl (.extract (vs := [_, _, _]) rfl rfl rfl) ?_
              refine WR.val (G0 rfl) rfl rfl (.assign rfl rfl) ?_
              refine WR.val (G0 rfl) rfl rfl (.assign rfl rfl) ?_
              refine WR.val (G0 rfl) rfl rfl (.assign rfl rfl) ?_
              refine WR.nil ?_
              refine WA.seq ?_
              refine WA.seq ?_
              rw [hP2]
              refine WA.region ?_
              refine WR.val (G0 rfl) rfl rfl (.move rfl rfl) ?_
              refine WR.val (G0 rfl) rfl rfl (.neq rfl rfl rfl) ?_
              refine WR.val (G0 rfl) rfl rfl (.move rfl rfl) ?_
              refine WR.val (Gt rfl rfl rfl (by simp)) rfl rfl (.move rfl rfl) ?_
              refine WR.val (Gt rfl rfl rfl (by simp)) rfl rfl (.neq rfl rfl rfl) ?_
              refine WR.val (G0 rfl) rfl rfl (.pick_f rfl rfl (by simp) rfl) ?_
              refine WR.val (G0 rfl) rfl rfl (.move rfl rfl) ?_
              refine WR.val (Gt rfl rfl rfl (by simp)) rfl rfl (.move rfl rfl) ?_
              refine WR.val (Gt rfl rfl rfl (by simp)) rfl rfl (.move rfl rfl) ?_
              refine WR.dw (Gt rfl rfl rfl (by simp)) rfl rfl (.callv (caps := []) rfl rfl rfl EN_48 (fun w hw => jsameTF (jn (eX s a b ⟨60, 1⟩ l) (eX s a' b' ⟨61, 1⟩ l')) (jn (eX s a b ⟨60, 1⟩ l) (eX s a' b' ⟨61, 1⟩ l')) _ _ _ _ _ (hw.slf_row 2 rfl) (hw.slf_row 0 rfl) (by omega) rfl)) ?_
              rintro _ _ ⟨rfl, rfl⟩
              refine WR.val (Gt rfl rfl rfl (by simp)) rfl rfl (.not rfl rfl) ?_
              refine WR.val (G0 rfl) rfl rfl (.pick_f rfl rfl (by simp) rfl) ?_
              refine WR.val (G0 rfl) rfl rfl (.move rfl rfl) ?_
              refine WR.val (Gt rfl rfl rfl rfl) rfl rfl (.move rfl rfl) ?_
              refine WR.val (Gt rfl rfl rfl rfl) rfl rfl (.move rfl rfl) ?_
              refine WR.dw (Gt rfl rfl rfl rfl) rfl rfl (.callv (caps := []) rfl rfl rfl EN_57 (fun w hw => jsameRTF (runesOf (jn (eX s a b ⟨60, 1⟩ l) (eX s a' b' ⟨61, 1⟩ l'))) (runesOf (jn (eX s a b ⟨60, 1⟩ l) (eX s a' b' ⟨61, 1⟩ l'))) _ _ _ _ _ (hw.slf_row 3 rfl) (hw.slf_row 1 rfl) (by omega) rfl)) ?_
              rintro _ _ ⟨rfl, rfl⟩
              refine WR.val (Gt rfl rfl rfl rfl) rfl rfl (.not rfl rfl) ?_
              refine WR.val (G0 rfl) rfl rfl (.pick_f rfl rfl rfl rfl) ?_
              refine WR.val (G0 rfl) rfl rfl (.move rfl rfl) ?_
              refine WR.val (Gt rfl rfl rfl rfl) rfl rfl (.move rfl rfl) ?_
              refine WR.dw (Gt rfl rfl rfl rfl) rfl rfl (.callv (caps := []) rfl rfl rfl EN_63 (fun w hw => jwellTF (jn (eX s a b ⟨60, 1⟩ l) (eX s a' b' ⟨61, 1⟩ l')) _ _ _ (hw.slf_row 2 rfl) (by omega) hJw)) ?_
              rintro _ _ ⟨rfl, rfl⟩
              refine WR.val (Gt rfl rfl rfl rfl) rfl rfl (.not rfl rfl) ?_
              refine WR.val (G0 rfl) rfl rfl (.pick_f rfl rfl rfl rfl) ?_
              refine WR.nil ?_
              refine WA.cond_f rfl rfl ?_
              refine WA.skip ?_
              refine WA.seq ?_
              refine WA.seq ?_
              refine WA.region ?_
              refine WR.val (G0 rfl) rfl rfl (.assign rfl rfl) ?_
              refine WR.nil ?_
              refine WA.block ?_
              refine WA.loopK (γ := Nat) [(16, _)] [_, _, _, _, _, _, _, _, _, _] (fun j => [(22, .int .i64 (j : Int))]) (fun j => []) (fun j => j ≤ (jn (eX s a b ⟨60, 1⟩ l) (eX s a' b' ⟨61, 1⟩ l')).length) (fun j => (jn (eX s a b ⟨60, 1⟩ l) (eX s a' b' ⟨61, 1⟩ l')).length - j) 0 (.cons rfl (.nil _)) (.cons rfl (.nil _)) (.refl _) (by omega) ?_
              intro j hj
              refine WA.seq ?_
              refine WA.seq ?_
              refine WA.region ?_
              refine WR.val (G0 rfl) rfl rfl (.move rfl rfl) ?_
              refine WR.val (G0 rfl) rfl rfl (.move rfl rfl) ?_
              refine WR.val (G0 rfl) rfl rfl (.len rfl ST_23.1 rfl) ?_
              refine WR.val (G0 rfl) rfl rfl (.lss rfl rfl rfl) ?_
              refine WR.nil ?_
              refine WA.cond rfl (fun h72 => ?_) (fun h72 => ?_)
              · have f73 := h72
                try simp only [decide_eq_true_eq, decide_eq_false_iff_not, Bool.not_eq_true', Bool.not_eq_false', Int.not_lt, Int.not_le] at f73
                refine WA.skip ?_
                refine WA.seq ?_
                refine WA.block ?_
                refine WA.seq ?_
                have hjx := hal (gx (jn (eX s a b ⟨60, 1⟩ l) (eX s a' b' ⟨61, 1⟩ l')) (j : Int)) (gx_in (by omega))
                refine WA.region ?_
                refine WR.val (G0 rfl) rfl rfl (.move rfl rfl) ?_
                refine WR.val (G0 rfl) rfl rfl (.move rfl rfl) ?_
                refine WR.val (G0 rfl) rfl rfl (.ix rfl ST_23 rfl rfl (by omega) (by omega) (fun _ hw hn => (hw.slf_row 2 rfl).some_ hn)) ?_
                refine WR.val (G0 rfl) rfl rfl (.fe rfl FA_42_0 rfl) ?_
                refine WR.val (G0 rfl) rfl rfl (.fe rfl FA_39_0 rfl) ?_
                refine WR.val (G0 rfl) rfl rfl (.load1 rfl NA_3 rfl (fun _ hw => Rd.el (off := 0) (k := 1) (rdN (hw.slf_row 2 rfl) (by omega) (by omega)) rfl)) ?_
                refine WR.val (G0 rfl) rfl rfl (.geq rfl rfl rfl) ?_
                refine WR.val (G0 rfl) rfl rfl (.move rfl rfl) ?_
                refine WR.split (d := 142) rfl (fun h75 => ?_) (fun h75 => ?_)
                · have f76 := h75
                  try simp only [decide_eq_true_eq, decide_eq_false_iff_not, Bool.not_eq_true', Bool.not_eq_false', Int.not_lt, Int.not_le] at f76
                  refine WR.val (Gt rfl rfl rfl h75) rfl rfl (.move rfl rfl) ?_
                  refine WR.val (Gt rfl rfl rfl h75) rfl rfl (.move rfl rfl) ?_
                  refine WR.val (Gt rfl rfl rfl h75) rfl rfl (.ix rfl ST_23 rfl rfl (by omega) (by omega) (fun _ hw hn => (hw.slf_row 2 rfl).some_ hn)) ?_
                  refine WR.val (Gt rfl rfl rfl h75) rfl rfl (.fe rfl FA_42_0 rfl) ?_
                  refine WR.val (Gt rfl rfl rfl h75) rfl rfl (.fe rfl FA_39_0 rfl) ?_
                  refine WR.val (Gt rfl rfl rfl h75) rfl rfl (.load1 rfl NA_3 rfl (fun _ hw => Rd.el (off := 0) (k := 1) (rdN (hw.slf_row 2 rfl) (by omega) (by omega)) rfl)) ?_
                  refine WR.val (Gt rfl rfl rfl h75) rfl rfl (.leq rfl rfl rfl) ?_
                  refine WR.val (G0 rfl) rfl rfl (.pick_t rfl rfl h75 rfl) ?_
                  refine WR.val (G0 rfl) rfl rfl (.move rfl rfl) ?_
                  refine WR.split (d := 151) rfl (fun h78 => ?_) (fun h78 => ?_)
                  · have f79 := h78
                    try simp only [decide_eq_true_eq, decide_eq_false_iff_not, Bool.not_eq_true', Bool.not_eq_false', Int.not_lt, Int.not_le] at f79
                    refine WR.val (Gt rfl rfl rfl h78) rfl rfl (.move rfl rfl) ?_
                    refine WR.val (Gt rfl rfl rfl h78) rfl rfl (.move rfl rfl) ?_
                    refine WR.val (Gt rfl rfl rfl h78) rfl rfl (.ix rfl ST_23 rfl rfl (by omega) (by omega) (fun _ hw hn => (hw.slf_row 2 rfl).some_ hn)) ?_
                    refine WR.val (Gt rfl rfl rfl h78) rfl rfl (.fe rfl FA_42_3 rfl) ?_
                    refine WR.val (Gt rfl rfl rfl h78) rfl rfl (.load1 rfl NA_21 rfl (fun _ hw => Rd.el (off := 5) (k := 1) (rdN (hw.slf_row 2 rfl) (by omega) (by omega)) rfl)) ?_
                    refine WR.val (Gt rfl rfl rfl h78) rfl rfl (.eql rfl rfl rfl) ?_
                    refine WR.val (G0 rfl) rfl rfl (.pick_t rfl rfl h78 rfl) ?_
                    refine WR.nil ?_
                    refine WA.cond rfl (fun h81 => ?_) (fun h81 => ?_)
                    · have f82 := h81
                      try simp only [decide_eq_true_eq, decide_eq_false_iff_not, Bool.not_eq_true', Bool.not_eq_false', Int.not_lt, Int.not_le] at f82
                      refine WA.seq ?_
                      exfalso; have h9 := hjx (by omega); simp_all
                    · have f83 := h81
                      try simp only [decide_eq_true_eq, decide_eq_false_iff_not, Bool.not_eq_true', Bool.not_eq_false', Int.not_lt, Int.not_le] at f83
                      refine WA.skip ?_
                      refine WA.mark ?_
                      refine WA.region ?_
                      refine WR.val (G0 rfl) rfl rfl (.move rfl rfl) ?_
                      refine WR.val (G0 rfl) rfl rfl (.add rfl rfl rfl (by omega) (by omega)) ?_
                      refine WR.val (G0 rfl) rfl rfl (.assign rfl rfl) ?_
                      refine WR.nil ?_
                      exact WA.roundK (j + 1) (.cons rfl (.nil _)) (.cons rfl (.nil _)) (.refl _) (by omega) (by omega)
                  · have f84 := h78
                    try simp only [decide_eq_true_eq, decide_eq_false_iff_not, Bool.not_eq_true', Bool.not_eq_false', Int.not_lt, Int.not_le] at f84
                    refine WR.off (Gf rfl rfl rfl h78) rfl rfl ?_
                    refine WR.off (Gf rfl rfl rfl h78) rfl rfl ?_
                    refine WR.off (Gf rfl rfl rfl h78) rfl rfl ?_
                    refine WR.off (Gf rfl rfl rfl h78) rfl rfl ?_
                    refine WR.off (Gf rfl rfl rfl h78) rfl rfl ?_
                    refine WR.off (Gf rfl rfl rfl h78) rfl rfl ?_
                    refine WR.val (G0 rfl) rfl rfl (.pick_f rfl rfl h78 rfl) ?_
                    refine WR.nil ?_
                    refine WA.cond_f rfl rfl ?_
                    refine WA.skip ?_
                    refine WA.mark ?_
                    refine WA.region ?_
                    refine WR.val (G0 rfl) rfl rfl (.move rfl rfl) ?_
                    refine WR.val (G0 rfl) rfl rfl (.add rfl rfl rfl (by omega) (by omega)) ?_
                    refine WR.val (G0 rfl) rfl rfl (.assign rfl rfl) ?_
                    refine WR.nil ?_
                    exact WA.roundK (j + 1) (.cons rfl (.nil _)) (.cons rfl (.nil _)) (.refl _) (by omega) (by omega)
                · have f85 := h75
                  try simp only [decide_eq_true_eq, decide_eq_false_iff_not, Bool.not_eq_true', Bool.not_eq_false', Int.not_lt, Int.not_le] at f85
                  refine WR.off (Gf rfl rfl rfl h75) rfl rfl ?_
                  refine WR.off (Gf rfl rfl rfl h75) rfl rfl ?_
                  refine WR.off (Gf rfl rfl rfl h75) rfl rfl ?_
                  refine WR.off (Gf rfl rfl rfl h75) rfl rfl ?_
                  refine WR.off (Gf rfl rfl rfl h75) rfl rfl ?_
                  refine WR.off (Gf rfl rfl rfl h75) rfl rfl ?_
                  refine WR.off (Gf rfl rfl rfl h75) rfl rfl ?_
                  refine WR.val (G0 rfl) rfl rfl (.pick_f rfl rfl h75 rfl) ?_
                  refine WR.val (G0 rfl) rfl rfl (.move rfl rfl) ?_
                  refine WR.off (Gf rfl rfl rfl rfl) rfl rfl ?_
                  refine WR.off (Gf rfl rfl rfl rfl) rfl rfl ?_
                  refine WR.off (Gf rfl rfl rfl rfl) rfl rfl ?_
                  refine WR.off (Gf rfl rfl rfl rfl) rfl rfl ?_
                  refine WR.off (Gf rfl rfl rfl rfl) rfl rfl ?_
                  refine WR.off (Gf rfl rfl rfl rfl) rfl rfl ?_
                  refine WR.val (G0 rfl) rfl rfl (.pick_f rfl rfl rfl rfl) ?_
                  refine WR.nil ?_
                  refine WA.cond_f rfl rfl ?_
                  refine WA.skip ?_
                  refine WA.mark ?_
                  refine WA.region ?_
                  refine WR.val (G0 rfl) rfl rfl (.move rfl rfl) ?_
                  refine WR.val (G0 rfl) rfl rfl (.add rfl rfl rfl (by omega) (by omega)) ?_
                  refine WR.val (G0 rfl) rfl rfl (.assign rfl rfl) ?_
                  refine WR.nil ?_
                  exact WA.roundK (j + 1) (.cons rfl (.nil _)) (.cons rfl (.nil _)) (.refl _) (by omega) (by omega)
              · have f86 := h72
                try simp only [decide_eq_true_eq, decide_eq_false_iff_not, Bool.not_eq_true', Bool.not_eq_false', Int.not_lt, Int.not_le] at f86
                refine WA.exit rfl ?_
                refine WA.seq ?_
                refine WA.region ?_
                refine WR.dw (G0 rfl) rfl rfl (.callv (caps := []) rfl rfl rfl EN_38 (fun w hw => knownF _)) ?_
                rintro _ _ ⟨rfl, rfl⟩
                refine WR.val (G0 rfl) rfl rfl (.assign rfl rfl) ?_
                refine WR.nil ?_
                exact WA.ret1 rfl rfl (List.nil_sublist _) ⟨rfl, rfl⟩
end Go.Proofs.YtpbillinpjccdaaGreat.Fx
