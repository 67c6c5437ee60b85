/- Contracts: references of trees. -/
import Derived.Test.YtpbillinpjccdaaGreatFnQ
namespace Go.Proofs.YtpbillinpjccdaaGreat.Fo
open Go.RowKit Go.J Go.R Go.Proofs.YtpbillinpjccdaaGreat.Fa Go.Proofs.YtpbillinpjccdaaGreat.Fb Go.Proofs.YtpbillinpjccdaaGreat.Fc Go.Proofs.YtpbillinpjccdaaGreat.Fd Go.Proofs.YtpbillinpjccdaaGreat.Fe Go.Proofs.YtpbillinpjccdaaGreat.Fg Go.Proofs.YtpbillinpjccdaaGreat.Fh Go.Proofs.YtpbillinpjccdaaGreat.Fi Go.Proofs.YtpbillinpjccdaaGreat.Fj Go.Proofs.YtpbillinpjccdaaGreat.Fk Go.Proofs.YtpbillinpjccdaaGreat.Fl Go.Proofs.YtpbillinpjccdaaGreat.Fm Go.Proofs.YtpbillinpjccdaaGreat.Fn
set_option linter.unusedVariables false
set_option linter.unusedSimpArgs false
theorem follows : Tryz.prog.follows .mixedOrders = true := by kernel_rfl
theorem AG_39 : AG Tryz.prog 39 2 := ⟨Tryz.isAgg39, Tryz.sizeOf39⟩
theorem AG_42 : AG Tryz.prog 42 6 := ⟨Tryz.isAgg42, Tryz.sizeOf42⟩
theorem EN_113 : Enters Tryz.prog 113 := enters_of Tryz.func113 (by kernel_rfl) rfl
theorem EN_114 : Enters Tryz.prog 114 := enters_of Tryz.func114 (by kernel_rfl) rfl
theorem EN_172 : Enters Tryz.prog 172 := enters_of Tryz.func172 (by kernel_rfl) rfl
theorem EN_227 : Enters Tryz.prog 227 := enters_of Tryz.func227 (by kernel_rfl) rfl
theorem EN_260 : Enters Tryz.prog 260 := enters_of Tryz.func260 (by kernel_rfl) rfl
theorem EN_54 : Enters Tryz.prog 54 := enters_of Tryz.func54 (by kernel_rfl) rfl
theorem EQ_eql_39 {a0 a1 b0 b1 : Int} : ∀ x y w, (do eqGuard .eql 39 x y (.agg #[.int .i64 a0, .int .i64 a1]) (.agg #[.int .i64 b0, .int .i64 b1]); binOp .eql 39 (.agg #[.int .i64 a0, .int .i64 a1]) (.agg #[.int .i64 b0, .int .i64 b1]) : Sem Value).run Tryz.prog w = .ok (.bool (decide (a0 = b0) && (decide (a1 = b1)))) w := fun x y w => by
  simp [go_sem]
  by_cases a0 = b0 <;> by_cases a1 = b1 <;> simp [*]
theorem EQT_neq_39 {a b : Dot} : ∀ x y w, (do eqGuard .neq 39 x y (dv a) (dv b); binOp .neq 39 (dv a) (dv b) : Sem Value).run Tryz.prog w = .ok (.bool (!decide (a = b))) w := fun x y w => by
  simp [go_sem]
  by_cases a.r = b.r <;> by_cases a.c = b.c <;> simp [Dot.eq_iff, *]
theorem FA_42_0 : FA Tryz.prog 42 0 0 := fun ad w => by simp [Instr.fieldAt, run_underlying Tryz.underlying42, Instr.sureAddr, fieldPlace, Tryz.sizeOf39]
theorem FA_42_1 : FA Tryz.prog 42 1 2 := fun ad w => by simp [Instr.fieldAt, run_underlying Tryz.underlying42, Instr.sureAddr, fieldPlace, Tryz.sizeOf39]
theorem FA_42_2 : FA Tryz.prog 42 2 4 := fun ad w => by simp [Instr.fieldAt, run_underlying Tryz.underlying42, Instr.sureAddr, fieldPlace, Tryz.sizeOf3]
theorem FA_42_3 : FA Tryz.prog 42 3 5 := fun ad w => by simp [Instr.fieldAt, run_underlying Tryz.underlying42, Instr.sureAddr, fieldPlace, Tryz.sizeOf21]
theorem NA_21 : NA Tryz.prog 21 := ⟨Tryz.isAgg21, Tryz.sizeOf21⟩
theorem NA_3 : NA Tryz.prog 3 := ⟨Tryz.isAgg3, Tryz.sizeOf3⟩
theorem ST_23 : ST Tryz.prog 23 42 6 := ⟨Tryz.underlying23, Tryz.sizeOf42⟩
theorem ST_63 : ST Tryz.prog 63 21 1 := ⟨Tryz.underlying63, Tryz.sizeOf21⟩
theorem ZT_21 : ZT Tryz.prog 21 (.int .i32 0) 1 4 := by unfold ZT; kernel_rfl
theorem ZT_42 : ZT Tryz.prog 42 (.agg #[.int .i64 0, .int .i64 0, .int .i64 0, .int .i64 0, .int .i64 0, .int .i32 0]) 6 48 := by unfold ZT; kernel_rfl
set_option maxRecDepth 20000 in
/-- redpencil/redpencilref14.Children -/
theorem jchildrenF (l : List Nd) (A : Option Addr) (cap : Nat) (w : World) (hS : SlN w A l) (hl : l.length ≤ 800000) (d : Dot)  : Ct Tryz.prog 227 #[.slice A l.length cap, dv d] [] w (fun u hs => ∃ B c, u = .slice B (kidsJ l d).length c ∧ hs = [En.row B (kidsJ l d).length c 42 6 ((kidsJ l d).flatMap nc)]) := by
  refine Ct.intro Tryz.func227 rfl Tryz.ntmps227 rfl ?_
  refine WA.seq ?_
  refine WA.region ?_
  refine WR.dw (G0 rfl) rfl rfl (.box (vs := [_, _]) rfl rfl rfl) ?_
  rintro _ _ ⟨b2, rfl, rfl⟩
  refine WR.val (G0 rfl) rfl rfl (.assign rfl rfl) ?_
  refine WR.nil ?_
  refine WA.seq ?_
  refine WA.region ?_
  refine WR.val (G0 rfl) rfl rfl (.assign rfl rfl) ?_
  refine WR.nilrow 42 6 ?_
  refine WR.nil ?_
  refine WA.seq ?_
  refine WA.seq ?_
  refine WA.region ?_
  refine WR.val (G0 rfl) rfl rfl (.assign rfl rfl) ?_
  refine WR.nil ?_
  refine WA.block ?_
  refine WA.loopK (γ := Nat × Option Addr × Nat × List Nd) [(0, _), (3, _), (4, _)] [_] (fun q => [(5, .slice q.2.1 q.2.2.2.length q.2.2.1), (6, .int .i64 (q.1 : Int))]) (fun q => [En.row q.2.1 q.2.2.2.length q.2.2.1 42 6 (q.2.2.2.flatMap nc)]) (fun q => q.1 ≤ l.length ∧ q.2.2.2 = kidsJ (l.take q.1) d) (fun q => l.length - q.1) (0, none, 0, []) (.cons rfl (.cons rfl (.cons rfl (.nil _)))) (.cons rfl (.cons rfl (.nil _))) (.refl _) ⟨by simp, rfl⟩ ?_
  intro q hk
  obtain ⟨hk, hd⟩ := hk
  have hkt : q.1 < l.length → kidsJ (l.take (q.1 + 1)) d = if (gx l (q.1 : Int)).p = d then kins q.2.2.2 (gx l (q.1 : Int)) else q.2.2.2 := fun h => by rw [kidsJ_take l d h, hd]
  have hcl : q.2.2.2.length ≤ l.length := by rw [hd]; exact Nat.le_trans (kidsJ_len _ _) (List.length_take_le' _ _)
  refine WA.seq ?_
  refine WA.seq ?_
  refine WA.region ?_
  refine WR.val (G0 rfl) rfl rfl (.move rfl rfl) ?_
  refine WR.val (G0 rfl) rfl rfl (.move rfl rfl) ?_
  refine WR.val (G0 rfl) rfl rfl (.len rfl ST_23.1 rfl) ?_
  refine WR.val (G0 rfl) rfl rfl (.lss rfl rfl rfl) ?_
  refine WR.nil ?_
  refine WA.cond rfl (fun h5 => ?_) (fun h5 => ?_)
  · have f6 := h5
    try simp only [decide_eq_true_eq, decide_eq_false_iff_not, Bool.not_eq_true', Bool.not_eq_false', Int.not_lt, Int.not_le] at f6
    refine WA.skip ?_
    refine WA.seq ?_
    refine WA.block ?_
    refine WA.seq ?_
    refine WA.seq ?_
    refine WA.draws0 follows ?_
    refine WH.take 0 rfl (Pf_blind _ _ _ _ _) (by kernel_rfl) (by kernel_rfl) (by kernel_rfl) (.refl _) (G0 rfl) rfl rfl (.move rfl rfl) ?_
    refine WH.take 1 rfl (Pf_blind _ _ _ _ _) (by kernel_rfl) (by kernel_rfl) (by kernel_rfl) (.refl _) (G0 rfl) rfl rfl (.move rfl rfl) ?_
    refine WH.take 2 rfl (Pf_blind _ _ _ _ _) (by kernel_rfl) (by kernel_rfl) (by kernel_rfl) (.refl _) (G0 rfl) rfl rfl (.ix rfl ST_23 rfl rfl (by omega) (by omega) (fun _ hw hn => (hw.slf0 hS).some_ hn)) ?_
    refine WH.take 3 rfl (Pf_blind _ _ _ _ _) (by kernel_rfl) (by kernel_rfl) (by kernel_rfl) (.refl _) (G0 rfl) rfl rfl (.fe rfl FA_42_1 rfl) ?_
    refine WH.take 4 rfl (Pf_blind _ _ _ _ _) (by kernel_rfl) (by kernel_rfl) (by kernel_rfl) (.refl _) (G0 rfl) rfl rfl (.loadK (vs := [_, _]) rfl AG_39 rfl (fun _ hw => Rd.el (off := 2) (k := 2) (rdN (hw.slf0 hS) (by omega) (by omega)) rfl)) ?_
    refine WH.take 5 rfl (Pf_blind _ _ _ _ _) (by kernel_rfl) (by kernel_rfl) (by kernel_rfl) (.refl _) (G0 rfl) rfl rfl (.loadK (vs := [_, _]) rfl AG_39 rfl (fun _ hw => hw.rd_blk (k := 2) 1 rfl rfl)) ?_
    refine WH.take 6 rfl (Pf_blind _ _ _ _ _) (by kernel_rfl) (by kernel_rfl) (by kernel_rfl) (.refl _) (G0 rfl) rfl rfl (.bin rfl rfl rfl EQT_neq_39) ?_
    refine WH.done (by kernel_rfl) ?_
    refine WA.cond rfl (fun h8 => ?_) (fun h8 => ?_)
    · have f9 := h8
      try simp only [decide_eq_true_eq, decide_eq_false_iff_not, Bool.not_eq_true', Bool.not_eq_false', Int.not_lt, Int.not_le] at f9
      refine WA.exit rfl ?_
      refine WA.region ?_
      refine WR.val (G0 rfl) rfl rfl (.move rfl rfl) ?_
      refine WR.val (G0 rfl) rfl rfl (.add rfl rfl rfl (by omega) (by omega)) ?_
      refine WR.val (G0 rfl) rfl rfl (.assign rfl rfl) ?_
      refine WR.nil ?_
      have hkt2 := hkt (by omega)
      rw [if_neg (by simp_all)] at hkt2
      exact WA.roundK (q.1 + 1, q.2.1, q.2.2.1, q.2.2.2) (.cons rfl (.cons rfl (.cons rfl (.nil _)))) (.cons rfl (.cons rfl (.nil _))) (.refl _) ⟨by dsimp only; omega, hkt2.symm⟩ (by dsimp only; omega)
    · have f10 := h8
      try simp only [decide_eq_true_eq, decide_eq_false_iff_not, Bool.not_eq_true', Bool.not_eq_false', Int.not_lt, Int.not_le] at f10
      refine WA.skip ?_
      refine WA.seq ?_
      refine WA.region ?_
      refine WR.val (G0 rfl) rfl rfl (.assign rfl rfl) ?_
      refine WR.nil ?_
      refine WA.seq ?_
      refine WA.block ?_
      refine WA.loopK (γ := Nat) [(0, _), (3, _), (4, _), (5, _), (6, _)] [_, _] (fun j => [(7, .int .i64 (j : Int))]) (fun j => []) (fun j => j ≤ q.2.2.2.length ∧ ∀ i : Nat, i < j → nfirst (gx q.2.2.2 (i : Int)) (gx l (q.1 : Int)) = true) (fun j => q.2.2.2.length - j) 0 (.cons rfl (.cons rfl (.cons rfl (.cons rfl (.cons rfl (.nil _)))))) (.cons rfl (.nil _)) (.refl _) ⟨by omega, fun _ h => absurd h (by omega)⟩ ?_
      intro j hj
      obtain ⟨hj, hjd⟩ := hj
      refine WA.seq ?_
      refine WA.seq ?_
      refine WA.draws0 follows ?_
      refine WH.take 0 rfl (Pf_blind _ _ _ _ _) (by kernel_rfl) (by kernel_rfl) (by kernel_rfl) (.refl _) (G0 rfl) rfl rfl (.move rfl rfl) ?_
      refine WH.take 1 rfl (Pf_blind _ _ _ _ _) (by kernel_rfl) (by kernel_rfl) (by kernel_rfl) (.refl _) (G0 rfl) rfl rfl (.move rfl rfl) ?_
      refine WH.take 2 rfl (Pf_blind _ _ _ _ _) (by kernel_rfl) (by kernel_rfl) (by kernel_rfl) (.refl _) (G0 rfl) rfl rfl (.len rfl ST_23.1 rfl) ?_
      refine WH.take 3 rfl (Pf_blind _ _ _ _ _) (by kernel_rfl) (by kernel_rfl) (by kernel_rfl) (.refl _) (G0 rfl) rfl rfl (.lss rfl rfl rfl) ?_
      refine WH.take 4 rfl (Pf_blind _ _ _ _ _) (by kernel_rfl) (by kernel_rfl) (by kernel_rfl) (.refl _) (G0 rfl) rfl rfl (.move rfl rfl) ?_
      refine WH.split (d := 26) rfl (fun h12 => ?_) (fun h12 => ?_)
      · have f13 := h12
        try simp only [decide_eq_true_eq, decide_eq_false_iff_not, Bool.not_eq_true', Bool.not_eq_false', Int.not_lt, Int.not_le] at f13
        refine WH.take 5 rfl (Pf_blind _ _ _ _ _) (by kernel_rfl) (by kernel_rfl) (by kernel_rfl) (.refl _) (Gt rfl rfl rfl h12) rfl rfl (.move rfl rfl) ?_
        refine WH.take 6 rfl (Pf_blind _ _ _ _ _) (by kernel_rfl) (by kernel_rfl) (by kernel_rfl) (.refl _) (Gt rfl rfl rfl h12) rfl rfl (.move rfl rfl) ?_
        refine WH.take 7 rfl (Pf_blind _ _ _ _ _) (by kernel_rfl) (by kernel_rfl) (by kernel_rfl) (.refl _) (Gt rfl rfl rfl h12) rfl rfl (.ix rfl ST_23 rfl rfl (by omega) (by omega) (fun _ hw hn => (hw.slf_row 0 rfl).some_ hn)) ?_
        refine WH.take 8 rfl (Pf_blind _ _ _ _ _) (by kernel_rfl) (by kernel_rfl) (by kernel_rfl) (.refl _) (Gt rfl rfl rfl h12) rfl rfl (.loadK (vs := [_, _, _, _, _, _]) rfl AG_42 rfl (fun _ hw => rdN (hw.slf_row 0 rfl) (by omega) (by omega))) ?_
        refine WH.take 9 rfl (Pf_blind _ _ _ _ _) (by kernel_rfl) (by kernel_rfl) (by kernel_rfl) (.refl _) (Gt rfl rfl rfl h12) rfl rfl (.move rfl rfl) ?_
        refine WH.take 10 rfl (Pf_blind _ _ _ _ _) (by kernel_rfl) (by kernel_rfl) (by kernel_rfl) (.refl _) (Gt rfl rfl rfl h12) rfl rfl (.move rfl rfl) ?_
        refine WH.take 11 rfl (Pf_blind _ _ _ _ _) (by kernel_rfl) (by kernel_rfl) (by kernel_rfl) (.refl _) (Gt rfl rfl rfl h12) rfl rfl (.ix rfl ST_23 rfl rfl (by omega) (by omega) (fun _ hw hn => (hw.slf0 hS).some_ hn)) ?_
        refine WH.take 12 rfl (Pf_blind _ _ _ _ _) (by kernel_rfl) (by kernel_rfl) (by kernel_rfl) (.refl _) (Gt rfl rfl rfl h12) rfl rfl (.loadK (vs := [_, _, _, _, _, _]) rfl AG_42 rfl (fun _ hw => rdN (hw.slf0 hS) (by omega) (by omega))) ?_
        refine WH.dw 13 rfl (by kernel_rfl) (Gt rfl rfl rfl h12) rfl rfl (.callv (caps := []) rfl rfl rfl EN_260 (fun w hw => jfirstF _ _ w)) ?_
        rintro _ _ ⟨rfl, rfl⟩
        refine ⟨(.refl _), ?_⟩
        refine WH.take 14 rfl (Pf_blind _ _ _ _ _) (by kernel_rfl) (by kernel_rfl) (by kernel_rfl) (.refl _) (G0 rfl) rfl rfl (.pick_t rfl rfl h12 rfl) ?_
        refine WH.done (by kernel_rfl) ?_
        refine WA.cond rfl (fun h16 => ?_) (fun h16 => ?_)
        · have f17 := h16
          try simp only [decide_eq_true_eq, decide_eq_false_iff_not, Bool.not_eq_true', Bool.not_eq_false', Int.not_lt, Int.not_le] at f17
          refine WA.skip ?_
          refine WA.block ?_
          refine WA.region ?_
          refine WR.val (G0 rfl) rfl rfl (.move rfl rfl) ?_
          refine WR.val (G0 rfl) rfl rfl (.add rfl rfl rfl (by omega) (by omega)) ?_
          refine WR.val (G0 rfl) rfl rfl (.assign rfl rfl) ?_
          refine WR.nil ?_
          refine WA.mark ?_
          exact WA.roundK (j + 1) (.cons rfl (.cons rfl (.cons rfl (.cons rfl (.cons rfl (.nil _)))))) (.cons rfl (.nil _)) (.refl _) ⟨by omega, lt_snoc hjd (by simp_all)⟩ (by omega)
        · have f18 := h16
          try simp only [decide_eq_true_eq, decide_eq_false_iff_not, Bool.not_eq_true', Bool.not_eq_false', Int.not_lt, Int.not_le] at f18
          refine WA.exit rfl ?_
          refine WA.seq ?_
          obtain ⟨htw, hdw⟩ := tw_take (p := fun m => nfirst m (gx l (q.1 : Int))) hj hjd (fun hlt => by first | (exfalso; omega) | simp_all)
          have hkl0 := kins_len q.2.2.2 (gx l (q.1 : Int))
          refine WA.rowcap 0 rfl (fun hcap => ?_)
          refine WA.draws0 follows ?_
          refine WH.take 0 rfl (Pf_blind _ _ _ _ _) (by kernel_rfl) (by kernel_rfl) (by kernel_rfl) (.refl _) (G0 rfl) rfl rfl (.move rfl rfl) ?_
          refine WH.take 1 rfl (Pf_blind _ _ _ _ _) (by kernel_rfl) (by kernel_rfl) (by kernel_rfl) (.refl _) (G0 rfl) rfl rfl (.move rfl rfl) ?_
          refine WH.take 2 rfl (Pf_blind _ _ _ _ _) (by kernel_rfl) (by kernel_rfl) (by kernel_rfl) (.refl _) (G0 rfl) rfl rfl (.ix rfl ST_23 rfl rfl (by omega) (by omega) (fun _ hw hn => (hw.slf0 hS).some_ hn)) ?_
          refine WH.take 3 rfl (Pf_blind _ _ _ _ _) (by kernel_rfl) (by kernel_rfl) (by kernel_rfl) (.refl _) (G0 rfl) rfl rfl (.loadK (vs := [_, _, _, _, _, _]) rfl AG_42 rfl (fun _ hw => rdN (hw.slf0 hS) (by omega) (by omega))) ?_
          refine WH.take 5 rfl (Pf_blind _ _ _ _ _) (by kernel_rfl) (by kernel_rfl) (by kernel_rfl) (.refl _) (G0 rfl) rfl rfl (.move rfl rfl) ?_
          refine WH.take 6 rfl (Pf_blind _ _ _ _ _) (by kernel_rfl) (by kernel_rfl) (by kernel_rfl) (.refl _) (G0 rfl) rfl rfl (.move rfl rfl) ?_
          refine WH.take 7 rfl (Pf_blind _ _ _ _ _) (by kernel_rfl) (by kernel_rfl) (by kernel_rfl) (.refl _) (G0 rfl) rfl rfl (.slice_l rfl ST_23 rfl rfl (by omega) (by omega)) ?_
          refine WH.dw 4 rfl (by kernel_rfl) (G0 rfl) rfl rfl (.buildSlice (k := 6) (e := 42) (vs := [_, _, _, _, _, _]) rfl rfl rfl (fun _ => by kernel_rfl) rfl) ?_
          rintro _ _ ⟨b28, rfl, rfl⟩
          refine ⟨(.cons _ (.refl _)), ?_⟩
          refine WH.asrow (k := 6) 0 1 rfl rfl (by simp [maxLen]) ?_
          refine WH.dw 8 rfl (by kernel_rfl) (G0 rfl) rfl rfl (.append 0 rfl ST_23.1 ZT_42 rfl (by decide) rfl rfl rfl (fun _ hw => slN_drop (hw.slf_row 1 rfl) (k := j) (by omega) hcap.1) (one_flat one_nc _) (by omega) (by omega)) ?_
          rintro _ _ ⟨A31, c32, rfl, rfl⟩
          refine ⟨(.cons _ (.refl _)), ?_⟩
          refine WH.take 9 rfl (Pf_blind _ _ _ _ _) (by kernel_rfl) (by kernel_rfl) (by kernel_rfl) (.cons _ (.refl _)) (G0 rfl) rfl rfl (.assign rfl rfl) ?_
          refine WH.done (by kernel_rfl) ?_
          refine WA.roweq 0 rfl _ (((gx l (q.1 : Int)) :: q.2.2.2.drop j).flatMap nc) rfl rfl ?_
          refine WA.region ?_
          refine WR.val (G0 rfl) rfl rfl (.move rfl rfl) ?_
          refine WR.val (G0 rfl) rfl rfl (.move rfl rfl) ?_
          refine WR.val (G0 rfl) rfl rfl (.slice_h rfl ST_23 rfl rfl (by omega) (by omega)) ?_
          refine WR.nilrow 42 6 ?_
          refine WR.dw (G0 rfl) rfl rfl (.append 0 rfl ST_23.1 ZT_42 rfl (by decide) rfl rfl rfl (fun _ hw => slN_pre (hw.slf_row 2 rfl) (k := j) (by omega)) (one_flat one_nc _) (by omega) (by omega)) ?_
          rintro _ _ ⟨A34, c35, rfl, rfl⟩
          refine WR.val (G0 rfl) rfl rfl (.move rfl rfl) ?_
          refine WR.dw (G0 rfl) rfl rfl (.append 0 rfl ST_23.1 ZT_42 rfl (by decide) rfl rfl rfl (fun _ hw => hw.slf_row 1 rfl) (one_flat one_nc _) (by omega) (by omega)) ?_
          rintro _ _ ⟨A36, c37, rfl, rfl⟩
          refine WR.val (G0 rfl) rfl rfl (.assign rfl rfl) ?_
          refine WR.nil ?_
          refine WA.mark ?_
          have hkl : 0 + (j : Int).toNat + (1 + (q.2.2.2.length - (j : Int).toNat)) = (kins q.2.2.2 (gx l (q.1 : Int))).length := by rw [hkl0]; omega
          refine WA.roweq 0 rfl (kins q.2.2.2 (gx l (q.1 : Int))).length ((kins q.2.2.2 (gx l (q.1 : Int))).flatMap nc) hkl (by rw [kins, ← htw, ← hdw, List.flatMap_append]; rfl) ?_
          refine WA.region ?_
          refine WR.val (G0 rfl) rfl rfl (.move rfl rfl) ?_
          refine WR.val (G0 rfl) rfl rfl (.add rfl rfl rfl (by omega) (by omega)) ?_
          refine WR.val (G0 rfl) rfl rfl (.assign rfl rfl) ?_
          refine WR.nil ?_
          have hkt2 := hkt (by omega)
          rw [if_pos (by simp_all)] at hkt2
          exact WA.roundK (q.1 + 1, A36, c37, kins q.2.2.2 (gx l (q.1 : Int))) (.cons rfl (.cons rfl (.cons rfl (.nil _)))) (.cons (Eq.trans rfl (congrArg (fun z : Nat => some (Value.slice A36 z c37)) hkl)) (.cons rfl (.nil _))) (.cons_cons _ (.cons _ (.cons _ (.refl _)))) ⟨by dsimp only; omega, hkt2.symm⟩ (by dsimp only; omega)
      · have f39 := h12
        try simp only [decide_eq_true_eq, decide_eq_false_iff_not, Bool.not_eq_true', Bool.not_eq_false', Int.not_lt, Int.not_le] at f39
        refine WH.off 5 rfl (Pf_blind _ _ _ _ _) (by kernel_rfl) (by kernel_rfl) (by kernel_rfl) (.refl _) (Gf rfl rfl rfl h12) rfl rfl ?_
        refine WH.off 6 rfl (Pf_blind _ _ _ _ _) (by kernel_rfl) (by kernel_rfl) (by kernel_rfl) (.refl _) (Gf rfl rfl rfl h12) rfl rfl ?_
        refine WH.off 7 rfl (Pf_blind _ _ _ _ _) (by kernel_rfl) (by kernel_rfl) (by kernel_rfl) (.refl _) (Gf rfl rfl rfl h12) rfl rfl ?_
        refine WH.off 8 rfl (Pf_blind _ _ _ _ _) (by kernel_rfl) (by kernel_rfl) (by kernel_rfl) (.refl _) (Gf rfl rfl rfl h12) rfl rfl ?_
        refine WH.off 9 rfl (Pf_blind _ _ _ _ _) (by kernel_rfl) (by kernel_rfl) (by kernel_rfl) (.refl _) (Gf rfl rfl rfl h12) rfl rfl ?_
        refine WH.off 10 rfl (Pf_blind _ _ _ _ _) (by kernel_rfl) (by kernel_rfl) (by kernel_rfl) (.refl _) (Gf rfl rfl rfl h12) rfl rfl ?_
        refine WH.off 11 rfl (Pf_blind _ _ _ _ _) (by kernel_rfl) (by kernel_rfl) (by kernel_rfl) (.refl _) (Gf rfl rfl rfl h12) rfl rfl ?_
        refine WH.off 12 rfl (Pf_blind _ _ _ _ _) (by kernel_rfl) (by kernel_rfl) (by kernel_rfl) (.refl _) (Gf rfl rfl rfl h12) rfl rfl ?_
        refine WH.off 13 rfl (Pf_blind _ _ _ _ _) (by kernel_rfl) (by kernel_rfl) (by kernel_rfl) (.refl _) (Gf rfl rfl rfl h12) rfl rfl ?_
        refine WH.take 14 rfl (Pf_blind _ _ _ _ _) (by kernel_rfl) (by kernel_rfl) (by kernel_rfl) (.refl _) (G0 rfl) rfl rfl (.pick_f rfl rfl h12 rfl) ?_
        refine WH.done (by kernel_rfl) ?_
        refine WA.cond_f rfl rfl ?_
        refine WA.exit rfl ?_
        refine WA.seq ?_
        obtain ⟨htw, hdw⟩ := tw_take (p := fun m => nfirst m (gx l (q.1 : Int))) hj hjd (fun hlt => by first | (exfalso; omega) | simp_all)
        have hkl0 := kins_len q.2.2.2 (gx l (q.1 : Int))
        refine WA.rowcap 0 rfl (fun hcap => ?_)
        refine WA.draws0 follows ?_
        refine WH.take 0 rfl (Pf_blind _ _ _ _ _) (by kernel_rfl) (by kernel_rfl) (by kernel_rfl) (.refl _) (G0 rfl) rfl rfl (.move rfl rfl) ?_
        refine WH.take 1 rfl (Pf_blind _ _ _ _ _) (by kernel_rfl) (by kernel_rfl) (by kernel_rfl) (.refl _) (G0 rfl) rfl rfl (.move rfl rfl) ?_
        refine WH.take 2 rfl (Pf_blind _ _ _ _ _) (by kernel_rfl) (by kernel_rfl) (by kernel_rfl) (.refl _) (G0 rfl) rfl rfl (.ix rfl ST_23 rfl rfl (by omega) (by omega) (fun _ hw hn => (hw.slf0 hS).some_ hn)) ?_
        refine WH.take 3 rfl (Pf_blind _ _ _ _ _) (by kernel_rfl) (by kernel_rfl) (by kernel_rfl) (.refl _) (G0 rfl) rfl rfl (.loadK (vs := [_, _, _, _, _, _]) rfl AG_42 rfl (fun _ hw => rdN (hw.slf0 hS) (by omega) (by omega))) ?_
        refine WH.take 5 rfl (Pf_blind _ _ _ _ _) (by kernel_rfl) (by kernel_rfl) (by kernel_rfl) (.refl _) (G0 rfl) rfl rfl (.move rfl rfl) ?_
        refine WH.take 6 rfl (Pf_blind _ _ _ _ _) (by kernel_rfl) (by kernel_rfl) (by kernel_rfl) (.refl _) (G0 rfl) rfl rfl (.move rfl rfl) ?_
        refine WH.take 7 rfl (Pf_blind _ _ _ _ _) (by kernel_rfl) (by kernel_rfl) (by kernel_rfl) (.refl _) (G0 rfl) rfl rfl (.slice_l rfl ST_23 rfl rfl (by omega) (by omega)) ?_
        refine WH.dw 4 rfl (by kernel_rfl) (G0 rfl) rfl rfl (.buildSlice (k := 6) (e := 42) (vs := [_, _, _, _, _, _]) rfl rfl rfl (fun _ => by kernel_rfl) rfl) ?_
        rintro _ _ ⟨b49, rfl, rfl⟩
        refine ⟨(.cons _ (.refl _)), ?_⟩
        refine WH.asrow (k := 6) 0 1 rfl rfl (by simp [maxLen]) ?_
        refine WH.dw 8 rfl (by kernel_rfl) (G0 rfl) rfl rfl (.append 0 rfl ST_23.1 ZT_42 rfl (by decide) rfl rfl rfl (fun _ hw => slN_drop (hw.slf_row 1 rfl) (k := j) (by omega) hcap.1) (one_flat one_nc _) (by omega) (by omega)) ?_
        rintro _ _ ⟨A52, c53, rfl, rfl⟩
        refine ⟨(.cons _ (.refl _)), ?_⟩
        refine WH.take 9 rfl (Pf_blind _ _ _ _ _) (by kernel_rfl) (by kernel_rfl) (by kernel_rfl) (.cons _ (.refl _)) (G0 rfl) rfl rfl (.assign rfl rfl) ?_
        refine WH.done (by kernel_rfl) ?_
        refine WA.roweq 0 rfl _ (((gx l (q.1 : Int)) :: q.2.2.2.drop j).flatMap nc) rfl rfl ?_
        refine WA.region ?_
        refine WR.val (G0 rfl) rfl rfl (.move rfl rfl) ?_
        refine WR.val (G0 rfl) rfl rfl (.move rfl rfl) ?_
        refine WR.val (G0 rfl) rfl rfl (.slice_h rfl ST_23 rfl rfl (by omega) (by omega)) ?_
        refine WR.nilrow 42 6 ?_
        refine WR.dw (G0 rfl) rfl rfl (.append 0 rfl ST_23.1 ZT_42 rfl (by decide) rfl rfl rfl (fun _ hw => slN_pre (hw.slf_row 2 rfl) (k := j) (by omega)) (one_flat one_nc _) (by omega) (by omega)) ?_
        rintro _ _ ⟨A55, c56, rfl, rfl⟩
        refine WR.val (G0 rfl) rfl rfl (.move rfl rfl) ?_
        refine WR.dw (G0 rfl) rfl rfl (.append 0 rfl ST_23.1 ZT_42 rfl (by decide) rfl rfl rfl (fun _ hw => hw.slf_row 1 rfl) (one_flat one_nc _) (by omega) (by omega)) ?_
        rintro _ _ ⟨A57, c58, rfl, rfl⟩
        refine WR.val (G0 rfl) rfl rfl (.assign rfl rfl) ?_
        refine WR.nil ?_
        refine WA.mark ?_
        have hkl : 0 + (j : Int).toNat + (1 + (q.2.2.2.length - (j : Int).toNat)) = (kins q.2.2.2 (gx l (q.1 : Int))).length := by rw [hkl0]; omega
        refine WA.roweq 0 rfl (kins q.2.2.2 (gx l (q.1 : Int))).length ((kins q.2.2.2 (gx l (q.1 : Int))).flatMap nc) hkl (by rw [kins, ← htw, ← hdw, List.flatMap_append]; rfl) ?_
        refine WA.region ?_
        refine WR.val (G0 rfl) rfl rfl (.move rfl rfl) ?_
        refine WR.val (G0 rfl) rfl rfl (.add rfl rfl rfl (by omega) (by omega)) ?_
        refine WR.val (G0 rfl) rfl rfl (.assign rfl rfl) ?_
        refine WR.nil ?_
        have hkt2 := hkt (by omega)
        rw [if_pos (by simp_all)] at hkt2
        exact WA.roundK (q.1 + 1, A57, c58, kins q.2.2.2 (gx l (q.1 : Int))) (.cons rfl (.cons rfl (.cons rfl (.nil _)))) (.cons (Eq.trans rfl (congrArg (fun z : Nat => some (Value.slice A57 z c58)) hkl)) (.cons rfl (.nil _))) (.cons_cons _ (.cons _ (.cons _ (.refl _)))) ⟨by dsimp only; omega, hkt2.symm⟩ (by dsimp only; omega)
  · have f60 := h5
    try simp only [decide_eq_true_eq, decide_eq_false_iff_not, Bool.not_eq_true', Bool.not_eq_false', Int.not_lt, Int.not_le] at f60
    refine WA.exit rfl ?_
    refine WA.seq ?_
    refine WA.region ?_
    refine WR.val (G0 rfl) rfl rfl (.move rfl rfl) ?_
    refine WR.val (G0 rfl) rfl rfl (.assign rfl rfl) ?_
    refine WR.nil ?_
    have hE : q.2.2.2 = kidsJ l d := by rw [hd, List.take_of_length_le (by omega)]
    rw [hE]
    exact WA.ret1 rfl rfl (.cons_cons _ (.cons _ .slnil)) ⟨_, _, rfl, rfl⟩
set_option maxRecDepth 20000 in
/-- redpencil/redpencilref14.Order -/
theorem jorderF (l : List Nd) (A : Option Addr) (cap : Nat) (w : World) (hS : SlN w A l) (hl : l.length ≤ 800000) (hok : storeOk l = true) : Ct Tryz.prog 172 #[.slice A l.length cap] [] w (fun u hs => ∃ B c, u = .slice B (order l).length c ∧ hs = [En.row B (order l).length c 42 6 ((order l).flatMap nc)]) := by
  refine Ct.intro Tryz.func172 rfl Tryz.ntmps172 rfl ?_
  refine WA.seq ?_
  refine WA.region ?_
  refine WR.val (G0 rfl) rfl rfl (.assign rfl rfl) ?_
  refine WR.nil ?_
  refine WA.seq ?_
  have hdd := storeOk_dd hok
  refine WA.region ?_
  refine WR.val (G0 rfl) rfl rfl (.assign rfl rfl) ?_
  refine WR.nilrow 42 6 ?_
  refine WR.nil ?_
  refine WA.seq ?_
  refine WA.region ?_
  refine WR.val (G0 rfl) rfl rfl (.move rfl rfl) ?_
  refine WR.val (G0 rfl) rfl rfl (.build (vs := [_, _]) [.int .i64 0, .int .i64 0] [0, 1] rfl rfl rfl (fun _ => by kernel_rfl)) ?_
  refine WR.dw (G0 rfl) rfl rfl (.call0 (caps := []) rfl rfl rfl EN_227 (fun w hw => jchildrenF l A cap _ (hw.slf0 hS) hl rt)) ?_
  rintro _ _ ⟨_, ⟨v3, v4, rfl, rfl⟩, rfl⟩
  refine WR.val (G0 rfl) rfl rfl (.assign rfl rfl) ?_
  refine WR.nil ?_
  refine WA.seq ?_
  refine WA.block ?_
  refine WA.front 0 rfl ?_
  refine WA.front 1 rfl ?_
  refine WA.loopK (γ := (Option Addr × Nat × List Nd) × Option Addr × Nat × List Nd) [(0, _), (2, _)] [] (fun q => [(3, .slice q.1.1 q.1.2.2.length q.1.2.1), (4, .slice q.2.1 q.2.2.2.length q.2.2.1)]) (fun q => [En.row q.1.1 q.1.2.2.length q.1.2.1 42 6 (q.1.2.2.flatMap nc), En.row q.2.1 q.2.2.2.length q.2.2.1 42 6 (q.2.2.2.flatMap nc)]) (fun q => Visit l q.1.2.2 q.2.2.2) (fun q => l.length - q.1.2.2.length) ((none, 0, []), v3, v4, kidsJ l rt) (.cons rfl (.cons rfl (.nil _))) (.cons rfl (.cons rfl (.nil _))) (.refl _) (by rw [kidsJ_eq hdd]; exact Visit.start hdd) ?_
  intro q hv
  have hvl := hv.len
  refine WA.seq ?_
  refine WA.seq ?_
  refine WA.region ?_
  refine WR.val (G0 rfl) rfl rfl (.move rfl rfl) ?_
  refine WR.val (G0 rfl) rfl rfl (.len rfl ST_23.1 rfl) ?_
  refine WR.val (G0 rfl) rfl rfl (.gtr rfl rfl rfl) ?_
  refine WR.nil ?_
  refine WA.cond rfl (fun h6 => ?_) (fun h6 => ?_)
  · have f7 := h6
    try simp only [decide_eq_true_eq, decide_eq_false_iff_not, Bool.not_eq_true', Bool.not_eq_false', Int.not_lt, Int.not_le] at f7
    refine WA.skip ?_
    refine WA.block ?_
    refine WA.seq ?_
    have hpos : 0 < q.2.2.2.length := by omega
    have hkl := kidsJ_len l (gx q.2.2.2 0).d
    refine WA.rowcap 1 rfl (fun hcapt => ?_)
    refine WA.region ?_
    refine WR.val (G0 rfl) rfl rfl (.move rfl rfl) ?_
    refine WR.val (G0 rfl) rfl rfl (.ix rfl ST_23 rfl rfl (by omega) (by omega) (fun _ hw hn => (hw.slf_row 1 rfl).some_ hn)) ?_
    refine WR.val (G0 rfl) rfl rfl (.loadK (vs := [_, _, _, _, _, _]) rfl AG_42 rfl (fun _ hw => rdN (hw.slf_row 1 rfl) (by omega) (by omega))) ?_
    refine WR.dw (G0 rfl) rfl rfl (.alloc (vs := [_, _, _, _, _, _]) rfl ZT_42 rfl) ?_
    rintro _ _ ⟨b9, rfl, rfl⟩
    refine WR.dw0 (G0 rfl) rfl (.store (i := 0) rfl AG_42.2 rfl rfl [_, _, _, _, _, _] rfl rfl (by intro u hu; simp at hu; rcases hu with rfl | rfl | rfl | rfl | rfl | rfl <;> rfl) rfl rfl) ?_
    rintro _ _ ⟨rfl, rfl⟩
    refine WR.nil ?_
    refine WA.seq ?_
    refine WA.region ?_
    refine WR.val (G0 rfl) rfl rfl (.move rfl rfl) ?_
    refine WR.val (G0 rfl) rfl rfl (.loadK (vs := [_, _, _, _, _, _]) rfl AG_42 rfl (fun _ hw => hw.rd_blk (k := 6) 0 rfl rfl)) ?_
    refine WR.dw (G0 rfl) rfl rfl (.buildSlice (k := 6) (e := 42) (vs := [_, _, _, _, _, _]) rfl rfl rfl (fun _ => by kernel_rfl) rfl) ?_
    rintro _ _ ⟨b11, rfl, rfl⟩
    refine WR.dw (G0 rfl) rfl rfl (.append 2 rfl ST_23.1 ZT_42 rfl (by decide) rfl rfl rfl (fun _ hw => hw.slf_blk 0 rfl rfl (by simp [maxLen])) (by intro u hu; simp at hu; rcases hu with rfl | rfl | rfl | rfl | rfl | rfl <;> rfl) (by omega) (by omega)) ?_
    rintro _ _ ⟨A12, c13, rfl, rfl⟩
    refine WR.val (G0 rfl) rfl rfl (.assign rfl rfl) ?_
    refine WR.nil ?_
    refine WA.draws0 follows ?_
    refine WH.take 0 rfl (Pf_blind _ _ _ _ _) (by kernel_rfl) (by kernel_rfl) (by kernel_rfl) (.refl _) (G0 rfl) rfl rfl (.move rfl rfl) ?_
    refine WH.take 1 rfl (Pf_blind _ _ _ _ _) (by kernel_rfl) (by kernel_rfl) (by kernel_rfl) (.refl _) (G0 rfl) rfl rfl (.fa rfl FA_42_0 rfl) ?_
    refine WH.take 2 rfl (Pf_blind _ _ _ _ _) (by kernel_rfl) (by kernel_rfl) (by kernel_rfl) (.refl _) (G0 rfl) rfl rfl (.loadK (vs := [_, _]) rfl AG_39 rfl (fun _ hw => hw.rd_blk (k := 2) 1 rfl rfl)) ?_
    refine WH.take 4 rfl (Pf_blind _ _ _ _ _) (by kernel_rfl) (by kernel_rfl) (by kernel_rfl) (.refl _) (G0 rfl) rfl rfl (.move rfl rfl) ?_
    refine WH.take 5 rfl (Pf_blind _ _ _ _ _) (by kernel_rfl) (by kernel_rfl) (by kernel_rfl) (.refl _) (G0 rfl) rfl rfl (.slice_l rfl ST_23 rfl rfl (by omega) (by omega)) ?_
    refine WH.dw 3 rfl (by kernel_rfl) (G0 rfl) rfl rfl (.call0 (caps := []) rfl rfl rfl EN_227 (fun w hw => jchildrenF l A cap _ (hw.slf0 hS) hl (gx q.2.2.2 0).d)) ?_
    rintro _ _ ⟨_, ⟨v24, v25, rfl, rfl⟩, rfl⟩
    refine ⟨(.cons _ (.refl _)), ?_⟩
    refine WH.dw 6 rfl (by kernel_rfl) (G0 rfl) rfl rfl (.append 0 rfl ST_23.1 ZT_42 rfl (by decide) rfl rfl rfl (fun _ hw => slN_drop (hw.slf_row 4 rfl) (k := 1) (by omega) hcapt.1) (one_flat one_nc _) (by omega) (by omega)) ?_
    rintro _ _ ⟨A28, c29, rfl, rfl⟩
    refine ⟨(.cons _ (.refl _)), ?_⟩
    refine WH.take 7 rfl (Pf_blind _ _ _ _ _) (by kernel_rfl) (by kernel_rfl) (by kernel_rfl) (.cons _ (.refl _)) (G0 rfl) rfl rfl (.assign rfl rfl) ?_
    refine WH.done (by kernel_rfl) ?_
    refine WA.mark ?_
    refine WA.roweq 3 rfl (q.1.2.2 ++ [(gx q.2.2.2 0)]).length ((q.1.2.2 ++ [(gx q.2.2.2 0)]).flatMap nc) (by simp) (by rw [flat_snoc]) ?_
    have htl : (kidsJ l (gx q.2.2.2 0).d).length + (q.2.2.2.length - 1) = (kidsJ l (gx q.2.2.2 0).d ++ q.2.2.2.drop 1).length := by rw [List.length_append, List.length_drop]
    refine WA.roweq 0 rfl (kidsJ l (gx q.2.2.2 0).d ++ q.2.2.2.drop 1).length ((kidsJ l (gx q.2.2.2 0).d ++ q.2.2.2.drop 1).flatMap nc) htl (by rw [List.flatMap_append]) ?_
    have hvs := hv
    rw [cons_gx hpos] at hvs
    have hvn := hvs.step hdd (storeOk_rt hok)
    rw [← kidsJ_eq hdd] at hvn
    have hvnl := hvn.len
    refine WA.front 0 rfl ?_
    refine WA.front 3 rfl ?_
    exact WA.roundK ((A12, c13, q.1.2.2 ++ [(gx q.2.2.2 0)]), A28, c29, kidsJ l (gx q.2.2.2 0).d ++ q.2.2.2.drop 1) (.cons rfl (.cons rfl (.nil _))) (.cons (Eq.trans (b := some (.slice A12 (q.1.2.2.length + 1) c13)) rfl (by rw [List.length_append]; rfl)) (.cons (Eq.trans rfl (congrArg (fun z : Nat => some (Value.slice A28 z c29)) htl)) (.nil _))) (.cons_cons _ (.cons_cons _ (.cons _ (.cons _ (.cons _ .slnil))))) hvn (by dsimp only; simp only [List.length_append, List.length_cons, List.length_nil] at hvnl ⊢; omega)
  · have f31 := h6
    try simp only [decide_eq_true_eq, decide_eq_false_iff_not, Bool.not_eq_true', Bool.not_eq_false', Int.not_lt, Int.not_le] at f31
    refine WA.exit rfl ?_
    refine WA.seq ?_
    refine WA.region ?_
    refine WR.val (G0 rfl) rfl rfl (.move rfl rfl) ?_
    refine WR.val (G0 rfl) rfl rfl (.assign rfl rfl) ?_
    refine WR.nil ?_
    have hst0 : q.2.2.2 = [] := List.eq_nil_of_length_eq_zero (by omega)
    rw [hst0] at hv
    have hE : q.1.2.2 = order l := hv.done
    rw [hE]
    exact WA.ret1 rfl rfl (.cons_cons _ (.cons _ .slnil)) ⟨_, _, rfl, rfl⟩
set_option maxRecDepth 20000 in
/-- redpencil/redpencilref14.Visible -/
theorem jvisibleF (l : List Nd) (A : Option Addr) (cap : Nat) (w : World) (hS : SlN w A l) (hl : l.length ≤ 800000) (hok : storeOk l = true) : Ct Tryz.prog 113 #[.slice A l.length cap] [] w (fun u hs => ∃ B c, u = .slice B (visN l).length c ∧ hs = [En.row B (visN l).length c 42 6 ((visN l).flatMap nc)]) := by
  refine Ct.intro Tryz.func113 rfl Tryz.ntmps113 rfl ?_
  refine WA.seq ?_
  refine WA.region ?_
  refine WR.val (G0 rfl) rfl rfl (.assign rfl rfl) ?_
  refine WR.nil ?_
  refine WA.seq ?_
  refine WA.region ?_
  refine WR.val (G0 rfl) rfl rfl (.assign rfl rfl) ?_
  refine WR.nilrow 42 6 ?_
  refine WR.nil ?_
  refine WA.seq ?_
  have hol := order_len hok
  refine WA.region ?_
  refine WR.val (G0 rfl) rfl rfl (.move rfl rfl) ?_
  refine WR.dw (G0 rfl) rfl rfl (.call0 (caps := []) rfl rfl rfl EN_172 (fun w hw => jorderF l _ _ _ (hw.slf0 hS) (by first | omega | (simp; omega)) (by assumption))) ?_
  rintro _ _ ⟨_, ⟨v3, v4, rfl, rfl⟩, rfl⟩
  refine WR.val (G0 rfl) rfl rfl (.assign rfl rfl) ?_
  refine WR.nil ?_
  refine WA.seq ?_
  refine WA.seq ?_
  refine WA.region ?_
  refine WR.val (G0 rfl) rfl rfl (.assign rfl rfl) ?_
  refine WR.nil ?_
  refine WA.block ?_
  refine WA.front 1 rfl ?_
  refine WA.loopK (γ := Nat × Option Addr × Nat) [(2, _), (4, _)] [_] (fun q => [(3, .slice q.2.1 (alive ((order l).take q.1)).length q.2.2), (5, .int .i64 (q.1 : Int))]) (fun q => [En.row q.2.1 (alive ((order l).take q.1)).length q.2.2 42 6 ((alive ((order l).take q.1)).flatMap nc)]) (fun q => q.1 ≤ (order l).length) (fun q => (order l).length - q.1) (0, none, 0) (.cons rfl (.cons rfl (.nil _))) (.cons rfl (.cons rfl (.nil _))) (.refl _) (by simp) ?_
  intro q hk
  have hal : (alive ((order l).take q.1)).length ≤ q.1 := Nat.le_trans (List.length_filter_le _ _) (List.length_take_le _ _)
  refine WA.seq ?_
  refine WA.seq ?_
  refine WA.region ?_
  refine WR.val (G0 rfl) rfl rfl (.move rfl rfl) ?_
  refine WR.val (G0 rfl) rfl rfl (.move rfl rfl) ?_
  refine WR.val (G0 rfl) rfl rfl (.len rfl ST_23.1 rfl) ?_
  refine WR.val (G0 rfl) rfl rfl (.lss rfl rfl rfl) ?_
  refine WR.nil ?_
  refine WA.cond rfl (fun h6 => ?_) (fun h6 => ?_)
  · have f7 := h6
    try simp only [decide_eq_true_eq, decide_eq_false_iff_not, Bool.not_eq_true', Bool.not_eq_false', Int.not_lt, Int.not_le] at f7
    refine WA.skip ?_
    refine WA.seq ?_
    refine WA.block ?_
    refine WA.seq ?_
    refine WA.region ?_
    refine WR.val (G0 rfl) rfl rfl (.move rfl rfl) ?_
    refine WR.val (G0 rfl) rfl rfl (.move rfl rfl) ?_
    refine WR.val (G0 rfl) rfl rfl (.ix rfl ST_23 rfl rfl (by omega) (by omega) (fun _ hw hn => (hw.slf_row 1 rfl).some_ hn)) ?_
    refine WR.val (G0 rfl) rfl rfl (.fe rfl FA_42_3 rfl) ?_
    refine WR.val (G0 rfl) rfl rfl (.load1 rfl NA_21 rfl (fun _ hw => Rd.el (off := 5) (k := 1) (rdN (hw.slf_row 1 rfl) (by omega) (by omega)) rfl)) ?_
    refine WR.val (G0 rfl) rfl rfl (.neq rfl rfl rfl) ?_
    refine WR.nil ?_
    refine WA.cond rfl (fun h9 => ?_) (fun h9 => ?_)
    · have f10 := h9
      try simp only [decide_eq_true_eq, decide_eq_false_iff_not, Bool.not_eq_true', Bool.not_eq_false', Int.not_lt, Int.not_le] at f10
      refine WA.region ?_
      refine WR.val (G0 rfl) rfl rfl (.move rfl rfl) ?_
      refine WR.val (G0 rfl) rfl rfl (.move rfl rfl) ?_
      refine WR.val (G0 rfl) rfl rfl (.move rfl rfl) ?_
      refine WR.val (G0 rfl) rfl rfl (.ix rfl ST_23 rfl rfl (by omega) (by omega) (fun _ hw hn => (hw.slf_row 1 rfl).some_ hn)) ?_
      refine WR.val (G0 rfl) rfl rfl (.loadK (vs := [_, _, _, _, _, _]) rfl AG_42 rfl (fun _ hw => rdN (hw.slf_row 1 rfl) (by omega) (by omega))) ?_
      refine WR.dw (G0 rfl) rfl rfl (.buildSlice (k := 6) (e := 42) (vs := [_, _, _, _, _, _]) rfl rfl rfl (fun _ => by kernel_rfl) rfl) ?_
      rintro _ _ ⟨b12, rfl, rfl⟩
      refine WR.dw (G0 rfl) rfl rfl (.append 1 rfl ST_23.1 ZT_42 rfl (by decide) rfl rfl rfl (fun _ hw => hw.slf_blk 0 rfl rfl (by simp [maxLen])) (by intro u hu; simp at hu; rcases hu with rfl | rfl | rfl | rfl | rfl | rfl <;> rfl) (by omega) (by omega)) ?_
      rintro _ _ ⟨A13, c14, rfl, rfl⟩
      refine WR.val (G0 rfl) rfl rfl (.assign rfl rfl) ?_
      refine WR.nil ?_
      refine WA.mark ?_
      refine WA.region ?_
      refine WR.val (G0 rfl) rfl rfl (.move rfl rfl) ?_
      refine WR.val (G0 rfl) rfl rfl (.add rfl rfl rfl (by omega) (by omega)) ?_
      refine WR.val (G0 rfl) rfl rfl (.assign rfl rfl) ?_
      refine WR.nil ?_
      have hft : alive ((order l).take (q.1 + 1)) = alive ((order l).take q.1) ++ if (gx (order l) (q.1 : Int)).x ≠ 0 then [gx (order l) (q.1 : Int)] else [] := alive_take (by omega)
      rw [if_pos (by simp_all)] at hft
      refine WA.roweq 1 rfl (alive ((order l).take (q.1 + 1))).length ((alive ((order l).take (q.1 + 1))).flatMap nc) (by rw [hft]; simp) (by rw [hft, flat_snoc]) ?_
      exact WA.roundK (q.1 + 1, A13, c14) (.cons rfl (.cons rfl (.nil _))) (.cons (Eq.trans (b := some (.slice A13 ((alive ((order l).take q.1)).length + 1) c14)) rfl (by rw [hft, List.length_append]; rfl)) (.cons rfl (.nil _))) (.cons _ (.refl _)) (by dsimp only; omega) (by dsimp only; omega)
    · have f15 := h9
      try simp only [decide_eq_true_eq, decide_eq_false_iff_not, Bool.not_eq_true', Bool.not_eq_false', Int.not_lt, Int.not_le] at f15
      refine WA.skip ?_
      refine WA.mark ?_
      refine WA.region ?_
      refine WR.val (G0 rfl) rfl rfl (.move rfl rfl) ?_
      refine WR.val (G0 rfl) rfl rfl (.add rfl rfl rfl (by omega) (by omega)) ?_
      refine WR.val (G0 rfl) rfl rfl (.assign rfl rfl) ?_
      refine WR.nil ?_
      have hft : alive ((order l).take (q.1 + 1)) = alive ((order l).take q.1) ++ if (gx (order l) (q.1 : Int)).x ≠ 0 then [gx (order l) (q.1 : Int)] else [] := alive_take (by omega)
      rw [if_neg (by simp_all), List.append_nil] at hft
      refine WA.roweq 0 rfl (alive ((order l).take (q.1 + 1))).length ((alive ((order l).take (q.1 + 1))).flatMap nc) (by rw [hft]) (by rw [hft]) ?_
      exact WA.roundK (q.1 + 1, q.2.1, q.2.2) (.cons rfl (.cons rfl (.nil _))) (.cons (Eq.trans (b := some (.slice q.2.1 (alive ((order l).take q.1)).length q.2.2)) rfl (by rw [hft])) (.cons rfl (.nil _))) (.refl _) (by dsimp only; omega) (by dsimp only; omega)
  · have f16 := h6
    try simp only [decide_eq_true_eq, decide_eq_false_iff_not, Bool.not_eq_true', Bool.not_eq_false', Int.not_lt, Int.not_le] at f16
    refine WA.exit rfl ?_
    refine WA.seq ?_
    refine WA.region ?_
    refine WR.val (G0 rfl) rfl rfl (.move rfl rfl) ?_
    refine WR.val (G0 rfl) rfl rfl (.assign rfl rfl) ?_
    refine WR.nil ?_
    have hE : alive ((order l).take q.1) = visN l := by rw [List.take_of_length_le (by omega)]; rfl
    rw [hE]
    exact WA.ret1 rfl rfl (.cons_cons _ (.cons _ .slnil)) ⟨_, _, rfl, rfl⟩
set_option maxRecDepth 20000 in
/-- redpencil/redpencilref14.Runes -/
theorem jrunesF (l : List Nd) (A : Option Addr) (cap : Nat) (w : World) (hS : SlN w A l) (hl : l.length ≤ 800000) (hok : storeOk l = true) : Ct Tryz.prog 58 #[.slice A l.length cap] [] w (fun u hs => ∃ B c, u = .slice B (runesOf l).length c ∧ hs = [En.row B (runesOf l).length c 21 1 ((runesOf l).flatMap rc)]) := by
  refine Ct.intro Tryz.func58 rfl Tryz.ntmps58 rfl ?_
  refine WA.seq ?_
  refine WA.region ?_
  refine WR.val (G0 rfl) rfl rfl (.assign rfl rfl) ?_
  refine WR.nil ?_
  refine WA.seq ?_
  refine WA.region ?_
  refine WR.val (G0 rfl) rfl rfl (.assign rfl rfl) ?_
  refine WR.nilrow 21 1 ?_
  refine WR.nil ?_
  refine WA.seq ?_
  have hvl := visN_len hok
  refine WA.region ?_
  refine WR.val (G0 rfl) rfl rfl (.move rfl rfl) ?_
  refine WR.dw (G0 rfl) rfl rfl (.call0 (caps := []) rfl rfl rfl EN_113 (fun w hw => jvisibleF l _ _ _ (hw.slf0 hS) (by first | omega | (simp; omega)) (by assumption))) ?_
  rintro _ _ ⟨_, ⟨v3, v4, rfl, rfl⟩, rfl⟩
  refine WR.val (G0 rfl) rfl rfl (.assign rfl rfl) ?_
  refine WR.nil ?_
  refine WA.seq ?_
  refine WA.seq ?_
  refine WA.region ?_
  refine WR.val (G0 rfl) rfl rfl (.assign rfl rfl) ?_
  refine WR.nil ?_
  refine WA.block ?_
  refine WA.front 1 rfl ?_
  refine WA.loopK (γ := Nat × Option Addr × Nat) [(2, _), (4, _)] [_] (fun q => [(3, .slice q.2.1 q.1 q.2.2), (5, .int .i64 (q.1 : Int))]) (fun q => [En.row q.2.1 q.1 q.2.2 21 1 (((runesOf l).take q.1).flatMap rc)]) (fun q => q.1 ≤ (visN l).length) (fun q => (visN l).length - q.1) (0, none, 0) (.cons rfl (.cons rfl (.nil _))) (.cons rfl (.cons rfl (.nil _))) (.refl _) (by simp) ?_
  intro q hk
  refine WA.seq ?_
  refine WA.seq ?_
  refine WA.region ?_
  refine WR.val (G0 rfl) rfl rfl (.move rfl rfl) ?_
  refine WR.val (G0 rfl) rfl rfl (.move rfl rfl) ?_
  refine WR.val (G0 rfl) rfl rfl (.len rfl ST_23.1 rfl) ?_
  refine WR.val (G0 rfl) rfl rfl (.lss rfl rfl rfl) ?_
  refine WR.nil ?_
  refine WA.cond rfl (fun h6 => ?_) (fun h6 => ?_)
  · have f7 := h6
    try simp only [decide_eq_true_eq, decide_eq_false_iff_not, Bool.not_eq_true', Bool.not_eq_false', Int.not_lt, Int.not_le] at f7
    refine WA.skip ?_
    refine WA.seq ?_
    refine WA.block ?_
    refine WA.region ?_
    refine WR.val (G0 rfl) rfl rfl (.move rfl rfl) ?_
    refine WR.val (G0 rfl) rfl rfl (.move rfl rfl) ?_
    refine WR.val (G0 rfl) rfl rfl (.move rfl rfl) ?_
    refine WR.val (G0 rfl) rfl rfl (.ix rfl ST_23 rfl rfl (by omega) (by omega) (fun _ hw hn => (hw.slf_row 1 rfl).some_ hn)) ?_
    refine WR.val (G0 rfl) rfl rfl (.fe rfl FA_42_3 rfl) ?_
    refine WR.val (G0 rfl) rfl rfl (.load1 rfl NA_21 rfl (fun _ hw => Rd.el (off := 5) (k := 1) (rdN (hw.slf_row 1 rfl) (by omega) (by omega)) rfl)) ?_
    refine WR.dw (G0 rfl) rfl rfl (.buildSlice (k := 1) (e := 21) (vs := [_]) rfl rfl rfl (fun _ => by kernel_rfl) rfl) ?_
    rintro _ _ ⟨b9, rfl, rfl⟩
    refine WR.dw (G0 rfl) rfl rfl (.append 1 rfl ST_63.1 ZT_21 rfl (by decide) rfl rfl rfl (fun _ hw => hw.slf_blk 0 rfl rfl (by simp [maxLen])) (by intro u hu; simp at hu; subst hu; rfl) (by omega) (by omega)) ?_
    rintro _ _ ⟨A10, c11, rfl, rfl⟩
    refine WR.val (G0 rfl) rfl rfl (.assign rfl rfl) ?_
    refine WR.nil ?_
    refine WA.mark ?_
    refine WA.region ?_
    refine WR.val (G0 rfl) rfl rfl (.move rfl rfl) ?_
    refine WR.val (G0 rfl) rfl rfl (.add rfl rfl rfl (by omega) (by omega)) ?_
    refine WR.val (G0 rfl) rfl rfl (.assign rfl rfl) ?_
    refine WR.nil ?_
    refine WA.roweq 1 rfl (q.1 + 1) (((runesOf l).take (q.1 + 1)).flatMap rc) rfl (by rw [runesOf, take_map_gx Nd.x (visN l) (by omega), flat_snoc]) ?_
    exact WA.roundK (q.1 + 1, A10, c11) (.cons rfl (.cons rfl (.nil _))) (.cons rfl (.cons rfl (.nil _))) (.cons _ (.refl _)) (by dsimp only; omega) (by dsimp only; omega)
  · have f12 := h6
    try simp only [decide_eq_true_eq, decide_eq_false_iff_not, Bool.not_eq_true', Bool.not_eq_false', Int.not_lt, Int.not_le] at f12
    refine WA.exit rfl ?_
    refine WA.seq ?_
    refine WA.region ?_
    refine WR.val (G0 rfl) rfl rfl (.move rfl rfl) ?_
    refine WR.val (G0 rfl) rfl rfl (.assign rfl rfl) ?_
    refine WR.nil ?_
    have hn : q.1 = (runesOf l).length := by simp [runesOf]; omega
    refine WA.roweq 0 rfl (runesOf l).length ((runesOf l).flatMap rc) (hn) (by rw [hn, List.take_length]) ?_
    exact WA.ret1 rfl rfl (.cons_cons _ (.cons _ .slnil)) ⟨_, _, congrArg (fun q : Nat => Value.slice _ q _) (hn), rfl⟩
set_option maxRecDepth 20000 in
/-- redpencil/redpencilref14.Well -/
theorem jwellF (l : List Nd) (A : Option Addr) (cap : Nat) (w : World) (hS : SlN w A l) (hl : l.length ≤ 800000) : Ct Tryz.prog 63 #[.slice A l.length cap] [] w (fun u hs => u = .bool (well l) ∧ hs = []) := by
  refine Ct.intro Tryz.func63 rfl Tryz.ntmps63 rfl ?_
  refine WA.seq ?_
  refine WA.region ?_
  refine WR.val (G0 rfl) rfl rfl (.assign rfl rfl) ?_
  refine WR.nil ?_
  refine WA.seq ?_
  refine WA.seq ?_
  refine WA.region ?_
  refine WR.val (G0 rfl) rfl rfl (.move rfl rfl) ?_
  refine WR.dw (G0 rfl) rfl rfl (.callv (caps := []) rfl rfl rfl EN_54 (fun w hw => jstoreF _ _ _ _ (hw.slf0 hS) (by first | omega | (simp; omega)))) ?_
  rintro _ _ ⟨rfl, rfl⟩
  refine WR.val (G0 rfl) rfl rfl (.not rfl rfl) ?_
  refine WR.nil ?_
  refine WA.cond rfl (fun h3 => ?_) (fun h3 => ?_)
  · have f4 := h3
    try simp only [decide_eq_true_eq, decide_eq_false_iff_not, Bool.not_eq_true', Bool.not_eq_false', Int.not_lt, Int.not_le] at f4
    refine WA.seq ?_
    refine WA.region ?_
    refine WR.val (G0 rfl) rfl rfl (.assign rfl rfl) ?_
    refine WR.nil ?_
    exact WA.ret1 rfl rfl (List.nil_sublist _) ⟨by simp_all [well_def], rfl⟩
  · have f5 := h3
    try simp only [decide_eq_true_eq, decide_eq_false_iff_not, Bool.not_eq_true', Bool.not_eq_false', Int.not_lt, Int.not_le] at f5
    refine WA.skip ?_
    refine WA.seq ?_
    refine WA.seq ?_
    refine WA.region ?_
    refine WR.val (G0 rfl) rfl rfl (.assign rfl rfl) ?_
    refine WR.nil ?_
    refine WA.block ?_
    refine WA.loopK (γ := Nat) [(0, _)] [] (fun k => [(3, .int .i64 (k : Int))]) (fun k => []) (fun k => k ≤ l.length ∧ (l.take k).all (wellP l) = true) (fun k => l.length - k) 0 (.cons rfl (.nil _)) (.cons rfl (.nil _)) .slnil ⟨by omega, by simp⟩ ?_
    intro k hk
    obtain ⟨hk, hd⟩ := hk
    refine WA.seq ?_
    refine WA.seq ?_
    refine WA.region ?_
    refine WR.val (G0 rfl) rfl rfl (.move rfl rfl) ?_
    refine WR.val (G0 rfl) rfl rfl (.move rfl rfl) ?_
    refine WR.val (G0 rfl) rfl rfl (.len rfl ST_23.1 rfl) ?_
    refine WR.val (G0 rfl) rfl rfl (.lss rfl rfl rfl) ?_
    refine WR.nil ?_
    refine WA.cond rfl (fun h7 => ?_) (fun h7 => ?_)
    · have f8 := h7
      try simp only [decide_eq_true_eq, decide_eq_false_iff_not, Bool.not_eq_true', Bool.not_eq_false', Int.not_lt, Int.not_le] at f8
      refine WA.skip ?_
      refine WA.seq ?_
      refine WA.block ?_
      refine WA.seq ?_
      refine WA.seq ?_
      refine WA.region ?_
      refine WR.val (G0 rfl) rfl rfl (.move rfl rfl) ?_
      refine WR.val (G0 rfl) rfl rfl (.move rfl rfl) ?_
      refine WR.val (G0 rfl) rfl rfl (.ix rfl ST_23 rfl rfl (by omega) (by omega) (fun _ hw hn => (hw.slf0 hS).some_ hn)) ?_
      refine WR.val (G0 rfl) rfl rfl (.fe rfl FA_42_1 rfl) ?_
      refine WR.val (G0 rfl) rfl rfl (.loadK (vs := [_, _]) rfl AG_39 rfl (fun _ hw => Rd.el (off := 2) (k := 2) (rdN (hw.slf0 hS) (by omega) (by omega)) rfl)) ?_
      refine WR.val (G0 rfl) rfl rfl (.build (vs := [_, _]) [.int .i64 0, .int .i64 0] [0, 1] rfl rfl rfl (fun _ => by kernel_rfl)) ?_
      refine WR.val (G0 rfl) rfl rfl (.bin rfl rfl rfl EQ_eql_39) ?_
      refine WR.nil ?_
      refine WA.cond rfl (fun h10 => ?_) (fun h10 => ?_)
      · have f11 := h10
        try simp only [decide_eq_true_eq, decide_eq_false_iff_not, Bool.not_eq_true', Bool.not_eq_false', Int.not_lt, Int.not_le] at f11
        refine WA.exit rfl ?_
        refine WA.region ?_
        refine WR.val (G0 rfl) rfl rfl (.move rfl rfl) ?_
        refine WR.val (G0 rfl) rfl rfl (.add rfl rfl rfl (by omega) (by omega)) ?_
        refine WR.val (G0 rfl) rfl rfl (.assign rfl rfl) ?_
        refine WR.nil ?_
        exact WA.roundK (k + 1) (.cons rfl (.nil _)) (.cons rfl (.nil _)) .slnil ⟨by omega, by rw [all_take _ l (by omega), hd]; simp_all [wellP, droot, Dot.eq_iff] <;> omega⟩ (by omega)
      · have f12 := h10
        try simp only [decide_eq_true_eq, decide_eq_false_iff_not, Bool.not_eq_true', Bool.not_eq_false', Int.not_lt, Int.not_le] at f12
        refine WA.skip ?_
        refine WA.seq ?_
        refine WA.region ?_
        refine WR.val (G0 rfl) rfl rfl (.move rfl rfl) ?_
        refine WR.val (G0 rfl) rfl rfl (.move rfl rfl) ?_
        refine WR.val (G0 rfl) rfl rfl (.move rfl rfl) ?_
        refine WR.val (G0 rfl) rfl rfl (.ix rfl ST_23 rfl rfl (by omega) (by omega) (fun _ hw hn => (hw.slf0 hS).some_ hn)) ?_
        refine WR.val (G0 rfl) rfl rfl (.fe rfl FA_42_1 rfl) ?_
        refine WR.val (G0 rfl) rfl rfl (.loadK (vs := [_, _]) rfl AG_39 rfl (fun _ hw => Rd.el (off := 2) (k := 2) (rdN (hw.slf0 hS) (by omega) (by omega)) rfl)) ?_
        refine WR.dw (G0 rfl) rfl rfl (.callv (caps := []) rfl rfl rfl EN_114 (fun w hw => jfindF _ _ _ _ (hw.slf0 hS) (by first | omega | (simp; omega)) _)) ?_
        rintro _ _ ⟨rfl, rfl⟩
        refine WR.val (G0 rfl) rfl rfl (.assign rfl rfl) ?_
        refine WR.nil ?_
        refine WA.seq ?_
        have hfb := fnd_bd l (gx l (k : Int)).p
        refine WA.draws0 follows ?_
        refine WH.take 0 rfl (Pf_blind _ _ _ _ _) (by kernel_rfl) (by kernel_rfl) (by kernel_rfl) .slnil (G0 rfl) rfl rfl (.move rfl rfl) ?_
        refine WH.take 1 rfl (Pf_blind _ _ _ _ _) (by kernel_rfl) (by kernel_rfl) (by kernel_rfl) .slnil (G0 rfl) rfl rfl (.lss rfl rfl rfl) ?_
        refine WH.take 2 rfl (Pf_blind _ _ _ _ _) (by kernel_rfl) (by kernel_rfl) (by kernel_rfl) .slnil (G0 rfl) rfl rfl (.move rfl rfl) ?_
        refine WH.split (d := 30) rfl (fun h14 => ?_) (fun h14 => ?_)
        · have f15 := h14
          try simp only [decide_eq_true_eq, decide_eq_false_iff_not, Bool.not_eq_true', Bool.not_eq_false', Int.not_lt, Int.not_le] at f15
          refine WH.off 3 rfl (Pf_blind _ _ _ _ _) (by kernel_rfl) (by kernel_rfl) (by kernel_rfl) .slnil (Gf rfl rfl rfl h14) rfl rfl ?_
          refine WH.off 4 rfl (Pf_blind _ _ _ _ _) (by kernel_rfl) (by kernel_rfl) (by kernel_rfl) .slnil (Gf rfl rfl rfl h14) rfl rfl ?_
          refine WH.off 5 rfl (Pf_blind _ _ _ _ _) (by kernel_rfl) (by kernel_rfl) (by kernel_rfl) .slnil (Gf rfl rfl rfl h14) rfl rfl ?_
          refine WH.off 6 rfl (Pf_blind _ _ _ _ _) (by kernel_rfl) (by kernel_rfl) (by kernel_rfl) .slnil (Gf rfl rfl rfl h14) rfl rfl ?_
          refine WH.off 7 rfl (Pf_blind _ _ _ _ _) (by kernel_rfl) (by kernel_rfl) (by kernel_rfl) .slnil (Gf rfl rfl rfl h14) rfl rfl ?_
          refine WH.off 8 rfl (Pf_blind _ _ _ _ _) (by kernel_rfl) (by kernel_rfl) (by kernel_rfl) .slnil (Gf rfl rfl rfl h14) rfl rfl ?_
          refine WH.off 9 rfl (Pf_blind _ _ _ _ _) (by kernel_rfl) (by kernel_rfl) (by kernel_rfl) .slnil (Gf rfl rfl rfl h14) rfl rfl ?_
          refine WH.off 10 rfl (Pf_blind _ _ _ _ _) (by kernel_rfl) (by kernel_rfl) (by kernel_rfl) .slnil (Gf rfl rfl rfl h14) rfl rfl ?_
          refine WH.off 11 rfl (Pf_blind _ _ _ _ _) (by kernel_rfl) (by kernel_rfl) (by kernel_rfl) .slnil (Gf rfl rfl rfl h14) rfl rfl ?_
          refine WH.off 12 rfl (Pf_blind _ _ _ _ _) (by kernel_rfl) (by kernel_rfl) (by kernel_rfl) .slnil (Gf rfl rfl rfl h14) rfl rfl ?_
          refine WH.off 13 rfl (Pf_blind _ _ _ _ _) (by kernel_rfl) (by kernel_rfl) (by kernel_rfl) .slnil (Gf rfl rfl rfl h14) rfl rfl ?_
          refine WH.take 14 rfl (Pf_blind _ _ _ _ _) (by kernel_rfl) (by kernel_rfl) (by kernel_rfl) .slnil (G0 rfl) rfl rfl (.pick_t rfl rfl h14 rfl) ?_
          refine WH.done (by kernel_rfl) ?_
          refine WA.cond_t rfl rfl ?_
          refine WA.seq ?_
          refine WA.region ?_
          refine WR.val (G0 rfl) rfl rfl (.assign rfl rfl) ?_
          refine WR.nil ?_
          exact WA.ret1 rfl rfl (List.nil_sublist _) ⟨by rw [well_def, all_false (k := k) (by omega) (by simp_all [wellP, droot, Dot.eq_iff] <;> omega)]; simp, rfl⟩
        · have f16 := h14
          try simp only [decide_eq_true_eq, decide_eq_false_iff_not, Bool.not_eq_true', Bool.not_eq_false', Int.not_lt, Int.not_le] at f16
          refine WH.take 3 rfl (Pf_blind _ _ _ _ _) (by kernel_rfl) (by kernel_rfl) (by kernel_rfl) .slnil (Gt rfl rfl rfl h14) rfl rfl (.move rfl rfl) ?_
          refine WH.take 4 rfl (Pf_blind _ _ _ _ _) (by kernel_rfl) (by kernel_rfl) (by kernel_rfl) .slnil (Gt rfl rfl rfl h14) rfl rfl (.move rfl rfl) ?_
          refine WH.take 5 rfl (Pf_blind _ _ _ _ _) (by kernel_rfl) (by kernel_rfl) (by kernel_rfl) .slnil (Gt rfl rfl rfl h14) rfl rfl (.ix rfl ST_23 rfl rfl (by omega) (by omega) (fun _ hw hn => (hw.slf0 hS).some_ hn)) ?_
          refine WH.take 6 rfl (Pf_blind _ _ _ _ _) (by kernel_rfl) (by kernel_rfl) (by kernel_rfl) .slnil (Gt rfl rfl rfl h14) rfl rfl (.fe rfl FA_42_2 rfl) ?_
          refine WH.take 7 rfl (Pf_blind _ _ _ _ _) (by kernel_rfl) (by kernel_rfl) (by kernel_rfl) .slnil (Gt rfl rfl rfl h14) rfl rfl (.load1 rfl NA_3 rfl (fun _ hw => Rd.el (off := 4) (k := 1) (rdN (hw.slf0 hS) (by omega) (by omega)) rfl)) ?_
          refine WH.take 8 rfl (Pf_blind _ _ _ _ _) (by kernel_rfl) (by kernel_rfl) (by kernel_rfl) .slnil (Gt rfl rfl rfl h14) rfl rfl (.move rfl rfl) ?_
          refine WH.take 9 rfl (Pf_blind _ _ _ _ _) (by kernel_rfl) (by kernel_rfl) (by kernel_rfl) .slnil (Gt rfl rfl rfl h14) rfl rfl (.move rfl rfl) ?_
          refine WH.take 10 rfl (Pf_blind _ _ _ _ _) (by kernel_rfl) (by kernel_rfl) (by kernel_rfl) .slnil (Gt rfl rfl rfl h14) rfl rfl (.ix rfl ST_23 rfl rfl (by omega) (by omega) (fun _ hw hn => (hw.slf0 hS).some_ hn)) ?_
          refine WH.take 11 rfl (Pf_blind _ _ _ _ _) (by kernel_rfl) (by kernel_rfl) (by kernel_rfl) .slnil (Gt rfl rfl rfl h14) rfl rfl (.fe rfl FA_42_2 rfl) ?_
          refine WH.take 12 rfl (Pf_blind _ _ _ _ _) (by kernel_rfl) (by kernel_rfl) (by kernel_rfl) .slnil (Gt rfl rfl rfl h14) rfl rfl (.load1 rfl NA_3 rfl (fun _ hw => Rd.el (off := 4) (k := 1) (rdN (hw.slf0 hS) (by omega) (by omega)) rfl)) ?_
          refine WH.take 13 rfl (Pf_blind _ _ _ _ _) (by kernel_rfl) (by kernel_rfl) (by kernel_rfl) .slnil (Gt rfl rfl rfl h14) rfl rfl (.geq rfl rfl rfl) ?_
          refine WH.take 14 rfl (Pf_blind _ _ _ _ _) (by kernel_rfl) (by kernel_rfl) (by kernel_rfl) .slnil (G0 rfl) rfl rfl (.pick_f rfl rfl h14 rfl) ?_
          refine WH.done (by kernel_rfl) ?_
          refine WA.cond rfl (fun h18 => ?_) (fun h18 => ?_)
          · have f19 := h18
            try simp only [decide_eq_true_eq, decide_eq_false_iff_not, Bool.not_eq_true', Bool.not_eq_false', Int.not_lt, Int.not_le] at f19
            refine WA.seq ?_
            refine WA.region ?_
            refine WR.val (G0 rfl) rfl rfl (.assign rfl rfl) ?_
            refine WR.nil ?_
            exact WA.ret1 rfl rfl (List.nil_sublist _) ⟨by rw [well_def, all_false (k := k) (by omega) (by simp_all [wellP, droot, Dot.eq_iff] <;> omega)]; simp, rfl⟩
          · have f20 := h18
            try simp only [decide_eq_true_eq, decide_eq_false_iff_not, Bool.not_eq_true', Bool.not_eq_false', Int.not_lt, Int.not_le] at f20
            refine WA.skip ?_
            refine WA.mark ?_
            refine WA.region ?_
            refine WR.val (G0 rfl) rfl rfl (.move rfl rfl) ?_
            refine WR.val (G0 rfl) rfl rfl (.add rfl rfl rfl (by omega) (by omega)) ?_
            refine WR.val (G0 rfl) rfl rfl (.assign rfl rfl) ?_
            refine WR.nil ?_
            exact WA.roundK (k + 1) (.cons rfl (.nil _)) (.cons rfl (.nil _)) .slnil ⟨by omega, by rw [all_take _ l (by omega), hd]; simp_all [wellP, droot, Dot.eq_iff] <;> omega⟩ (by omega)
    · have f21 := h7
      try simp only [decide_eq_true_eq, decide_eq_false_iff_not, Bool.not_eq_true', Bool.not_eq_false', Int.not_lt, Int.not_le] at f21
      refine WA.exit rfl ?_
      refine WA.seq ?_
      refine WA.region ?_
      refine WR.val (G0 rfl) rfl rfl (.assign rfl rfl) ?_
      refine WR.nil ?_
      exact WA.ret1 rfl rfl (List.nil_sublist _) ⟨by rw [List.take_of_length_le (by omega)] at hd; rw [well_def, hd]; simp_all, rfl⟩
set_option maxRecDepth 20000 in
/-- redpencil/redpencilref15.Latest -/
theorem jlatestF (l : List Nd) (A : Option Addr) (cap : Nat) (w : World) (hS : SlN w A l) (hl : l.length ≤ 800000) : Ct Tryz.prog 52 #[.slice A l.length cap] [] w (fun u hs => u = .int .i64 (latest l) ∧ hs = []) := by
  refine Ct.intro Tryz.func52 rfl Tryz.ntmps52 rfl ?_
  refine WA.seq ?_
  refine WA.region ?_
  refine WR.val (G0 rfl) rfl rfl (.assign rfl rfl) ?_
  refine WR.nil ?_
  refine WA.seq ?_
  refine WA.region ?_
  refine WR.val (G0 rfl) rfl rfl (.assign rfl rfl) ?_
  refine WR.nil ?_
  refine WA.seq ?_
  refine WA.seq ?_
  refine WA.region ?_
  refine WR.val (G0 rfl) rfl rfl (.assign rfl rfl) ?_
  refine WR.nil ?_
  refine WA.block ?_
  refine WA.loopK (γ := Nat × Int) [(0, _), (2, _)] [] (fun q => [(3, .int .i64 q.2), (4, .int .i64 (q.1 : Int))]) (fun q => []) (fun q => q.1 ≤ l.length ∧ q.2 = maxTime (l.take q.1) ∧ (0 < q.1 → storeOk l = true)) (fun q => l.length - q.1) (0, 0) (.cons rfl (.cons rfl (.nil _))) (.cons rfl (.cons rfl (.nil _))) .slnil ⟨by simp, rfl, fun h => absurd h (by simp)⟩ ?_
  intro q hk
  obtain ⟨hk, hd, hok⟩ := hk
  refine WA.seq ?_
  refine WA.seq ?_
  refine WA.region ?_
  refine WR.val (G0 rfl) rfl rfl (.move rfl rfl) ?_
  refine WR.val (G0 rfl) rfl rfl (.move rfl rfl) ?_
  refine WR.val (G0 rfl) rfl rfl (.len rfl ST_23.1 rfl) ?_
  refine WR.val (G0 rfl) rfl rfl (.lss rfl rfl rfl) ?_
  refine WR.val (G0 rfl) rfl rfl (.move rfl rfl) ?_
  refine WR.split (d := 9) rfl (fun h2 => ?_) (fun h2 => ?_)
  · have f3 := h2
    try simp only [decide_eq_true_eq, decide_eq_false_iff_not, Bool.not_eq_true', Bool.not_eq_false', Int.not_lt, Int.not_le] at f3
    refine WR.val (Gt rfl rfl rfl h2) rfl rfl (.move rfl rfl) ?_
    refine WR.dw (Gt rfl rfl rfl h2) rfl rfl (.callv (caps := []) rfl rfl rfl EN_54 (fun w hw => jstoreF _ _ _ _ (hw.slf0 hS) (by first | omega | (simp; omega)))) ?_
    rintro _ _ ⟨rfl, rfl⟩
    refine WR.val (G0 rfl) rfl rfl (.pick_t rfl rfl h2 rfl) ?_
    refine WR.nil ?_
    refine WA.cond rfl (fun h5 => ?_) (fun h5 => ?_)
    · have f6 := h5
      try simp only [decide_eq_true_eq, decide_eq_false_iff_not, Bool.not_eq_true', Bool.not_eq_false', Int.not_lt, Int.not_le] at f6
      refine WA.skip ?_
      refine WA.seq ?_
      refine WA.block ?_
      refine WA.region ?_
      refine WR.val (G0 rfl) rfl rfl (.move rfl rfl) ?_
      refine WR.val (G0 rfl) rfl rfl (.move rfl rfl) ?_
      refine WR.val (G0 rfl) rfl rfl (.move rfl rfl) ?_
      refine WR.val (G0 rfl) rfl rfl (.ix rfl ST_23 rfl rfl (by omega) (by omega) (fun _ hw hn => (hw.slf0 hS).some_ hn)) ?_
      refine WR.val (G0 rfl) rfl rfl (.fe rfl FA_42_2 rfl) ?_
      refine WR.val (G0 rfl) rfl rfl (.load1 rfl NA_3 rfl (fun _ hw => Rd.el (off := 4) (k := 1) (rdN (hw.slf0 hS) (by omega) (by omega)) rfl)) ?_
      refine WR.val (G0 rfl) rfl rfl (.max2 rfl rfl rfl) ?_
      refine WR.val (G0 rfl) rfl rfl (.assign rfl rfl) ?_
      refine WR.nil ?_
      refine WA.mark ?_
      refine WA.region ?_
      refine WR.val (G0 rfl) rfl rfl (.move rfl rfl) ?_
      refine WR.val (G0 rfl) rfl rfl (.add rfl rfl rfl (by omega) (by omega)) ?_
      refine WR.val (G0 rfl) rfl rfl (.assign rfl rfl) ?_
      refine WR.nil ?_
      exact WA.roundK (q.1 + 1, _) (.cons rfl (.cons rfl (.nil _))) (.cons rfl (.cons rfl (.nil _))) .slnil ⟨by dsimp only; omega, by dsimp only; rw [maxTime_take l (by omega), ← hd], fun _ => by simp_all⟩ (by dsimp only; omega)
    · have f7 := h5
      try simp only [decide_eq_true_eq, decide_eq_false_iff_not, Bool.not_eq_true', Bool.not_eq_false', Int.not_lt, Int.not_le] at f7
      refine WA.exit rfl ?_
      refine WA.seq ?_
      refine WA.region ?_
      refine WR.val (G0 rfl) rfl rfl (.move rfl rfl) ?_
      refine WR.val (G0 rfl) rfl rfl (.assign rfl rfl) ?_
      refine WR.nil ?_
      have hE : q.2 = latest l := by
        unfold latest storeTime
        by_cases hz : storeOk l = true
        · rw [if_pos hz, hd, List.take_of_length_le (by first | omega | simp_all)]
        · rw [if_neg hz, hd, show q.1 = 0 by rcases Nat.eq_zero_or_pos q.1 with h | h; exact h; exact absurd (hok h) hz]; rfl
      exact WA.ret1 rfl rfl (List.nil_sublist _) ⟨by rw [hE], rfl⟩
  · have f8 := h2
    try simp only [decide_eq_true_eq, decide_eq_false_iff_not, Bool.not_eq_true', Bool.not_eq_false', Int.not_lt, Int.not_le] at f8
    refine WR.off (Gf rfl rfl rfl h2) rfl rfl ?_
    refine WR.off (Gf rfl rfl rfl h2) rfl rfl ?_
    refine WR.val (G0 rfl) rfl rfl (.pick_f rfl rfl h2 rfl) ?_
    refine WR.nil ?_
    refine WA.cond_f rfl rfl ?_
    refine WA.exit rfl ?_
    refine WA.seq ?_
    refine WA.region ?_
    refine WR.val (G0 rfl) rfl rfl (.move rfl rfl) ?_
    refine WR.val (G0 rfl) rfl rfl (.assign rfl rfl) ?_
    refine WR.nil ?_
    have hE : q.2 = latest l := by
      unfold latest storeTime
      by_cases hz : storeOk l = true
      · rw [if_pos hz, hd, List.take_of_length_le (by first | omega | simp_all)]
      · rw [if_neg hz, hd, show q.1 = 0 by rcases Nat.eq_zero_or_pos q.1 with h | h; exact h; exact absurd (hok h) hz]; rfl
    exact WA.ret1 rfl rfl (List.nil_sublist _) ⟨by rw [hE], rfl⟩
set_option maxRecDepth 20000 in
/-- redpencil/redpencilref15.Same -/
theorem jsameRF (l m : List Int) (A A' : Option Addr) (cap cap' : Nat) (w : World) (hS : SlR w A l) (hM : SlR w A' m) (hl : l.length ≤ 800000) (hm : m.length ≤ 800000) : Ct Tryz.prog 57 #[.slice A l.length cap, .slice A' m.length cap'] [] w (fun u hs => u = .bool (decide (l = m)) ∧ hs = []) := by
  refine Ct.intro Tryz.func57 rfl Tryz.ntmps57 rfl ?_
  refine WA.seq ?_
  refine WA.region ?_
  refine WR.val (G0 rfl) rfl rfl (.assign rfl rfl) ?_
  refine WR.nil ?_
  refine WA.seq ?_
  refine WA.seq ?_
  refine WA.region ?_
  refine WR.val (G0 rfl) rfl rfl (.move rfl rfl) ?_
  refine WR.val (G0 rfl) rfl rfl (.len rfl ST_63.1 rfl) ?_
  refine WR.val (G0 rfl) rfl rfl (.move rfl rfl) ?_
  refine WR.val (G0 rfl) rfl rfl (.len rfl ST_63.1 rfl) ?_
  refine WR.val (G0 rfl) rfl rfl (.neq rfl rfl rfl) ?_
  refine WR.nil ?_
  refine WA.cond rfl (fun h2 => ?_) (fun h2 => ?_)
  · have f3 := h2
    try simp only [decide_eq_true_eq, decide_eq_false_iff_not, Bool.not_eq_true', Bool.not_eq_false', Int.not_lt, Int.not_le] at f3
    refine WA.seq ?_
    refine WA.region ?_
    refine WR.val (G0 rfl) rfl rfl (.assign rfl rfl) ?_
    refine WR.nil ?_
    exact WA.ret1 rfl rfl (List.nil_sublist _) ⟨by rw [decide_eq_false (fun e => by subst e; simp_all)], rfl⟩
  · have f4 := h2
    try simp only [decide_eq_true_eq, decide_eq_false_iff_not, Bool.not_eq_true', Bool.not_eq_false', Int.not_lt, Int.not_le] at f4
    refine WA.skip ?_
    refine WA.seq ?_
    refine WA.seq ?_
    refine WA.region ?_
    refine WR.val (G0 rfl) rfl rfl (.assign rfl rfl) ?_
    refine WR.nil ?_
    refine WA.block ?_
    refine WA.loopK (γ := Nat) [(0, _), (1, _)] [] (fun k => [(5, .int .i64 (k : Int))]) (fun k => []) (fun k => k ≤ l.length ∧ ∀ j : Nat, j < k → gx l (j : Int) = gx m (j : Int)) (fun k => l.length - k) 0 (.cons rfl (.cons rfl (.nil _))) (.cons rfl (.nil _)) .slnil ⟨by omega, fun _ h => absurd h (by omega)⟩ ?_
    intro k hk
    obtain ⟨hk, hd⟩ := hk
    refine WA.seq ?_
    refine WA.seq ?_
    refine WA.region ?_
    refine WR.val (G0 rfl) rfl rfl (.move rfl rfl) ?_
    refine WR.val (G0 rfl) rfl rfl (.move rfl rfl) ?_
    refine WR.val (G0 rfl) rfl rfl (.len rfl ST_63.1 rfl) ?_
    refine WR.val (G0 rfl) rfl rfl (.lss rfl rfl rfl) ?_
    refine WR.nil ?_
    refine WA.cond rfl (fun h6 => ?_) (fun h6 => ?_)
    · have f7 := h6
      try simp only [decide_eq_true_eq, decide_eq_false_iff_not, Bool.not_eq_true', Bool.not_eq_false', Int.not_lt, Int.not_le] at f7
      refine WA.skip ?_
      refine WA.seq ?_
      refine WA.block ?_
      refine WA.seq ?_
      refine WA.draws0 follows ?_
      refine WH.take 0 rfl (Pf_blind _ _ _ _ _) (by kernel_rfl) (by kernel_rfl) (by kernel_rfl) .slnil (G0 rfl) rfl rfl (.move rfl rfl) ?_
      refine WH.take 1 rfl (Pf_blind _ _ _ _ _) (by kernel_rfl) (by kernel_rfl) (by kernel_rfl) .slnil (G0 rfl) rfl rfl (.move rfl rfl) ?_
      refine WH.take 2 rfl (Pf_blind _ _ _ _ _) (by kernel_rfl) (by kernel_rfl) (by kernel_rfl) .slnil (G0 rfl) rfl rfl (.ix rfl ST_63 rfl rfl (by omega) (by omega) (fun _ hw hn => (hw.slf0 hS).some_ hn)) ?_
      refine WH.take 3 rfl (Pf_blind _ _ _ _ _) (by kernel_rfl) (by kernel_rfl) (by kernel_rfl) .slnil (G0 rfl) rfl rfl (.load1 rfl NA_21 rfl (fun _ hw => rdR (hw.slf0 hS) (by omega) (by omega))) ?_
      refine WH.take 4 rfl (Pf_blind _ _ _ _ _) (by kernel_rfl) (by kernel_rfl) (by kernel_rfl) .slnil (G0 rfl) rfl rfl (.move rfl rfl) ?_
      refine WH.take 5 rfl (Pf_blind _ _ _ _ _) (by kernel_rfl) (by kernel_rfl) (by kernel_rfl) .slnil (G0 rfl) rfl rfl (.move rfl rfl) ?_
      refine WH.take 6 rfl (Pf_blind _ _ _ _ _) (by kernel_rfl) (by kernel_rfl) (by kernel_rfl) .slnil (G0 rfl) rfl rfl (.ix rfl ST_63 rfl rfl (by omega) (by omega) (fun _ hw hn => (hw.slf0 hM).some_ hn)) ?_
      refine WH.take 7 rfl (Pf_blind _ _ _ _ _) (by kernel_rfl) (by kernel_rfl) (by kernel_rfl) .slnil (G0 rfl) rfl rfl (.load1 rfl NA_21 rfl (fun _ hw => rdR (hw.slf0 hM) (by omega) (by omega))) ?_
      refine WH.take 8 rfl (Pf_blind _ _ _ _ _) (by kernel_rfl) (by kernel_rfl) (by kernel_rfl) .slnil (G0 rfl) rfl rfl (.neq rfl rfl rfl) ?_
      refine WH.done (by kernel_rfl) ?_
      refine WA.cond rfl (fun h9 => ?_) (fun h9 => ?_)
      · have f10 := h9
        try simp only [decide_eq_true_eq, decide_eq_false_iff_not, Bool.not_eq_true', Bool.not_eq_false', Int.not_lt, Int.not_le] at f10
        refine WA.seq ?_
        refine WA.region ?_
        refine WR.val (G0 rfl) rfl rfl (.assign rfl rfl) ?_
        refine WR.nil ?_
        exact WA.ret1 rfl rfl (List.nil_sublist _) ⟨by rw [decide_eq_false (fun e => by subst e; simp_all)], rfl⟩
      · have f11 := h9
        try simp only [decide_eq_true_eq, decide_eq_false_iff_not, Bool.not_eq_true', Bool.not_eq_false', Int.not_lt, Int.not_le] at f11
        refine WA.skip ?_
        refine WA.mark ?_
        refine WA.region ?_
        refine WR.val (G0 rfl) rfl rfl (.move rfl rfl) ?_
        refine WR.val (G0 rfl) rfl rfl (.add rfl rfl rfl (by omega) (by omega)) ?_
        refine WR.val (G0 rfl) rfl rfl (.assign rfl rfl) ?_
        refine WR.nil ?_
        exact WA.roundK (k + 1) (.cons rfl (.cons rfl (.nil _))) (.cons rfl (.nil _)) .slnil ⟨by omega, lt_snoc hd (by simp_all)⟩ (by omega)
    · have f12 := h6
      try simp only [decide_eq_true_eq, decide_eq_false_iff_not, Bool.not_eq_true', Bool.not_eq_false', Int.not_lt, Int.not_le] at f12
      refine WA.exit rfl ?_
      refine WA.seq ?_
      refine WA.region ?_
      refine WR.val (G0 rfl) rfl rfl (.assign rfl rfl) ?_
      refine WR.nil ?_
      exact WA.ret1 rfl rfl (List.nil_sublist _) ⟨by rw [decide_eq_true (list_ext_gx (by omega) (fun j hj => hd j (by omega)))], rfl⟩
set_option maxRecDepth 20000 in
/-- redpencil/redpencilref15.Cut -/
theorem jcutF (l m : List Int) (a b : Int) (A A' : Option Addr) (cap cap' : Nat) (w : World) (hS : SlR w A l) (hM : SlR w A' m) (hl : l.length ≤ 800000) (hm : m.length ≤ 800000) (ha : 0 ≤ a) (hb : 0 ≤ b) (hab : a + b ≤ l.length) (hc : l.length ≤ cap) : Ct Tryz.prog 132 #[.slice A l.length cap, .int .i64 a, .int .i64 b, .slice A' m.length cap'] [] w (fun u hs => ∃ B c, u = .slice B ((l.take a.toNat ++ m ++ l.drop (a + b).toNat)).length c ∧ hs = [En.row B ((l.take a.toNat ++ m ++ l.drop (a + b).toNat)).length c 21 1 (((l.take a.toNat ++ m ++ l.drop (a + b).toNat)).flatMap rc)]) := by
  refine Ct.intro Tryz.func132 rfl Tryz.ntmps132 rfl ?_
  refine WA.seq ?_
  refine WA.region ?_
  refine WR.val (G0 rfl) rfl rfl (.assign rfl rfl) ?_
  refine WR.nil ?_
  refine WA.seq ?_
  refine WA.draws0 follows ?_
  refine WH.take 0 rfl (Pf_blind _ _ _ _ _) (by kernel_rfl) (by kernel_rfl) (by kernel_rfl) .slnil (G0 rfl) rfl rfl (.move rfl rfl) ?_
  refine WH.take 1 rfl (Pf_blind _ _ _ _ _) (by kernel_rfl) (by kernel_rfl) (by kernel_rfl) .slnil (G0 rfl) rfl rfl (.move rfl rfl) ?_
  refine WH.take 2 rfl (Pf_blind _ _ _ _ _) (by kernel_rfl) (by kernel_rfl) (by kernel_rfl) .slnil (G0 rfl) rfl rfl (.slice_h rfl ST_63 rfl rfl (by omega) (by omega)) ?_
  refine WH.take 4 rfl (Pf_blind _ _ _ _ _) (by kernel_rfl) (by kernel_rfl) (by kernel_rfl) .slnil (G0 rfl) rfl rfl (.move rfl rfl) ?_
  refine WH.take 6 rfl (Pf_blind _ _ _ _ _) (by kernel_rfl) (by kernel_rfl) (by kernel_rfl) .slnil (G0 rfl) rfl rfl (.move rfl rfl) ?_
  refine WH.take 7 rfl (Pf_blind _ _ _ _ _) (by kernel_rfl) (by kernel_rfl) (by kernel_rfl) .slnil (G0 rfl) rfl rfl (.move rfl rfl) ?_
  refine WH.take 8 rfl (Pf_blind _ _ _ _ _) (by kernel_rfl) (by kernel_rfl) (by kernel_rfl) .slnil (G0 rfl) rfl rfl (.move rfl rfl) ?_
  refine WH.take 9 rfl (Pf_blind _ _ _ _ _) (by kernel_rfl) (by kernel_rfl) (by kernel_rfl) .slnil (G0 rfl) rfl rfl (.add rfl rfl rfl (by omega) (by omega)) ?_
  refine WH.take 10 rfl (Pf_blind _ _ _ _ _) (by kernel_rfl) (by kernel_rfl) (by kernel_rfl) .slnil (G0 rfl) rfl rfl (.slice_l rfl ST_63 rfl rfl (by omega) (by omega)) ?_
  refine WH.nilrow 21 1 ?_
  refine WH.dw 3 rfl (by kernel_rfl) (G0 rfl) rfl rfl (.append 0 rfl ST_63.1 ZT_21 rfl (by decide) rfl rfl rfl (fun _ hw => slF_pre (enc := rc) (q := 1) (fun _ => rfl) (hw.slf0 hS) (k := a.toNat) (by omega)) (one_flat one_rc _) (by omega) (by omega)) ?_
  rintro _ _ ⟨A2, c3, rfl, rfl⟩
  refine ⟨(.cons _ .slnil), ?_⟩
  refine WH.dw 5 rfl (by kernel_rfl) (G0 rfl) rfl rfl (.append 0 rfl ST_63.1 ZT_21 rfl (by decide) rfl rfl rfl (fun _ hw => hw.slf0 hM) (one_flat one_rc _) (by omega) (by omega)) ?_
  rintro _ _ ⟨A6, c7, rfl, rfl⟩
  refine ⟨(.cons _ .slnil), ?_⟩
  refine WH.dw 11 rfl (by kernel_rfl) (G0 rfl) rfl rfl (.append 0 rfl ST_63.1 ZT_21 rfl (by decide) rfl rfl rfl (fun _ hw => slF_drop (enc := rc) (q := 1) (fun _ => rfl) (hw.slf0 hS) (k := (a + b).toNat) (by omega) hc) (one_flat one_rc _) (by omega) (by omega)) ?_
  rintro _ _ ⟨A10, c11, rfl, rfl⟩
  refine ⟨(.cons _ .slnil), ?_⟩
  refine WH.take 12 rfl (Pf_blind _ _ _ _ _) (by kernel_rfl) (by kernel_rfl) (by kernel_rfl) (.cons _ .slnil) (G0 rfl) rfl rfl (.assign rfl rfl) ?_
  refine WH.done (by kernel_rfl) ?_
  have hn : 0 + a.toNat + m.length + (l.length - (a + b).toNat) = (l.take a.toNat ++ m ++ l.drop (a + b).toNat).length := by simp; omega
  refine WA.roweq 0 rfl ((l.take a.toNat ++ m ++ l.drop (a + b).toNat)).length (((l.take a.toNat ++ m ++ l.drop (a + b).toNat)).flatMap rc) (hn) (by simp [List.flatMap_append]) ?_
  exact WA.ret1 rfl rfl (.refl _) ⟨_, _, congrArg (fun q : Nat => Value.slice _ q _) (hn), rfl⟩
end Go.Proofs.YtpbillinpjccdaaGreat.Fo
