/- Contracts: joins, flaws. -/
import Derived.Test.YtpbillinpjccdaaGreatFjQ
import Derived.Test.YtpbillinpjccdaaGreatRkQ
namespace Go.Proofs.YtpbillinpjccdaaGreat.Fk
open Go.RowKit Go.J Go.R Go.Proofs.YtpbillinpjccdaaGreat.Fa Go.Proofs.YtpbillinpjccdaaGreat.Fb Go.Proofs.YtpbillinpjccdaaGreat.Fc Go.Proofs.YtpbillinpjccdaaGreat.Fd Go.Proofs.YtpbillinpjccdaaGreat.Fe Go.Proofs.YtpbillinpjccdaaGreat.Fg Go.Proofs.YtpbillinpjccdaaGreat.Fh Go.Proofs.YtpbillinpjccdaaGreat.Fi Go.Proofs.YtpbillinpjccdaaGreat.Fj
set_option linter.unusedVariables false
set_option linter.unusedSimpArgs false
theorem follows : Tryz.prog.follows .mixedOrders = true := by kernel_rfl
theorem AG_39 : AG Tryz.prog 39 2 := ⟨Tryz.isAgg39, Tryz.sizeOf39⟩
theorem AG_42 : AG Tryz.prog 42 6 := ⟨Tryz.isAgg42, Tryz.sizeOf42⟩
theorem EN_107 : Enters Tryz.prog 107 := enters_of Tryz.func107 (by kernel_rfl) rfl
theorem EN_108 : Enters Tryz.prog 108 := enters_of Tryz.func108 (by kernel_rfl) rfl
theorem EN_109 : Enters Tryz.prog 109 := enters_of Tryz.func109 (by kernel_rfl) rfl
theorem EN_164 : Enters Tryz.prog 164 := enters_of Tryz.func164 (by kernel_rfl) rfl
theorem EN_167 : Enters Tryz.prog 167 := enters_of Tryz.func167 (by kernel_rfl) rfl
theorem EN_168 : Enters Tryz.prog 168 := enters_of Tryz.func168 (by kernel_rfl) rfl
theorem EN_217 : Enters Tryz.prog 217 := enters_of Tryz.func217 (by kernel_rfl) rfl
theorem EN_218 : Enters Tryz.prog 218 := enters_of Tryz.func218 (by kernel_rfl) rfl
theorem EN_94 : Enters Tryz.prog 94 := enters_of Tryz.func94 (by kernel_rfl) rfl
theorem FA_42_0 : FA Tryz.prog 42 0 0 := fun ad w => by simp [Instr.fieldAt, run_underlying Tryz.underlying42, Instr.sureAddr, fieldPlace, Tryz.sizeOf39]
theorem FA_42_1 : FA Tryz.prog 42 1 2 := fun ad w => by simp [Instr.fieldAt, run_underlying Tryz.underlying42, Instr.sureAddr, fieldPlace, Tryz.sizeOf39]
theorem FA_42_2 : FA Tryz.prog 42 2 4 := fun ad w => by simp [Instr.fieldAt, run_underlying Tryz.underlying42, Instr.sureAddr, fieldPlace, Tryz.sizeOf3]
theorem KTc_39 : ∀ (n : Nat) (em : Bool) (a : Dot) (w : World), (Instr.checkKey em (n + 2) 39 (dv a)).run Tryz.prog w = .ok () w := by
  intro n em a w
  simp [Instr.checkKey, go_sem]
theorem KTb_39 : ∀ (n : Nat) (a : Dot), Instr.sameBits (n + 2) (dv a) (dv a) = true := by
  intro n a
  simp [Instr.sameBits]
theorem KT_39 : KeyT Tryz.prog 39 dv := by
  refine KeyT.of_eq Tryz.underlying39 (fun _ _ => rfl) (fun em a w => KTc_39 9998 em a w) (fun a b w => ?_) (fun a => KTb_39 9998 a)
  simp only [Op.equal, Op.maxDepth]
  simp [go_sem]
  by_cases a.r = b.r <;> by_cases a.c = b.c <;> simp [Dot.eq_iff, *]
theorem NA_218 : NA Tryz.prog 218 := ⟨Tryz.isAgg218, Tryz.sizeOf218⟩
theorem NA_3 : NA Tryz.prog 3 := ⟨Tryz.isAgg3, Tryz.sizeOf3⟩
theorem ST_154 : ST Tryz.prog 154 222 2 := ⟨Tryz.underlying154, Tryz.sizeOf222⟩
theorem ST_22 : ST Tryz.prog 22 42 6 := ⟨Tryz.underlying22, Tryz.sizeOf42⟩
theorem ST_23 : ST Tryz.prog 23 42 6 := ⟨Tryz.underlying23, Tryz.sizeOf42⟩
theorem ZT_218 : ZT Tryz.prog 218 (.map none) 1 8 := by unfold ZT; kernel_rfl
theorem ZT_222 : ZT Tryz.prog 222 (.agg #[.int .i64 0, .int .i64 0]) 2 16 := by unfold ZT; kernel_rfl
theorem ZT_3 : ZT Tryz.prog 3 (.int .i64 0) 1 8 := by unfold ZT; kernel_rfl
theorem ZT_42 : ZT Tryz.prog 42 (.agg #[.int .i64 0, .int .i64 0, .int .i64 0, .int .i64 0, .int .i64 0, .int .i32 0]) 6 48 := by unfold ZT; kernel_rfl
set_option maxRecDepth 20000 in
/-- redpencil/join.Join -/
theorem joinF (a b : List Nd) (A B : Option Addr) (ca cb : Nat) (w : World) (hA : SlN w A a) (hB : SlN w B b) (hla : a.length ≤ 400000) (hlb : b.length ≤ 400000) (hca : a.length ≤ ca) (hcb : b.length ≤ cb) : Ct Tryz.prog 32 #[.slice A a.length ca, .slice B b.length cb] [] w (fun u hs => ∃ B c, u = .tuple #[.slice B (joinR a b).1.length c, .int .i64 (joinR a b).2] ∧ hs = [En.row B (joinR a b).1.length c 42 6 ((joinR a b).1.flatMap nc)]) := by
  refine Ct.intro Tryz.func32 rfl Tryz.ntmps32 rfl ?_
  refine WA.seq ?_
  refine WA.region ?_
  refine WR.val (G0 rfl) rfl rfl (.assign rfl rfl) ?_
  refine WR.val (G0 rfl) rfl rfl (.assign rfl rfl) ?_
  refine WR.nil ?_
  refine WA.seq ?_
  refine WA.seq ?_
  refine WA.region ?_
  refine WR.val (G0 rfl) rfl rfl (.move rfl rfl) ?_
  refine WR.dw (G0 rfl) rfl rfl (.callv (caps := []) rfl rfl rfl EN_94 (fun w hw => jvalidF _ _ _ _ (hw.slf0 hA) (by first | omega | (simp; omega)))) ?_
  rintro _ _ ⟨rfl, rfl⟩
  refine WR.val (G0 rfl) rfl rfl (.not rfl rfl) ?_
  refine WR.val (G0 rfl) rfl rfl (.move rfl rfl) ?_
  refine WR.split (d := 12) rfl (fun h3 => ?_) (fun h3 => ?_)
  · have f4 := h3
    try simp only [decide_eq_true_eq, decide_eq_false_iff_not, Bool.not_eq_true', Bool.not_eq_false', Int.not_lt, Int.not_le] at f4
    refine WR.off (Gf rfl rfl rfl h3) rfl rfl ?_
    refine WR.off (Gf rfl rfl rfl h3) rfl rfl ?_
    refine WR.off (Gf rfl rfl rfl h3) rfl rfl ?_
    refine WR.val (G0 rfl) rfl rfl (.pick_t rfl rfl h3 rfl) ?_
    refine WR.nil ?_
    refine WA.cond_t rfl rfl ?_
    refine WA.seq ?_
    refine WA.region ?_
    refine WR.val (G0 rfl) rfl rfl (.assign rfl rfl) ?_
    refine WR.val (G0 rfl) rfl rfl (.assign rfl rfl) ?_
    refine WR.nil ?_
    have hE : joinR a b = ([], 2) := if_pos (by simp_all)
    rw [hE]
    refine WA.nilrow 42 6 ?_
    exact WA.ret2 rfl rfl rfl (List.singleton_sublist.2 (List.mem_cons_self ..)) ⟨none, 0, rfl, rfl⟩
  · have f5 := h3
    try simp only [decide_eq_true_eq, decide_eq_false_iff_not, Bool.not_eq_true', Bool.not_eq_false', Int.not_lt, Int.not_le] at f5
    refine WR.val (Gt rfl rfl rfl h3) rfl rfl (.move rfl rfl) ?_
    refine WR.dw (Gt rfl rfl rfl h3) rfl rfl (.callv (caps := []) rfl rfl rfl EN_94 (fun w hw => jvalidF _ _ _ _ (hw.slf0 hB) (by first | omega | (simp; omega)))) ?_
    rintro _ _ ⟨rfl, rfl⟩
    refine WR.val (Gt rfl rfl rfl h3) rfl rfl (.not rfl rfl) ?_
    refine WR.val (G0 rfl) rfl rfl (.pick_f rfl rfl h3 rfl) ?_
    refine WR.nil ?_
    refine WA.cond rfl (fun h8 => ?_) (fun h8 => ?_)
    · have f9 := h8
      try simp only [decide_eq_true_eq, decide_eq_false_iff_not, Bool.not_eq_true', Bool.not_eq_false', Int.not_lt, Int.not_le] at f9
      refine WA.seq ?_
      refine WA.region ?_
      refine WR.val (G0 rfl) rfl rfl (.assign rfl rfl) ?_
      refine WR.val (G0 rfl) rfl rfl (.assign rfl rfl) ?_
      refine WR.nil ?_
      have hE : joinR a b = ([], 2) := if_pos (by simp_all)
      rw [hE]
      refine WA.nilrow 42 6 ?_
      exact WA.ret2 rfl rfl rfl (List.singleton_sublist.2 (List.mem_cons_self ..)) ⟨none, 0, rfl, rfl⟩
    · have f10 := h8
      try simp only [decide_eq_true_eq, decide_eq_false_iff_not, Bool.not_eq_true', Bool.not_eq_false', Int.not_lt, Int.not_le] at f10
      refine WA.skip ?_
      refine WA.seq ?_
      have hoa : storeOk a = true := by simp_all
      have hob : storeOk b = true := by simp_all
      refine WA.region ?_
      refine WR.val (G0 rfl) rfl rfl (.assign rfl rfl) ?_
      refine WR.nilrow 42 6 ?_
      refine WR.nil ?_
      refine WA.seq ?_
      refine WA.block ?_
      refine WA.loopK (γ := (Option Addr × Nat × List Nd) × (Option Addr × Nat × List Nd) × (Option Addr × Nat × List Nd)) [] [] (fun q => [(6, .slice q.2.2.1 q.2.2.2.2.length q.2.2.2.1), (0, .slice q.1.1 q.1.2.2.length q.1.2.1), (1, .slice q.2.1.1 q.2.1.2.2.length q.2.1.2.1)]) (fun q => [En.row q.2.2.1 q.2.2.2.2.length q.2.2.2.1 42 6 (q.2.2.2.2.flatMap nc)]) (fun q => Joining a b q.2.2.2.2 q.1.2.2 q.2.1.2.2 ∧ SlN w q.1.1 q.1.2.2 ∧ SlN w q.2.1.1 q.2.1.2.2 ∧ q.1.2.2.length ≤ q.1.2.1 ∧ q.2.1.2.2.length ≤ q.2.1.2.1) (fun q => q.1.2.2.length + q.2.1.2.2.length) ((A, ca, a), (B, cb, b), (none, 0, [])) (.nil _) (.cons rfl (.cons rfl (.cons rfl (.nil _)))) (.refl _) ⟨.start hoa hob, hA, hB, hca, hcb⟩ ?_
      intro q hk
      obtain ⟨hJ, hSa, hSb, hca, hcb⟩ := hk
      have hJl := hJ.len
      refine WA.seq ?_
      refine WA.seq ?_
      refine WA.region ?_
      refine WR.val (G0 rfl) rfl rfl (.move rfl rfl) ?_
      refine WR.val (G0 rfl) rfl rfl (.len rfl ST_23.1 rfl) ?_
      refine WR.val (G0 rfl) rfl rfl (.gtr rfl rfl rfl) ?_
      refine WR.val (G0 rfl) rfl rfl (.move rfl rfl) ?_
      refine WR.split (d := 20) rfl (fun h13 => ?_) (fun h13 => ?_)
      · have f14 := h13
        try simp only [decide_eq_true_eq, decide_eq_false_iff_not, Bool.not_eq_true', Bool.not_eq_false', Int.not_lt, Int.not_le] at f14
        refine WR.val (Gt rfl rfl rfl h13) rfl rfl (.move rfl rfl) ?_
        refine WR.val (Gt rfl rfl rfl h13) rfl rfl (.len rfl ST_23.1 rfl) ?_
        refine WR.val (Gt rfl rfl rfl h13) rfl rfl (.gtr rfl rfl rfl) ?_
        refine WR.val (G0 rfl) rfl rfl (.pick_t rfl rfl h13 rfl) ?_
        refine WR.nil ?_
        refine WA.cond rfl (fun h16 => ?_) (fun h16 => ?_)
        · have f17 := h16
          try simp only [decide_eq_true_eq, decide_eq_false_iff_not, Bool.not_eq_true', Bool.not_eq_false', Int.not_lt, Int.not_le] at f17
          refine WA.skip ?_
          refine WA.block ?_
          refine WA.seq ?_
          have hpa : 0 < q.1.2.2.length := by omega
          have hpb : 0 < q.2.1.2.2.length := by omega
          refine WA.draws0 follows ?_
          refine WH.take 0 rfl (Pf_blind _ _ _ _ _) (by kernel_rfl) (by kernel_rfl) (by kernel_rfl) (.refl _) (G0 rfl) rfl rfl (.move rfl rfl) ?_
          refine WH.take 1 rfl (Pf_blind _ _ _ _ _) (by kernel_rfl) (by kernel_rfl) (by kernel_rfl) (.refl _) (G0 rfl) rfl rfl (.ix rfl ST_23 rfl rfl (by omega) (by omega) (fun _ hw hn => (hw.slf0 hSa).some_ hn)) ?_
          refine WH.take 2 rfl (Pf_blind _ _ _ _ _) (by kernel_rfl) (by kernel_rfl) (by kernel_rfl) (.refl _) (G0 rfl) rfl rfl (.fe rfl FA_42_0 rfl) ?_
          refine WH.take 3 rfl (Pf_blind _ _ _ _ _) (by kernel_rfl) (by kernel_rfl) (by kernel_rfl) (.refl _) (G0 rfl) rfl rfl (.loadK (vs := [_, _]) rfl AG_39 rfl (fun _ hw => Rd.el (off := 0) (k := 2) (rdN (hw.slf0 hSa) (by omega) (by omega)) rfl)) ?_
          refine WH.take 4 rfl (Pf_blind _ _ _ _ _) (by kernel_rfl) (by kernel_rfl) (by kernel_rfl) (.refl _) (G0 rfl) rfl rfl (.move rfl rfl) ?_
          refine WH.take 5 rfl (Pf_blind _ _ _ _ _) (by kernel_rfl) (by kernel_rfl) (by kernel_rfl) (.refl _) (G0 rfl) rfl rfl (.ix rfl ST_23 rfl rfl (by omega) (by omega) (fun _ hw hn => (hw.slf0 hSb).some_ hn)) ?_
          refine WH.take 6 rfl (Pf_blind _ _ _ _ _) (by kernel_rfl) (by kernel_rfl) (by kernel_rfl) (.refl _) (G0 rfl) rfl rfl (.fe rfl FA_42_0 rfl) ?_
          refine WH.take 7 rfl (Pf_blind _ _ _ _ _) (by kernel_rfl) (by kernel_rfl) (by kernel_rfl) (.refl _) (G0 rfl) rfl rfl (.loadK (vs := [_, _]) rfl AG_39 rfl (fun _ hw => Rd.el (off := 0) (k := 2) (rdN (hw.slf0 hSb) (by omega) (by omega)) rfl)) ?_
          refine WH.dw 8 rfl (by kernel_rfl) (G0 rfl) rfl rfl (.callv (caps := []) rfl rfl rfl EN_107 (fun w hw => dcmpF _ _ w)) ?_
          rintro _ _ ⟨rfl, rfl⟩
          refine ⟨(.refl _), ?_⟩
          refine WH.done (by kernel_rfl) ?_
          refine WA.block ?_
          refine WA.seq ?_
          refine WA.region ?_
          refine WR.val (G0 rfl) rfl rfl (.eql rfl rfl rfl) ?_
          refine WR.val (G0 rfl) rfl rfl (.assign rfl rfl) ?_
          refine WR.nil ?_
          refine WA.cond rfl (fun h19 => ?_) (fun h19 => ?_)
          · have f20 := h19
            try simp only [decide_eq_true_eq, decide_eq_false_iff_not, Bool.not_eq_true', Bool.not_eq_false', Int.not_lt, Int.not_le] at f20
            refine WA.drawsE1 follows 0 ?_
            refine WH.take 0 rfl (Pf_blind _ _ _ _ _) (by kernel_rfl) (by kernel_rfl) (by kernel_rfl) (.cons _ .slnil) (G0 rfl) rfl rfl (.move rfl rfl) ?_
            refine WH.take 1 rfl (Pf_blind _ _ _ _ _) (by kernel_rfl) (by kernel_rfl) (by kernel_rfl) (.cons _ .slnil) (G0 rfl) rfl rfl (.move rfl rfl) ?_
            refine WH.take 2 rfl (Pf_blind _ _ _ _ _) (by kernel_rfl) (by kernel_rfl) (by kernel_rfl) (.cons _ .slnil) (G0 rfl) rfl rfl (.ix rfl ST_23 rfl rfl (by omega) (by omega) (fun _ hw hn => (hw.slf0 hSa).some_ hn)) ?_
            refine WH.take 3 rfl (Pf_blind _ _ _ _ _) (by kernel_rfl) (by kernel_rfl) (by kernel_rfl) (.cons _ .slnil) (G0 rfl) rfl rfl (.loadK (vs := [_, _, _, _, _, _]) rfl AG_42 rfl (fun _ hw => rdN (hw.slf0 hSa) (by omega) (by omega))) ?_
            refine WH.take 6 rfl (Pf_blind _ _ _ _ _) (by kernel_rfl) (by kernel_rfl) (by kernel_rfl) (.cons _ .slnil) (G0 rfl) rfl rfl (.move rfl rfl) ?_
            refine WH.take 7 rfl (Pf_blind _ _ _ _ _) (by kernel_rfl) (by kernel_rfl) (by kernel_rfl) (.cons _ .slnil) (G0 rfl) rfl rfl (.slice_l rfl ST_23 rfl rfl (by omega) (by omega)) ?_
            refine WH.dw 4 rfl (by kernel_rfl) (G0 rfl) rfl rfl (.buildSlice (k := 6) (e := 42) (vs := [_, _, _, _, _, _]) rfl rfl rfl (fun _ => by kernel_rfl) rfl) ?_
            rintro _ _ ⟨b28, rfl, rfl⟩
            refine ⟨(.cons _ (.cons _ .slnil)), ?_⟩
            refine WH.dw 5 rfl (by kernel_rfl) (G0 rfl) rfl rfl (.append 1 rfl ST_23.1 ZT_42 rfl (by decide) rfl rfl rfl (fun _ hw => hw.slf_blk 0 rfl rfl (by simp [maxLen])) (by intro u hu; simp at hu; rcases hu with rfl | rfl | rfl | rfl | rfl | rfl <;> rfl) (by omega) (by omega)) ?_
            rintro _ _ ⟨A31, c32, rfl, rfl⟩
            refine ⟨(.cons _ (.cons _ .slnil)), ?_⟩
            refine WH.take 8 rfl (Pf_blind _ _ _ _ _) (by kernel_rfl) (by kernel_rfl) (by kernel_rfl) (.cons _ (.cons _ .slnil)) (G0 rfl) rfl rfl (.assign rfl rfl) ?_
            refine WH.take 9 rfl (Pf_blind _ _ _ _ _) (by kernel_rfl) (by kernel_rfl) (by kernel_rfl) (.cons _ (.cons _ .slnil)) (G0 rfl) rfl rfl (.assign rfl rfl) ?_
            refine WH.done (by kernel_rfl) ?_
            refine WA.mark ?_
            refine WA.mark ?_
            refine WA.roweq 1 rfl (q.2.2.2.2 ++ [(gx q.1.2.2 0)]).length ((q.2.2.2.2 ++ [(gx q.1.2.2 0)]).flatMap nc) (by rw [List.length_append]; rfl) (by rw [flat_snoc]) ?_
            exact WA.roundK ((cutA q.1.1 q.1.2.1 1 6, q.1.2.1 - 1, q.1.2.2.drop 1), q.2.1, (A31, c32, q.2.2.2.2 ++ [(gx q.1.2.2 0)])) (.nil _) (.cons (Eq.trans (b := some (.slice A31 (q.2.2.2.2.length + 1) c32)) rfl (by rw [List.length_append]; rfl)) (.cons (Eq.trans (b := some (.slice (cutA q.1.1 q.1.2.1 1 6) (q.1.2.2.length - 1) (q.1.2.1 - 1))) rfl (by rw [List.length_drop])) (.cons rfl (.nil _)))) (.cons _ (.refl _)) ⟨hJ.lt' hpa hpb (by assumption), slN_tail hSa hpa hca, hSb, by dsimp only; rw [List.length_drop]; omega, hcb⟩ (by dsimp only; (try rw [List.length_drop]); (try rw [List.length_drop]); omega)
          · have f33 := h19
            try simp only [decide_eq_true_eq, decide_eq_false_iff_not, Bool.not_eq_true', Bool.not_eq_false', Int.not_lt, Int.not_le] at f33
            refine WA.seq ?_
            refine WA.region ?_
            refine WR.val (G0 rfl) rfl rfl (.eql rfl rfl rfl) ?_
            refine WR.val (G0 rfl) rfl rfl (.assign rfl rfl) ?_
            refine WR.nil ?_
            refine WA.cond rfl (fun h35 => ?_) (fun h35 => ?_)
            · have f36 := h35
              try simp only [decide_eq_true_eq, decide_eq_false_iff_not, Bool.not_eq_true', Bool.not_eq_false', Int.not_lt, Int.not_le] at f36
              refine WA.drawsE1 follows 0 ?_
              refine WH.take 0 rfl (Pf_blind _ _ _ _ _) (by kernel_rfl) (by kernel_rfl) (by kernel_rfl) (.cons _ .slnil) (G0 rfl) rfl rfl (.move rfl rfl) ?_
              refine WH.take 1 rfl (Pf_blind _ _ _ _ _) (by kernel_rfl) (by kernel_rfl) (by kernel_rfl) (.cons _ .slnil) (G0 rfl) rfl rfl (.move rfl rfl) ?_
              refine WH.take 2 rfl (Pf_blind _ _ _ _ _) (by kernel_rfl) (by kernel_rfl) (by kernel_rfl) (.cons _ .slnil) (G0 rfl) rfl rfl (.ix rfl ST_23 rfl rfl (by omega) (by omega) (fun _ hw hn => (hw.slf0 hSb).some_ hn)) ?_
              refine WH.take 3 rfl (Pf_blind _ _ _ _ _) (by kernel_rfl) (by kernel_rfl) (by kernel_rfl) (.cons _ .slnil) (G0 rfl) rfl rfl (.loadK (vs := [_, _, _, _, _, _]) rfl AG_42 rfl (fun _ hw => rdN (hw.slf0 hSb) (by omega) (by omega))) ?_
              refine WH.take 6 rfl (Pf_blind _ _ _ _ _) (by kernel_rfl) (by kernel_rfl) (by kernel_rfl) (.cons _ .slnil) (G0 rfl) rfl rfl (.move rfl rfl) ?_
              refine WH.take 7 rfl (Pf_blind _ _ _ _ _) (by kernel_rfl) (by kernel_rfl) (by kernel_rfl) (.cons _ .slnil) (G0 rfl) rfl rfl (.slice_l rfl ST_23 rfl rfl (by omega) (by omega)) ?_
              refine WH.dw 4 rfl (by kernel_rfl) (G0 rfl) rfl rfl (.buildSlice (k := 6) (e := 42) (vs := [_, _, _, _, _, _]) rfl rfl rfl (fun _ => by kernel_rfl) rfl) ?_
              rintro _ _ ⟨b44, rfl, rfl⟩
              refine ⟨(.cons _ (.cons _ .slnil)), ?_⟩
              refine WH.dw 5 rfl (by kernel_rfl) (G0 rfl) rfl rfl (.append 1 rfl ST_23.1 ZT_42 rfl (by decide) rfl rfl rfl (fun _ hw => hw.slf_blk 0 rfl rfl (by simp [maxLen])) (by intro u hu; simp at hu; rcases hu with rfl | rfl | rfl | rfl | rfl | rfl <;> rfl) (by omega) (by omega)) ?_
              rintro _ _ ⟨A47, c48, rfl, rfl⟩
              refine ⟨(.cons _ (.cons _ .slnil)), ?_⟩
              refine WH.take 8 rfl (Pf_blind _ _ _ _ _) (by kernel_rfl) (by kernel_rfl) (by kernel_rfl) (.cons _ (.cons _ .slnil)) (G0 rfl) rfl rfl (.assign rfl rfl) ?_
              refine WH.take 9 rfl (Pf_blind _ _ _ _ _) (by kernel_rfl) (by kernel_rfl) (by kernel_rfl) (.cons _ (.cons _ .slnil)) (G0 rfl) rfl rfl (.assign rfl rfl) ?_
              refine WH.done (by kernel_rfl) ?_
              refine WA.mark ?_
              refine WA.mark ?_
              refine WA.roweq 1 rfl (q.2.2.2.2 ++ [(gx q.2.1.2.2 0)]).length ((q.2.2.2.2 ++ [(gx q.2.1.2.2 0)]).flatMap nc) (by rw [List.length_append]; rfl) (by rw [flat_snoc]) ?_
              exact WA.roundK (q.1, (cutA q.2.1.1 q.2.1.2.1 1 6, q.2.1.2.1 - 1, q.2.1.2.2.drop 1), (A47, c48, q.2.2.2.2 ++ [(gx q.2.1.2.2 0)])) (.nil _) (.cons (Eq.trans (b := some (.slice A47 (q.2.2.2.2.length + 1) c48)) rfl (by rw [List.length_append]; rfl)) (.cons rfl (.cons (Eq.trans (b := some (.slice (cutA q.2.1.1 q.2.1.2.1 1 6) (q.2.1.2.2.length - 1) (q.2.1.2.1 - 1))) rfl (by rw [List.length_drop])) (.nil _)))) (.cons _ (.refl _)) ⟨hJ.gt' hpa hpb (by assumption), hSa, slN_tail hSb hpb hcb, hca, by dsimp only; rw [List.length_drop]; omega⟩ (by dsimp only; (try rw [List.length_drop]); (try rw [List.length_drop]); omega)
            · have f49 := h35
              try simp only [decide_eq_true_eq, decide_eq_false_iff_not, Bool.not_eq_true', Bool.not_eq_false', Int.not_lt, Int.not_le] at f49
              refine WA.seq ?_
              refine WA.draws0 follows ?_
              refine WH.take 0 rfl (Pf_blind _ _ _ _ _) (by kernel_rfl) (by kernel_rfl) (by kernel_rfl) (.refl _) (G0 rfl) rfl rfl (.move rfl rfl) ?_
              refine WH.take 1 rfl (Pf_blind _ _ _ _ _) (by kernel_rfl) (by kernel_rfl) (by kernel_rfl) (.refl _) (G0 rfl) rfl rfl (.ix rfl ST_23 rfl rfl (by omega) (by omega) (fun _ hw hn => (hw.slf0 hSa).some_ hn)) ?_
              refine WH.take 2 rfl (Pf_blind _ _ _ _ _) (by kernel_rfl) (by kernel_rfl) (by kernel_rfl) (.refl _) (G0 rfl) rfl rfl (.loadK (vs := [_, _, _, _, _, _]) rfl AG_42 rfl (fun _ hw => rdN (hw.slf0 hSa) (by omega) (by omega))) ?_
              refine WH.take 3 rfl (Pf_blind _ _ _ _ _) (by kernel_rfl) (by kernel_rfl) (by kernel_rfl) (.refl _) (G0 rfl) rfl rfl (.move rfl rfl) ?_
              refine WH.take 4 rfl (Pf_blind _ _ _ _ _) (by kernel_rfl) (by kernel_rfl) (by kernel_rfl) (.refl _) (G0 rfl) rfl rfl (.ix rfl ST_23 rfl rfl (by omega) (by omega) (fun _ hw hn => (hw.slf0 hSb).some_ hn)) ?_
              refine WH.take 5 rfl (Pf_blind _ _ _ _ _) (by kernel_rfl) (by kernel_rfl) (by kernel_rfl) (.refl _) (G0 rfl) rfl rfl (.loadK (vs := [_, _, _, _, _, _]) rfl AG_42 rfl (fun _ hw => rdN (hw.slf0 hSb) (by omega) (by omega))) ?_
              refine WH.two (i := 6) (j := 10) (by kernel_rfl) ?_ ?_
              · refine WO.dw 6 rfl (G0 rfl) rfl rfl (.callv (caps := []) rfl rfl rfl EN_108 (fun w hw => mergeF _ _ w)) ?_
                rintro _ _ ⟨rfl, rfl⟩
                refine ⟨(.refl _), ?_⟩
                refine WH.take 7 rfl (Pf_blind _ _ _ _ _) (by kernel_rfl) (by kernel_rfl) (by kernel_rfl) (.refl _) (G0 rfl) rfl rfl (.move rfl rfl) ?_
                refine WH.take 8 rfl (Pf_blind _ _ _ _ _) (by kernel_rfl) (by kernel_rfl) (by kernel_rfl) (.refl _) (G0 rfl) rfl rfl (.extract (vs := [_, _]) rfl rfl rfl) ?_
                refine WH.take 9 rfl (Pf_blind _ _ _ _ _) (by kernel_rfl) (by kernel_rfl) (by kernel_rfl) (.refl _) (G0 rfl) rfl rfl (.extract (vs := [_, _]) rfl rfl rfl) ?_
                refine WH.dw 10 rfl (by kernel_rfl) (G0 rfl) rfl rfl (.alloc (vs := [_, _, _, _, _, _]) rfl ZT_42 rfl) ?_
                rintro _ _ ⟨b55, rfl, rfl⟩
                refine ⟨(.cons _ (.refl _)), ?_⟩
                refine WH.dw0 11 rfl (by kernel_rfl) (G0 rfl) rfl (.store (i := 0) rfl AG_42.2 rfl rfl [_, _, _, _, _, _] rfl rfl (by intro u hu; simp at hu; rcases hu with rfl | rfl | rfl | rfl | rfl | rfl <;> rfl) rfl rfl) ?_
                rintro _ _ ⟨rfl, rfl⟩
                refine ⟨(.cons _ (.refl _)), ?_⟩
                refine WH.take 12 rfl (Pf_blind _ _ _ _ _) (by kernel_rfl) (by kernel_rfl) (by kernel_rfl) (.cons _ (.refl _)) (G0 rfl) rfl rfl (.assign rfl rfl) ?_
                refine WH.done (by kernel_rfl) ?_
                refine WA.seq ?_
                refine WA.seq ?_
                refine WA.region ?_
                refine WR.val (G0 rfl) rfl rfl (.move rfl rfl) ?_
                refine WR.val (G0 rfl) rfl rfl (.neq rfl rfl rfl) ?_
                refine WR.nil ?_
                refine WA.cond rfl (fun h57 => ?_) (fun h57 => ?_)
                · have f58 := h57
                  try simp only [decide_eq_true_eq, decide_eq_false_iff_not, Bool.not_eq_true', Bool.not_eq_false', Int.not_lt, Int.not_le] at f58
                  refine WA.seq ?_
                  refine WA.region ?_
                  refine WR.val (G0 rfl) rfl rfl (.move rfl rfl) ?_
                  refine WR.val (G0 rfl) rfl rfl (.assign rfl rfl) ?_
                  refine WR.val (G0 rfl) rfl rfl (.assign rfl rfl) ?_
                  refine WR.nil ?_
                  obtain ⟨hcl, hc15⟩ := hJ.clash' hpa hpb (by assumption) (by assumption) (by simp_all)
                  have hE : joinR a b = ([], 15) := by rw [joinR, if_neg (by simp [hoa, hob]), if_neg (by simp [hcl])]
                  rw [hE]
                  refine WA.nilrow 42 6 ?_
                  exact WA.ret2 rfl rfl rfl (List.singleton_sublist.2 (List.mem_cons_self ..)) ⟨none, 0, by rw [hc15]; rfl, rfl⟩
                · have f59 := h57
                  try simp only [decide_eq_true_eq, decide_eq_false_iff_not, Bool.not_eq_true', Bool.not_eq_false', Int.not_lt, Int.not_le] at f59
                  refine WA.skip ?_
                  refine WA.drawsE1 follows 1 ?_
                  refine WH.take 0 rfl (Pf_blind _ _ _ _ _) (by kernel_rfl) (by kernel_rfl) (by kernel_rfl) (.cons_cons _ (.cons _ .slnil)) (G0 rfl) rfl rfl (.move rfl rfl) ?_
                  refine WH.take 1 rfl (Pf_blind _ _ _ _ _) (by kernel_rfl) (by kernel_rfl) (by kernel_rfl) (.cons_cons _ (.cons _ .slnil)) (G0 rfl) rfl rfl (.loadK (vs := [_, _, _, _, _, _]) rfl AG_42 rfl (fun _ hw => hw.rd_blk (k := 6) 0 rfl rfl)) ?_
                  refine WH.take 4 rfl (Pf_blind _ _ _ _ _) (by kernel_rfl) (by kernel_rfl) (by kernel_rfl) (.cons_cons _ (.cons _ .slnil)) (G0 rfl) rfl rfl (.move rfl rfl) ?_
                  refine WH.take 5 rfl (Pf_blind _ _ _ _ _) (by kernel_rfl) (by kernel_rfl) (by kernel_rfl) (.cons_cons _ (.cons _ .slnil)) (G0 rfl) rfl rfl (.slice_l rfl ST_23 rfl rfl (by omega) (by omega)) ?_
                  refine WH.take 6 rfl (Pf_blind _ _ _ _ _) (by kernel_rfl) (by kernel_rfl) (by kernel_rfl) (.cons_cons _ (.cons _ .slnil)) (G0 rfl) rfl rfl (.move rfl rfl) ?_
                  refine WH.take 7 rfl (Pf_blind _ _ _ _ _) (by kernel_rfl) (by kernel_rfl) (by kernel_rfl) (.cons_cons _ (.cons _ .slnil)) (G0 rfl) rfl rfl (.slice_l rfl ST_23 rfl rfl (by omega) (by omega)) ?_
                  refine WH.dw 2 rfl (by kernel_rfl) (G0 rfl) rfl rfl (.buildSlice (k := 6) (e := 42) (vs := [_, _, _, _, _, _]) rfl rfl rfl (fun _ => by kernel_rfl) rfl) ?_
                  rintro _ _ ⟨b71, rfl, rfl⟩
                  refine ⟨(.cons _ (.cons_cons _ (.cons _ .slnil))), ?_⟩
                  refine WH.dw 3 rfl (by kernel_rfl) (G0 rfl) rfl rfl (.append 2 rfl ST_23.1 ZT_42 rfl (by decide) rfl rfl rfl (fun _ hw => hw.slf_blk 0 rfl rfl (by simp [maxLen])) (by intro u hu; simp at hu; rcases hu with rfl | rfl | rfl | rfl | rfl | rfl <;> rfl) (by omega) (by omega)) ?_
                  rintro _ _ ⟨A74, c75, rfl, rfl⟩
                  refine ⟨(.cons _ (.cons_cons _ (.cons _ .slnil))), ?_⟩
                  refine WH.take 8 rfl (Pf_blind _ _ _ _ _) (by kernel_rfl) (by kernel_rfl) (by kernel_rfl) (.cons _ (.cons_cons _ (.cons _ .slnil))) (G0 rfl) rfl rfl (.assign rfl rfl) ?_
                  refine WH.take 9 rfl (Pf_blind _ _ _ _ _) (by kernel_rfl) (by kernel_rfl) (by kernel_rfl) (.cons _ (.cons_cons _ (.cons _ .slnil))) (G0 rfl) rfl rfl (.assign rfl rfl) ?_
                  refine WH.take 10 rfl (Pf_blind _ _ _ _ _) (by kernel_rfl) (by kernel_rfl) (by kernel_rfl) (.cons _ (.cons_cons _ (.cons _ .slnil))) (G0 rfl) rfl rfl (.assign rfl rfl) ?_
                  refine WH.done (by kernel_rfl) ?_
                  refine WA.mark ?_
                  refine WA.mark ?_
                  refine WA.roweq 2 rfl (q.2.2.2.2 ++ [(nmerge (gx q.1.2.2 0) (gx q.2.1.2.2 0)).1]).length ((q.2.2.2.2 ++ [(nmerge (gx q.1.2.2 0) (gx q.2.1.2.2 0)).1]).flatMap nc) (by rw [List.length_append]; rfl) (by rw [flat_snoc]) ?_
                  exact WA.roundK ((cutA q.1.1 q.1.2.1 1 6, q.1.2.1 - 1, q.1.2.2.drop 1), (cutA q.2.1.1 q.2.1.2.1 1 6, q.2.1.2.1 - 1, q.2.1.2.2.drop 1), (A74, c75, q.2.2.2.2 ++ [(nmerge (gx q.1.2.2 0) (gx q.2.1.2.2 0)).1])) (.nil _) (.cons (Eq.trans (b := some (.slice A74 (q.2.2.2.2.length + 1) c75)) rfl (by rw [List.length_append]; rfl)) (.cons (Eq.trans (b := some (.slice (cutA q.1.1 q.1.2.1 1 6) (q.1.2.2.length - 1) (q.1.2.1 - 1))) rfl (by rw [List.length_drop])) (.cons (Eq.trans (b := some (.slice (cutA q.2.1.1 q.2.1.2.1 1 6) (q.2.1.2.2.length - 1) (q.2.1.2.1 - 1))) rfl (by rw [List.length_drop])) (.nil _)))) (.cons _ (.cons _ (.refl _))) ⟨hJ.both' hpa hpb (by assumption) (by assumption) (by simp_all), slN_tail hSa hpa hca, slN_tail hSb hpb hcb, by dsimp only; rw [List.length_drop]; omega, by dsimp only; rw [List.length_drop]; omega⟩ (by dsimp only; (try rw [List.length_drop]); (try rw [List.length_drop]); omega)
              · refine WO.dw 10 rfl (G0 rfl) rfl rfl (.alloc (vs := [_, _, _, _, _, _]) rfl ZT_42 rfl) ?_
                rintro _ _ ⟨b77, rfl, rfl⟩
                refine ⟨(.cons _ (.refl _)), ?_⟩
                refine WH.dw 6 rfl (by kernel_rfl) (G0 rfl) rfl rfl (.callv (caps := []) rfl rfl rfl EN_108 (fun w hw => mergeF _ _ w)) ?_
                rintro _ _ ⟨rfl, rfl⟩
                refine ⟨(.cons _ (.refl _)), ?_⟩
                refine WH.take 7 rfl (Pf_blind _ _ _ _ _) (by kernel_rfl) (by kernel_rfl) (by kernel_rfl) (.cons _ (.refl _)) (G0 rfl) rfl rfl (.move rfl rfl) ?_
                refine WH.take 8 rfl (Pf_blind _ _ _ _ _) (by kernel_rfl) (by kernel_rfl) (by kernel_rfl) (.cons _ (.refl _)) (G0 rfl) rfl rfl (.extract (vs := [_, _]) rfl rfl rfl) ?_
                refine WH.take 9 rfl (Pf_blind _ _ _ _ _) (by kernel_rfl) (by kernel_rfl) (by kernel_rfl) (.cons _ (.refl _)) (G0 rfl) rfl rfl (.extract (vs := [_, _]) rfl rfl rfl) ?_
                refine WH.dw0 11 rfl (by kernel_rfl) (G0 rfl) rfl (.store (i := 0) rfl AG_42.2 rfl rfl [_, _, _, _, _, _] rfl rfl (by intro u hu; simp at hu; rcases hu with rfl | rfl | rfl | rfl | rfl | rfl <;> rfl) rfl rfl) ?_
                rintro _ _ ⟨rfl, rfl⟩
                refine ⟨(.cons _ (.refl _)), ?_⟩
                refine WH.take 12 rfl (Pf_blind _ _ _ _ _) (by kernel_rfl) (by kernel_rfl) (by kernel_rfl) (.cons _ (.refl _)) (G0 rfl) rfl rfl (.assign rfl rfl) ?_
                refine WH.done (by kernel_rfl) ?_
                refine WA.seq ?_
                refine WA.seq ?_
                refine WA.region ?_
                refine WR.val (G0 rfl) rfl rfl (.move rfl rfl) ?_
                refine WR.val (G0 rfl) rfl rfl (.neq rfl rfl rfl) ?_
                refine WR.nil ?_
                refine WA.cond rfl (fun h79 => ?_) (fun h79 => ?_)
                · have f80 := h79
                  try simp only [decide_eq_true_eq, decide_eq_false_iff_not, Bool.not_eq_true', Bool.not_eq_false', Int.not_lt, Int.not_le] at f80
                  refine WA.seq ?_
                  refine WA.region ?_
                  refine WR.val (G0 rfl) rfl rfl (.move rfl rfl) ?_
                  refine WR.val (G0 rfl) rfl rfl (.assign rfl rfl) ?_
                  refine WR.val (G0 rfl) rfl rfl (.assign rfl rfl) ?_
                  refine WR.nil ?_
                  obtain ⟨hcl, hc15⟩ := hJ.clash' hpa hpb (by assumption) (by assumption) (by simp_all)
                  have hE : joinR a b = ([], 15) := by rw [joinR, if_neg (by simp [hoa, hob]), if_neg (by simp [hcl])]
                  rw [hE]
                  refine WA.nilrow 42 6 ?_
                  exact WA.ret2 rfl rfl rfl (List.singleton_sublist.2 (List.mem_cons_self ..)) ⟨none, 0, by rw [hc15]; rfl, rfl⟩
                · have f81 := h79
                  try simp only [decide_eq_true_eq, decide_eq_false_iff_not, Bool.not_eq_true', Bool.not_eq_false', Int.not_lt, Int.not_le] at f81
                  refine WA.skip ?_
                  refine WA.drawsE1 follows 1 ?_
                  refine WH.take 0 rfl (Pf_blind _ _ _ _ _) (by kernel_rfl) (by kernel_rfl) (by kernel_rfl) (.cons_cons _ (.cons _ .slnil)) (G0 rfl) rfl rfl (.move rfl rfl) ?_
                  refine WH.take 1 rfl (Pf_blind _ _ _ _ _) (by kernel_rfl) (by kernel_rfl) (by kernel_rfl) (.cons_cons _ (.cons _ .slnil)) (G0 rfl) rfl rfl (.loadK (vs := [_, _, _, _, _, _]) rfl AG_42 rfl (fun _ hw => hw.rd_blk (k := 6) 0 rfl rfl)) ?_
                  refine WH.take 4 rfl (Pf_blind _ _ _ _ _) (by kernel_rfl) (by kernel_rfl) (by kernel_rfl) (.cons_cons _ (.cons _ .slnil)) (G0 rfl) rfl rfl (.move rfl rfl) ?_
                  refine WH.take 5 rfl (Pf_blind _ _ _ _ _) (by kernel_rfl) (by kernel_rfl) (by kernel_rfl) (.cons_cons _ (.cons _ .slnil)) (G0 rfl) rfl rfl (.slice_l rfl ST_23 rfl rfl (by omega) (by omega)) ?_
                  refine WH.take 6 rfl (Pf_blind _ _ _ _ _) (by kernel_rfl) (by kernel_rfl) (by kernel_rfl) (.cons_cons _ (.cons _ .slnil)) (G0 rfl) rfl rfl (.move rfl rfl) ?_
                  refine WH.take 7 rfl (Pf_blind _ _ _ _ _) (by kernel_rfl) (by kernel_rfl) (by kernel_rfl) (.cons_cons _ (.cons _ .slnil)) (G0 rfl) rfl rfl (.slice_l rfl ST_23 rfl rfl (by omega) (by omega)) ?_
                  refine WH.dw 2 rfl (by kernel_rfl) (G0 rfl) rfl rfl (.buildSlice (k := 6) (e := 42) (vs := [_, _, _, _, _, _]) rfl rfl rfl (fun _ => by kernel_rfl) rfl) ?_
                  rintro _ _ ⟨b93, rfl, rfl⟩
                  refine ⟨(.cons _ (.cons_cons _ (.cons _ .slnil))), ?_⟩
                  refine WH.dw 3 rfl (by kernel_rfl) (G0 rfl) rfl rfl (.append 2 rfl ST_23.1 ZT_42 rfl (by decide) rfl rfl rfl (fun _ hw => hw.slf_blk 0 rfl rfl (by simp [maxLen])) (by intro u hu; simp at hu; rcases hu with rfl | rfl | rfl | rfl | rfl | rfl <;> rfl) (by omega) (by omega)) ?_
                  rintro _ _ ⟨A96, c97, rfl, rfl⟩
                  refine ⟨(.cons _ (.cons_cons _ (.cons _ .slnil))), ?_⟩
                  refine WH.take 8 rfl (Pf_blind _ _ _ _ _) (by kernel_rfl) (by kernel_rfl) (by kernel_rfl) (.cons _ (.cons_cons _ (.cons _ .slnil))) (G0 rfl) rfl rfl (.assign rfl rfl) ?_
                  refine WH.take 9 rfl (Pf_blind _ _ _ _ _) (by kernel_rfl) (by kernel_rfl) (by kernel_rfl) (.cons _ (.cons_cons _ (.cons _ .slnil))) (G0 rfl) rfl rfl (.assign rfl rfl) ?_
                  refine WH.take 10 rfl (Pf_blind _ _ _ _ _) (by kernel_rfl) (by kernel_rfl) (by kernel_rfl) (.cons _ (.cons_cons _ (.cons _ .slnil))) (G0 rfl) rfl rfl (.assign rfl rfl) ?_
                  refine WH.done (by kernel_rfl) ?_
                  refine WA.mark ?_
                  refine WA.mark ?_
                  refine WA.roweq 2 rfl (q.2.2.2.2 ++ [(nmerge (gx q.1.2.2 0) (gx q.2.1.2.2 0)).1]).length ((q.2.2.2.2 ++ [(nmerge (gx q.1.2.2 0) (gx q.2.1.2.2 0)).1]).flatMap nc) (by rw [List.length_append]; rfl) (by rw [flat_snoc]) ?_
                  exact WA.roundK ((cutA q.1.1 q.1.2.1 1 6, q.1.2.1 - 1, q.1.2.2.drop 1), (cutA q.2.1.1 q.2.1.2.1 1 6, q.2.1.2.1 - 1, q.2.1.2.2.drop 1), (A96, c97, q.2.2.2.2 ++ [(nmerge (gx q.1.2.2 0) (gx q.2.1.2.2 0)).1])) (.nil _) (.cons (Eq.trans (b := some (.slice A96 (q.2.2.2.2.length + 1) c97)) rfl (by rw [List.length_append]; rfl)) (.cons (Eq.trans (b := some (.slice (cutA q.1.1 q.1.2.1 1 6) (q.1.2.2.length - 1) (q.1.2.1 - 1))) rfl (by rw [List.length_drop])) (.cons (Eq.trans (b := some (.slice (cutA q.2.1.1 q.2.1.2.1 1 6) (q.2.1.2.2.length - 1) (q.2.1.2.1 - 1))) rfl (by rw [List.length_drop])) (.nil _)))) (.cons _ (.cons _ (.refl _))) ⟨hJ.both' hpa hpb (by assumption) (by assumption) (by simp_all), slN_tail hSa hpa hca, slN_tail hSb hpb hcb, by dsimp only; rw [List.length_drop]; omega, by dsimp only; rw [List.length_drop]; omega⟩ (by dsimp only; (try rw [List.length_drop]); (try rw [List.length_drop]); omega)
        · have f98 := h16
          try simp only [decide_eq_true_eq, decide_eq_false_iff_not, Bool.not_eq_true', Bool.not_eq_false', Int.not_lt, Int.not_le] at f98
          refine WA.exit rfl ?_
          refine WA.seq ?_
          refine WA.region ?_
          refine WR.val (G0 rfl) rfl rfl (.move rfl rfl) ?_
          refine WR.val (G0 rfl) rfl rfl (.move rfl rfl) ?_
          refine WR.dw (G0 rfl) rfl rfl (.append 0 rfl ST_23.1 ZT_42 rfl (by decide) rfl rfl rfl (fun _ hw => hw.slf0 hSa) (one_flat one_nc _) (by omega) (by omega)) ?_
          rintro _ _ ⟨A99, c100, rfl, rfl⟩
          refine WR.val (G0 rfl) rfl rfl (.move rfl rfl) ?_
          refine WR.dw (G0 rfl) rfl rfl (.append 0 rfl ST_23.1 ZT_42 rfl (by decide) rfl rfl rfl (fun _ hw => hw.slf0 hSb) (one_flat one_nc _) (by omega) (by omega)) ?_
          rintro _ _ ⟨A101, c102, rfl, rfl⟩
          refine WR.val (G0 rfl) rfl rfl (.assign rfl rfl) ?_
          refine WR.val (G0 rfl) rfl rfl (.assign rfl rfl) ?_
          refine WR.nil ?_
          obtain ⟨hjn, hag⟩ := hJ.done' (by omega)
          have hlen : q.2.2.2.2.length + q.1.2.2.length + q.2.1.2.2.length = (jn a b).length := by rw [← hjn]; simp [Nat.add_assoc]
          have hE : joinR a b = (jn a b, 0) := by rw [joinR, if_neg (by simp [hoa, hob]), if_pos hag]
          rw [hE]
          refine WA.roweq 0 rfl (jn a b).length ((jn a b).flatMap nc) hlen (by rw [← hjn]; simp) ?_
          exact WA.ret2 rfl rfl rfl (.refl _) ⟨_, _, by rw [hlen], rfl⟩
      · have f103 := h13
        try simp only [decide_eq_true_eq, decide_eq_false_iff_not, Bool.not_eq_true', Bool.not_eq_false', Int.not_lt, Int.not_le] at f103
        refine WR.off (Gf rfl rfl rfl h13) rfl rfl ?_
        refine WR.off (Gf rfl rfl rfl h13) rfl rfl ?_
        refine WR.off (Gf rfl rfl rfl h13) rfl rfl ?_
        refine WR.val (G0 rfl) rfl rfl (.pick_f rfl rfl h13 rfl) ?_
        refine WR.nil ?_
        refine WA.cond_f rfl rfl ?_
        refine WA.exit rfl ?_
        refine WA.seq ?_
        refine WA.region ?_
        refine WR.val (G0 rfl) rfl rfl (.move rfl rfl) ?_
        refine WR.val (G0 rfl) rfl rfl (.move rfl rfl) ?_
        refine WR.dw (G0 rfl) rfl rfl (.append 0 rfl ST_23.1 ZT_42 rfl (by decide) rfl rfl rfl (fun _ hw => hw.slf0 hSa) (one_flat one_nc _) (by omega) (by omega)) ?_
        rintro _ _ ⟨A104, c105, rfl, rfl⟩
        refine WR.val (G0 rfl) rfl rfl (.move rfl rfl) ?_
        refine WR.dw (G0 rfl) rfl rfl (.append 0 rfl ST_23.1 ZT_42 rfl (by decide) rfl rfl rfl (fun _ hw => hw.slf0 hSb) (one_flat one_nc _) (by omega) (by omega)) ?_
        rintro _ _ ⟨A106, c107, rfl, rfl⟩
        refine WR.val (G0 rfl) rfl rfl (.assign rfl rfl) ?_
        refine WR.val (G0 rfl) rfl rfl (.assign rfl rfl) ?_
        refine WR.nil ?_
        obtain ⟨hjn, hag⟩ := hJ.done' (by omega)
        have hlen : q.2.2.2.2.length + q.1.2.2.length + q.2.1.2.2.length = (jn a b).length := by rw [← hjn]; simp [Nat.add_assoc]
        have hE : joinR a b = (jn a b, 0) := by rw [joinR, if_neg (by simp [hoa, hob]), if_pos hag]
        rw [hE]
        refine WA.roweq 0 rfl (jn a b).length ((jn a b).flatMap nc) hlen (by rw [← hjn]; simp) ?_
        exact WA.ret2 rfl rfl rfl (.refl _) ⟨_, _, by rw [hlen], rfl⟩
set_option maxRecDepth 20000 in
/-- redpencil/shape.flaw -/
theorem flawF (l : List Nd) (A : Option Addr) (cap : Nat) (w : World) (hS : SlN w A l) (hl : l.length ≤ 800000) (b : Nat) (m : List (Dot × Int)) (hM : MpF w dv (Value.int .i64) b m) (hm : ∀ d, mget m d = if fnd l d < 0 then none else some (fnd l d)) (i : Nat) (hi : i < l.length) : Ct Tryz.prog 168 #[.slice A l.length cap, .map (some b), .int .i64 (i : Int)] [] w (fun u hs => u = .int .i64 (flawN l i) ∧ hs = []) := by
  refine Ct.intro Tryz.func168 rfl Tryz.ntmps168 rfl ?_
  refine WA.seq ?_
  refine WA.region ?_
  refine WR.val (G0 rfl) rfl rfl (.assign rfl rfl) ?_
  refine WR.nil ?_
  refine WA.seq ?_
  refine WA.region ?_
  refine WR.val (G0 rfl) rfl rfl (.move rfl rfl) ?_
  refine WR.val (G0 rfl) rfl rfl (.move rfl rfl) ?_
  refine WR.val (G0 rfl) rfl rfl (.ix rfl ST_22 rfl rfl (by omega) (by omega) (fun _ hw hn => (hw.slf0 hS).some_ hn)) ?_
  refine WR.val (G0 rfl) rfl rfl (.loadK (vs := [_, _, _, _, _, _]) rfl AG_42 rfl (fun _ hw => rdN (hw.slf0 hS) (by omega) (by omega))) ?_
  refine WR.dw (G0 rfl) rfl rfl (.alloc (vs := [_, _, _, _, _, _]) rfl ZT_42 rfl) ?_
  rintro _ _ ⟨b2, rfl, rfl⟩
  refine WR.dw0 (G0 rfl) rfl (.store (i := 0) rfl AG_42.2 rfl rfl [_, _, _, _, _, _] rfl rfl (by intro u hu; simp at hu; rcases hu with rfl | rfl | rfl | rfl | rfl | rfl <;> rfl) rfl rfl) ?_
  rintro _ _ ⟨rfl, rfl⟩
  refine WR.nil ?_
  refine WA.seq ?_
  by_cases h3 : fnd l (gx l (i : Int)).p < 0
  · have hmg := hm (gx l (i : Int)).p
    rw [if_pos h3] at hmg
    refine WA.region ?_
    refine WR.val (G0 rfl) rfl rfl (.move rfl rfl) ?_
    refine WR.val (G0 rfl) rfl rfl (.fa rfl FA_42_1 rfl) ?_
    refine WR.val (G0 rfl) rfl rfl (.loadK (vs := [_, _]) rfl AG_39 rfl (fun _ hw => hw.rd_blk (k := 2) 0 rfl rfl)) ?_
    refine WR.val (G0 rfl) rfl rfl (.lookupOk KT_39 rfl Tryz.underlying218 ZT_3 rfl rfl (fun _ hw => hw.mpf0 hM)) ?_
    refine WR.val (G0 rfl) rfl rfl (.move rfl rfl) ?_
    refine WR.val (G0 rfl) rfl rfl (.extract (vs := [_, _]) rfl rfl rfl) ?_
    refine WR.val (G0 rfl) rfl rfl (.extract (vs := [_, _]) rfl rfl rfl) ?_
    refine WR.val (G0 rfl) rfl rfl (.assign rfl rfl) ?_
    refine WR.val (G0 rfl) rfl rfl (.assign rfl rfl) ?_
    refine WR.nil ?_
    refine WA.seq ?_
    refine WA.seq ?_
    rw [hmg]
    have hfb := fnd_bd l (gx l (i : Int)).p
    refine WA.region ?_
    refine WR.val (G0 rfl) rfl rfl (.fa rfl FA_42_1 rfl) ?_
    refine WR.val (G0 rfl) rfl rfl (.loadK (vs := [_, _]) rfl AG_39 rfl (fun _ hw => hw.rd_blk (k := 2) 0 rfl rfl)) ?_
    refine WR.dw (G0 rfl) rfl rfl (.callv (caps := []) rfl rfl rfl EN_217 (fun w hw => drootF _ w)) ?_
    rintro _ _ ⟨rfl, rfl⟩
    refine WR.val (G0 rfl) rfl rfl (.assign rfl rfl) ?_
    refine WR.nil ?_
    refine WA.block ?_
    refine WA.seq ?_
    refine WA.region ?_
    refine WR.val (G0 rfl) rfl rfl (.loadK (vs := [_, _, _, _, _, _]) rfl AG_42 rfl (fun _ hw => hw.rd_blk (k := 6) 0 rfl rfl)) ?_
    refine WR.dw (G0 rfl) rfl rfl (.callv (caps := []) rfl rfl rfl EN_164 (fun w hw => nvalidF _ w)) ?_
    rintro _ _ ⟨rfl, rfl⟩
    refine WR.val (G0 rfl) rfl rfl (.not rfl rfl) ?_
    refine WR.val (G0 rfl) rfl rfl (.assign rfl rfl) ?_
    refine WR.nil ?_
    refine WA.cond rfl (fun h8 => ?_) (fun h8 => ?_)
    · have f9 := h8
      try simp only [decide_eq_true_eq, decide_eq_false_iff_not, Bool.not_eq_true', Bool.not_eq_false', Int.not_lt, Int.not_le] at f9
      refine WA.seq ?_
      refine WA.region ?_
      refine WR.val (G0 rfl) rfl rfl (.assign rfl rfl) ?_
      refine WR.nil ?_
      have hE : flawN l i = 1 := by
        rw [flawC]
        repeat' split
        all_goals first | rfl | omega | (exfalso; simp_all; done) | (exfalso; simp_all; omega)
      exact WA.ret1 rfl rfl (List.nil_sublist _) ⟨by rw [hE], rfl⟩
    · have f10 := h8
      try simp only [decide_eq_true_eq, decide_eq_false_iff_not, Bool.not_eq_true', Bool.not_eq_false', Int.not_lt, Int.not_le] at f10
      refine WA.seq ?_
      refine WA.draws0 follows ?_
      refine WH.take 0 rfl (Pf_blind _ _ _ _ _) (by kernel_rfl) (by kernel_rfl) (by kernel_rfl) (.refl _) (G0 rfl) rfl rfl (.move rfl rfl) ?_
      refine WH.take 1 rfl (Pf_blind _ _ _ _ _) (by kernel_rfl) (by kernel_rfl) (by kernel_rfl) (.refl _) (G0 rfl) rfl rfl (.gtr rfl rfl rfl) ?_
      refine WH.take 2 rfl (Pf_blind _ _ _ _ _) (by kernel_rfl) (by kernel_rfl) (by kernel_rfl) (.refl _) (G0 rfl) rfl rfl (.move rfl rfl) ?_
      refine WH.split (d := 32) rfl (fun h12 => ?_) (fun h12 => ?_)
      · have f13 := h12
        try simp only [decide_eq_true_eq, decide_eq_false_iff_not, Bool.not_eq_true', Bool.not_eq_false', Int.not_lt, Int.not_le] at f13
        refine WH.take 3 rfl (Pf_blind _ _ _ _ _) (by kernel_rfl) (by kernel_rfl) (by kernel_rfl) (.refl _) (Gt rfl rfl rfl h12) rfl rfl (.move rfl rfl) ?_
        refine WH.take 4 rfl (Pf_blind _ _ _ _ _) (by kernel_rfl) (by kernel_rfl) (by kernel_rfl) (.refl _) (Gt rfl rfl rfl h12) rfl rfl (.move rfl rfl) ?_
        refine WH.take 5 rfl (Pf_blind _ _ _ _ _) (by kernel_rfl) (by kernel_rfl) (by kernel_rfl) (.refl _) (Gt rfl rfl rfl h12) rfl rfl (.sub rfl rfl rfl (by omega) (by omega)) ?_
        refine WH.take 6 rfl (Pf_blind _ _ _ _ _) (by kernel_rfl) (by kernel_rfl) (by kernel_rfl) (.refl _) (Gt rfl rfl rfl h12) rfl rfl (.ix rfl ST_22 rfl rfl (by omega) (by omega) (fun _ hw hn => (hw.slf0 hS).some_ hn)) ?_
        refine WH.take 7 rfl (Pf_blind _ _ _ _ _) (by kernel_rfl) (by kernel_rfl) (by kernel_rfl) (.refl _) (Gt rfl rfl rfl h12) rfl rfl (.fe rfl FA_42_0 rfl) ?_
        refine WH.take 8 rfl (Pf_blind _ _ _ _ _) (by kernel_rfl) (by kernel_rfl) (by kernel_rfl) (.refl _) (Gt rfl rfl rfl h12) rfl rfl (.loadK (vs := [_, _]) rfl AG_39 rfl (fun _ hw => Rd.el (off := 0) (k := 2) (rdN (hw.slf0 hS) (by omega) (by omega)) rfl)) ?_
        refine WH.take 9 rfl (Pf_blind _ _ _ _ _) (by kernel_rfl) (by kernel_rfl) (by kernel_rfl) (.refl _) (Gt rfl rfl rfl h12) rfl rfl (.fa rfl FA_42_0 rfl) ?_
        refine WH.take 10 rfl (Pf_blind _ _ _ _ _) (by kernel_rfl) (by kernel_rfl) (by kernel_rfl) (.refl _) (Gt rfl rfl rfl h12) rfl rfl (.loadK (vs := [_, _]) rfl AG_39 rfl (fun _ hw => hw.rd_blk (k := 2) 0 rfl rfl)) ?_
        refine WH.dw 11 rfl (by kernel_rfl) (Gt rfl rfl rfl h12) rfl rfl (.callv (caps := []) rfl rfl rfl EN_107 (fun w hw => dcmpF _ _ w)) ?_
        rintro _ _ ⟨rfl, rfl⟩
        refine ⟨(.refl _), ?_⟩
        refine WH.take 12 rfl (Pf_blind _ _ _ _ _) (by kernel_rfl) (by kernel_rfl) (by kernel_rfl) (.refl _) (Gt rfl rfl rfl h12) rfl rfl (.geq rfl rfl rfl) ?_
        refine WH.take 13 rfl (Pf_blind _ _ _ _ _) (by kernel_rfl) (by kernel_rfl) (by kernel_rfl) (.refl _) (G0 rfl) rfl rfl (.pick_t rfl rfl h12 rfl) ?_
        refine WH.take 14 rfl (Pf_blind _ _ _ _ _) (by kernel_rfl) (by kernel_rfl) (by kernel_rfl) (.refl _) (G0 rfl) rfl rfl (.assign rfl rfl) ?_
        refine WH.done (by kernel_rfl) ?_
        refine WA.cond rfl (fun h15 => ?_) (fun h15 => ?_)
        · have f16 := h15
          try simp only [decide_eq_true_eq, decide_eq_false_iff_not, Bool.not_eq_true', Bool.not_eq_false', Int.not_lt, Int.not_le] at f16
          refine WA.seq ?_
          refine WA.region ?_
          refine WR.val (G0 rfl) rfl rfl (.assign rfl rfl) ?_
          refine WR.nil ?_
          have hE : flawN l i = 2 := by
            rw [flawC]
            repeat' split
            all_goals first | rfl | omega | (exfalso; simp_all; done) | (exfalso; simp_all; omega)
          exact WA.ret1 rfl rfl (List.nil_sublist _) ⟨by rw [hE], rfl⟩
        · have f17 := h15
          try simp only [decide_eq_true_eq, decide_eq_false_iff_not, Bool.not_eq_true', Bool.not_eq_false', Int.not_lt, Int.not_le] at f17
          refine WA.seq ?_
          refine WA.region ?_
          refine WR.val (G0 rfl) rfl rfl (.move rfl rfl) ?_
          refine WR.val (G0 rfl) rfl rfl (.not rfl rfl) ?_
          refine WR.val (G0 rfl) rfl rfl (.move rfl rfl) ?_
          refine WR.split (d := 47) rfl (fun h19 => ?_) (fun h19 => ?_)
          · have f20 := h19
            try simp only [decide_eq_true_eq, decide_eq_false_iff_not, Bool.not_eq_true', Bool.not_eq_false', Int.not_lt, Int.not_le] at f20
            refine WR.val (Gt rfl rfl rfl h19) rfl rfl (.move rfl rfl) ?_
            refine WR.val (Gt rfl rfl rfl h19) rfl rfl (.not rfl rfl) ?_
            refine WR.val (G0 rfl) rfl rfl (.pick_t rfl rfl h19 rfl) ?_
            refine WR.val (G0 rfl) rfl rfl (.assign rfl rfl) ?_
            refine WR.nil ?_
            refine WA.cond rfl (fun h22 => ?_) (fun h22 => ?_)
            · have f23 := h22
              try simp only [decide_eq_true_eq, decide_eq_false_iff_not, Bool.not_eq_true', Bool.not_eq_false', Int.not_lt, Int.not_le] at f23
              refine WA.seq ?_
              refine WA.region ?_
              refine WR.val (G0 rfl) rfl rfl (.assign rfl rfl) ?_
              refine WR.nil ?_
              have hE : flawN l i = 3 := by
                rw [flawC]
                repeat' split
                all_goals first | rfl | omega | (exfalso; simp_all; done) | (exfalso; simp_all; omega)
              exact WA.ret1 rfl rfl (List.nil_sublist _) ⟨by rw [hE], rfl⟩
            · have f24 := h22
              try simp only [decide_eq_true_eq, decide_eq_false_iff_not, Bool.not_eq_true', Bool.not_eq_false', Int.not_lt, Int.not_le] at f24
              refine WA.seq ?_
              refine WA.draws0 follows ?_
              refine WH.take 0 rfl (Pf_blind _ _ _ _ _) (by kernel_rfl) (by kernel_rfl) (by kernel_rfl) (.refl _) (G0 rfl) rfl rfl (.move rfl rfl) ?_
              refine WH.take 1 rfl (Pf_blind _ _ _ _ _) (by kernel_rfl) (by kernel_rfl) (by kernel_rfl) (.refl _) (G0 rfl) rfl rfl (.not rfl rfl) ?_
              refine WH.take 2 rfl (Pf_blind _ _ _ _ _) (by kernel_rfl) (by kernel_rfl) (by kernel_rfl) (.refl _) (G0 rfl) rfl rfl (.move rfl rfl) ?_
              refine WH.split (d := 54) rfl (fun h26 => ?_) (fun h26 => ?_)
              · have f27 := h26
                try simp only [decide_eq_true_eq, decide_eq_false_iff_not, Bool.not_eq_true', Bool.not_eq_false', Int.not_lt, Int.not_le] at f27
                refine WH.take 3 rfl (Pf_blind _ _ _ _ _) (by kernel_rfl) (by kernel_rfl) (by kernel_rfl) (.refl _) (Gt rfl rfl rfl h26) rfl rfl (.move rfl rfl) ?_
                refine WH.take 4 rfl (Pf_blind _ _ _ _ _) (by kernel_rfl) (by kernel_rfl) (by kernel_rfl) (.refl _) (Gt rfl rfl rfl h26) rfl rfl (.move rfl rfl) ?_
                refine WH.take 5 rfl (Pf_blind _ _ _ _ _) (by kernel_rfl) (by kernel_rfl) (by kernel_rfl) (.refl _) (Gt rfl rfl rfl h26) rfl rfl (.ix rfl ST_22 rfl rfl (by omega) (by omega) (fun _ hw hn => (hw.slf0 hS).some_ hn)) ?_
                refine WH.take 6 rfl (Pf_blind _ _ _ _ _) (by kernel_rfl) (by kernel_rfl) (by kernel_rfl) (.refl _) (Gt rfl rfl rfl h26) rfl rfl (.fe rfl FA_42_2 rfl) ?_
                refine WH.take 7 rfl (Pf_blind _ _ _ _ _) (by kernel_rfl) (by kernel_rfl) (by kernel_rfl) (.refl _) (Gt rfl rfl rfl h26) rfl rfl (.load1 rfl NA_3 rfl (fun _ hw => Rd.el (off := 4) (k := 1) (rdN (hw.slf0 hS) (by omega) (by omega)) rfl)) ?_
                refine WH.take 8 rfl (Pf_blind _ _ _ _ _) (by kernel_rfl) (by kernel_rfl) (by kernel_rfl) (.refl _) (Gt rfl rfl rfl h26) rfl rfl (.fa rfl FA_42_2 rfl) ?_
                refine WH.take 9 rfl (Pf_blind _ _ _ _ _) (by kernel_rfl) (by kernel_rfl) (by kernel_rfl) (.refl _) (Gt rfl rfl rfl h26) rfl rfl (.load1 rfl NA_3 rfl (fun _ hw => hw.rd_blk (k := 1) 0 rfl rfl)) ?_
                refine WH.take 10 rfl (Pf_blind _ _ _ _ _) (by kernel_rfl) (by kernel_rfl) (by kernel_rfl) (.refl _) (Gt rfl rfl rfl h26) rfl rfl (.geq rfl rfl rfl) ?_
                refine WH.take 11 rfl (Pf_blind _ _ _ _ _) (by kernel_rfl) (by kernel_rfl) (by kernel_rfl) (.refl _) (G0 rfl) rfl rfl (.pick_t rfl rfl h26 rfl) ?_
                refine WH.take 12 rfl (Pf_blind _ _ _ _ _) (by kernel_rfl) (by kernel_rfl) (by kernel_rfl) (.refl _) (G0 rfl) rfl rfl (.assign rfl rfl) ?_
                refine WH.done (by kernel_rfl) ?_
                refine WA.cond rfl (fun h29 => ?_) (fun h29 => ?_)
                · have f30 := h29
                  try simp only [decide_eq_true_eq, decide_eq_false_iff_not, Bool.not_eq_true', Bool.not_eq_false', Int.not_lt, Int.not_le] at f30
                  refine WA.seq ?_
                  refine WA.region ?_
                  refine WR.val (G0 rfl) rfl rfl (.assign rfl rfl) ?_
                  refine WR.nil ?_
                  have hE : flawN l i = 4 := by
                    rw [flawC]
                    repeat' split
                    all_goals first | rfl | omega | (exfalso; simp_all; done) | (exfalso; simp_all; omega)
                  exact WA.ret1 rfl rfl (List.nil_sublist _) ⟨by rw [hE], rfl⟩
                · have f31 := h29
                  try simp only [decide_eq_true_eq, decide_eq_false_iff_not, Bool.not_eq_true', Bool.not_eq_false', Int.not_lt, Int.not_le] at f31
                  refine WA.skip ?_
                  refine WA.mark ?_
                  refine WA.seq ?_
                  refine WA.region ?_
                  refine WR.val (G0 rfl) rfl rfl (.assign rfl rfl) ?_
                  refine WR.nil ?_
                  have hE : flawN l i = 0 := by
                    rw [flawC]
                    repeat' split
                    all_goals first | rfl | omega | (exfalso; simp_all; done) | (exfalso; simp_all; omega)
                  exact WA.ret1 rfl rfl (List.nil_sublist _) ⟨by rw [hE], rfl⟩
              · have f32 := h26
                try simp only [decide_eq_true_eq, decide_eq_false_iff_not, Bool.not_eq_true', Bool.not_eq_false', Int.not_lt, Int.not_le] at f32
                refine WH.off 3 rfl (Pf_blind _ _ _ _ _) (by kernel_rfl) (by kernel_rfl) (by kernel_rfl) (.refl _) (Gf rfl rfl rfl h26) rfl rfl ?_
                refine WH.off 4 rfl (Pf_blind _ _ _ _ _) (by kernel_rfl) (by kernel_rfl) (by kernel_rfl) (.refl _) (Gf rfl rfl rfl h26) rfl rfl ?_
                refine WH.off 5 rfl (Pf_blind _ _ _ _ _) (by kernel_rfl) (by kernel_rfl) (by kernel_rfl) (.refl _) (Gf rfl rfl rfl h26) rfl rfl ?_
                refine WH.off 6 rfl (Pf_blind _ _ _ _ _) (by kernel_rfl) (by kernel_rfl) (by kernel_rfl) (.refl _) (Gf rfl rfl rfl h26) rfl rfl ?_
                refine WH.off 7 rfl (Pf_blind _ _ _ _ _) (by kernel_rfl) (by kernel_rfl) (by kernel_rfl) (.refl _) (Gf rfl rfl rfl h26) rfl rfl ?_
                refine WH.off 8 rfl (Pf_blind _ _ _ _ _) (by kernel_rfl) (by kernel_rfl) (by kernel_rfl) (.refl _) (Gf rfl rfl rfl h26) rfl rfl ?_
                refine WH.off 9 rfl (Pf_blind _ _ _ _ _) (by kernel_rfl) (by kernel_rfl) (by kernel_rfl) (.refl _) (Gf rfl rfl rfl h26) rfl rfl ?_
                refine WH.off 10 rfl (Pf_blind _ _ _ _ _) (by kernel_rfl) (by kernel_rfl) (by kernel_rfl) (.refl _) (Gf rfl rfl rfl h26) rfl rfl ?_
                refine WH.take 11 rfl (Pf_blind _ _ _ _ _) (by kernel_rfl) (by kernel_rfl) (by kernel_rfl) (.refl _) (G0 rfl) rfl rfl (.pick_f rfl rfl h26 rfl) ?_
                refine WH.take 12 rfl (Pf_blind _ _ _ _ _) (by kernel_rfl) (by kernel_rfl) (by kernel_rfl) (.refl _) (G0 rfl) rfl rfl (.assign rfl rfl) ?_
                refine WH.done (by kernel_rfl) ?_
                refine WA.cond_f rfl rfl ?_
                refine WA.skip ?_
                refine WA.mark ?_
                refine WA.seq ?_
                refine WA.region ?_
                refine WR.val (G0 rfl) rfl rfl (.assign rfl rfl) ?_
                refine WR.nil ?_
                have hE : flawN l i = 0 := by
                  rw [flawC]
                  repeat' split
                  all_goals first | rfl | omega | (exfalso; simp_all; done) | (exfalso; simp_all; omega)
                exact WA.ret1 rfl rfl (List.nil_sublist _) ⟨by rw [hE], rfl⟩
          · have f33 := h19
            try simp only [decide_eq_true_eq, decide_eq_false_iff_not, Bool.not_eq_true', Bool.not_eq_false', Int.not_lt, Int.not_le] at f33
            refine WR.off (Gf rfl rfl rfl h19) rfl rfl ?_
            refine WR.off (Gf rfl rfl rfl h19) rfl rfl ?_
            refine WR.val (G0 rfl) rfl rfl (.pick_f rfl rfl h19 rfl) ?_
            refine WR.val (G0 rfl) rfl rfl (.assign rfl rfl) ?_
            refine WR.nil ?_
            refine WA.cond_f rfl rfl ?_
            refine WA.seq ?_
            refine WA.draws0 follows ?_
            refine WH.take 0 rfl (Pf_blind _ _ _ _ _) (by kernel_rfl) (by kernel_rfl) (by kernel_rfl) (.refl _) (G0 rfl) rfl rfl (.move rfl rfl) ?_
            refine WH.take 1 rfl (Pf_blind _ _ _ _ _) (by kernel_rfl) (by kernel_rfl) (by kernel_rfl) (.refl _) (G0 rfl) rfl rfl (.not rfl rfl) ?_
            refine WH.take 2 rfl (Pf_blind _ _ _ _ _) (by kernel_rfl) (by kernel_rfl) (by kernel_rfl) (.refl _) (G0 rfl) rfl rfl (.move rfl rfl) ?_
            refine WH.split (d := 54) rfl (fun h35 => ?_) (fun h35 => ?_)
            · have f36 := h35
              try simp only [decide_eq_true_eq, decide_eq_false_iff_not, Bool.not_eq_true', Bool.not_eq_false', Int.not_lt, Int.not_le] at f36
              refine WH.take 3 rfl (Pf_blind _ _ _ _ _) (by kernel_rfl) (by kernel_rfl) (by kernel_rfl) (.refl _) (Gt rfl rfl rfl h35) rfl rfl (.move rfl rfl) ?_
              refine WH.take 4 rfl (Pf_blind _ _ _ _ _) (by kernel_rfl) (by kernel_rfl) (by kernel_rfl) (.refl _) (Gt rfl rfl rfl h35) rfl rfl (.move rfl rfl) ?_
              refine WH.take 5 rfl (Pf_blind _ _ _ _ _) (by kernel_rfl) (by kernel_rfl) (by kernel_rfl) (.refl _) (Gt rfl rfl rfl h35) rfl rfl (.ix rfl ST_22 rfl rfl (by omega) (by omega) (fun _ hw hn => (hw.slf0 hS).some_ hn)) ?_
              refine WH.take 6 rfl (Pf_blind _ _ _ _ _) (by kernel_rfl) (by kernel_rfl) (by kernel_rfl) (.refl _) (Gt rfl rfl rfl h35) rfl rfl (.fe rfl FA_42_2 rfl) ?_
              refine WH.take 7 rfl (Pf_blind _ _ _ _ _) (by kernel_rfl) (by kernel_rfl) (by kernel_rfl) (.refl _) (Gt rfl rfl rfl h35) rfl rfl (.load1 rfl NA_3 rfl (fun _ hw => Rd.el (off := 4) (k := 1) (rdN (hw.slf0 hS) (by omega) (by omega)) rfl)) ?_
              refine WH.take 8 rfl (Pf_blind _ _ _ _ _) (by kernel_rfl) (by kernel_rfl) (by kernel_rfl) (.refl _) (Gt rfl rfl rfl h35) rfl rfl (.fa rfl FA_42_2 rfl) ?_
              refine WH.take 9 rfl (Pf_blind _ _ _ _ _) (by kernel_rfl) (by kernel_rfl) (by kernel_rfl) (.refl _) (Gt rfl rfl rfl h35) rfl rfl (.load1 rfl NA_3 rfl (fun _ hw => hw.rd_blk (k := 1) 0 rfl rfl)) ?_
              refine WH.take 10 rfl (Pf_blind _ _ _ _ _) (by kernel_rfl) (by kernel_rfl) (by kernel_rfl) (.refl _) (Gt rfl rfl rfl h35) rfl rfl (.geq rfl rfl rfl) ?_
              refine WH.take 11 rfl (Pf_blind _ _ _ _ _) (by kernel_rfl) (by kernel_rfl) (by kernel_rfl) (.refl _) (G0 rfl) rfl rfl (.pick_t rfl rfl h35 rfl) ?_
              refine WH.take 12 rfl (Pf_blind _ _ _ _ _) (by kernel_rfl) (by kernel_rfl) (by kernel_rfl) (.refl _) (G0 rfl) rfl rfl (.assign rfl rfl) ?_
              refine WH.done (by kernel_rfl) ?_
              refine WA.cond rfl (fun h38 => ?_) (fun h38 => ?_)
              · have f39 := h38
                try simp only [decide_eq_true_eq, decide_eq_false_iff_not, Bool.not_eq_true', Bool.not_eq_false', Int.not_lt, Int.not_le] at f39
                refine WA.seq ?_
                refine WA.region ?_
                refine WR.val (G0 rfl) rfl rfl (.assign rfl rfl) ?_
                refine WR.nil ?_
                have hE : flawN l i = 4 := by
                  rw [flawC]
                  repeat' split
                  all_goals first | rfl | omega | (exfalso; simp_all; done) | (exfalso; simp_all; omega)
                exact WA.ret1 rfl rfl (List.nil_sublist _) ⟨by rw [hE], rfl⟩
              · have f40 := h38
                try simp only [decide_eq_true_eq, decide_eq_false_iff_not, Bool.not_eq_true', Bool.not_eq_false', Int.not_lt, Int.not_le] at f40
                refine WA.skip ?_
                refine WA.mark ?_
                refine WA.seq ?_
                refine WA.region ?_
                refine WR.val (G0 rfl) rfl rfl (.assign rfl rfl) ?_
                refine WR.nil ?_
                have hE : flawN l i = 0 := by
                  rw [flawC]
                  repeat' split
                  all_goals first | rfl | omega | (exfalso; simp_all; done) | (exfalso; simp_all; omega)
                exact WA.ret1 rfl rfl (List.nil_sublist _) ⟨by rw [hE], rfl⟩
            · have f41 := h35
              try simp only [decide_eq_true_eq, decide_eq_false_iff_not, Bool.not_eq_true', Bool.not_eq_false', Int.not_lt, Int.not_le] at f41
              refine WH.off 3 rfl (Pf_blind _ _ _ _ _) (by kernel_rfl) (by kernel_rfl) (by kernel_rfl) (.refl _) (Gf rfl rfl rfl h35) rfl rfl ?_
              refine WH.off 4 rfl (Pf_blind _ _ _ _ _) (by kernel_rfl) (by kernel_rfl) (by kernel_rfl) (.refl _) (Gf rfl rfl rfl h35) rfl rfl ?_
              refine WH.off 5 rfl (Pf_blind _ _ _ _ _) (by kernel_rfl) (by kernel_rfl) (by kernel_rfl) (.refl _) (Gf rfl rfl rfl h35) rfl rfl ?_
              refine WH.off 6 rfl (Pf_blind _ _ _ _ _) (by kernel_rfl) (by kernel_rfl) (by kernel_rfl) (.refl _) (Gf rfl rfl rfl h35) rfl rfl ?_
              refine WH.off 7 rfl (Pf_blind _ _ _ _ _) (by kernel_rfl) (by kernel_rfl) (by kernel_rfl) (.refl _) (Gf rfl rfl rfl h35) rfl rfl ?_
              refine WH.off 8 rfl (Pf_blind _ _ _ _ _) (by kernel_rfl) (by kernel_rfl) (by kernel_rfl) (.refl _) (Gf rfl rfl rfl h35) rfl rfl ?_
              refine WH.off 9 rfl (Pf_blind _ _ _ _ _) (by kernel_rfl) (by kernel_rfl) (by kernel_rfl) (.refl _) (Gf rfl rfl rfl h35) rfl rfl ?_
              refine WH.off 10 rfl (Pf_blind _ _ _ _ _) (by kernel_rfl) (by kernel_rfl) (by kernel_rfl) (.refl _) (Gf rfl rfl rfl h35) rfl rfl ?_
              refine WH.take 11 rfl (Pf_blind _ _ _ _ _) (by kernel_rfl) (by kernel_rfl) (by kernel_rfl) (.refl _) (G0 rfl) rfl rfl (.pick_f rfl rfl h35 rfl) ?_
              refine WH.take 12 rfl (Pf_blind _ _ _ _ _) (by kernel_rfl) (by kernel_rfl) (by kernel_rfl) (.refl _) (G0 rfl) rfl rfl (.assign rfl rfl) ?_
              refine WH.done (by kernel_rfl) ?_
              refine WA.cond_f rfl rfl ?_
              refine WA.skip ?_
              refine WA.mark ?_
              refine WA.seq ?_
              refine WA.region ?_
              refine WR.val (G0 rfl) rfl rfl (.assign rfl rfl) ?_
              refine WR.nil ?_
              have hE : flawN l i = 0 := by
                rw [flawC]
                repeat' split
                all_goals first | rfl | omega | (exfalso; simp_all; done) | (exfalso; simp_all; omega)
              exact WA.ret1 rfl rfl (List.nil_sublist _) ⟨by rw [hE], rfl⟩
      · have f42 := h12
        try simp only [decide_eq_true_eq, decide_eq_false_iff_not, Bool.not_eq_true', Bool.not_eq_false', Int.not_lt, Int.not_le] at f42
        refine WH.off 3 rfl (Pf_blind _ _ _ _ _) (by kernel_rfl) (by kernel_rfl) (by kernel_rfl) (.refl _) (Gf rfl rfl rfl h12) rfl rfl ?_
        refine WH.off 4 rfl (Pf_blind _ _ _ _ _) (by kernel_rfl) (by kernel_rfl) (by kernel_rfl) (.refl _) (Gf rfl rfl rfl h12) rfl rfl ?_
        refine WH.off 5 rfl (Pf_blind _ _ _ _ _) (by kernel_rfl) (by kernel_rfl) (by kernel_rfl) (.refl _) (Gf rfl rfl rfl h12) rfl rfl ?_
        refine WH.off 6 rfl (Pf_blind _ _ _ _ _) (by kernel_rfl) (by kernel_rfl) (by kernel_rfl) (.refl _) (Gf rfl rfl rfl h12) rfl rfl ?_
        refine WH.off 7 rfl (Pf_blind _ _ _ _ _) (by kernel_rfl) (by kernel_rfl) (by kernel_rfl) (.refl _) (Gf rfl rfl rfl h12) rfl rfl ?_
        refine WH.off 8 rfl (Pf_blind _ _ _ _ _) (by kernel_rfl) (by kernel_rfl) (by kernel_rfl) (.refl _) (Gf rfl rfl rfl h12) rfl rfl ?_
        refine WH.off 9 rfl (Pf_blind _ _ _ _ _) (by kernel_rfl) (by kernel_rfl) (by kernel_rfl) (.refl _) (Gf rfl rfl rfl h12) rfl rfl ?_
        refine WH.off 10 rfl (Pf_blind _ _ _ _ _) (by kernel_rfl) (by kernel_rfl) (by kernel_rfl) (.refl _) (Gf rfl rfl rfl h12) rfl rfl ?_
        refine WH.off 11 rfl (Pf_blind _ _ _ _ _) (by kernel_rfl) (by kernel_rfl) (by kernel_rfl) (.refl _) (Gf rfl rfl rfl h12) rfl rfl ?_
        refine WH.off 12 rfl (Pf_blind _ _ _ _ _) (by kernel_rfl) (by kernel_rfl) (by kernel_rfl) (.refl _) (Gf rfl rfl rfl h12) rfl rfl ?_
        refine WH.take 13 rfl (Pf_blind _ _ _ _ _) (by kernel_rfl) (by kernel_rfl) (by kernel_rfl) (.refl _) (G0 rfl) rfl rfl (.pick_f rfl rfl h12 rfl) ?_
        refine WH.take 14 rfl (Pf_blind _ _ _ _ _) (by kernel_rfl) (by kernel_rfl) (by kernel_rfl) (.refl _) (G0 rfl) rfl rfl (.assign rfl rfl) ?_
        refine WH.done (by kernel_rfl) ?_
        refine WA.cond_f rfl rfl ?_
        refine WA.seq ?_
        refine WA.region ?_
        refine WR.val (G0 rfl) rfl rfl (.move rfl rfl) ?_
        refine WR.val (G0 rfl) rfl rfl (.not rfl rfl) ?_
        refine WR.val (G0 rfl) rfl rfl (.move rfl rfl) ?_
        refine WR.split (d := 47) rfl (fun h44 => ?_) (fun h44 => ?_)
        · have f45 := h44
          try simp only [decide_eq_true_eq, decide_eq_false_iff_not, Bool.not_eq_true', Bool.not_eq_false', Int.not_lt, Int.not_le] at f45
          refine WR.val (Gt rfl rfl rfl h44) rfl rfl (.move rfl rfl) ?_
          refine WR.val (Gt rfl rfl rfl h44) rfl rfl (.not rfl rfl) ?_
          refine WR.val (G0 rfl) rfl rfl (.pick_t rfl rfl h44 rfl) ?_
          refine WR.val (G0 rfl) rfl rfl (.assign rfl rfl) ?_
          refine WR.nil ?_
          refine WA.cond rfl (fun h47 => ?_) (fun h47 => ?_)
          · have f48 := h47
            try simp only [decide_eq_true_eq, decide_eq_false_iff_not, Bool.not_eq_true', Bool.not_eq_false', Int.not_lt, Int.not_le] at f48
            refine WA.seq ?_
            refine WA.region ?_
            refine WR.val (G0 rfl) rfl rfl (.assign rfl rfl) ?_
            refine WR.nil ?_
            have hE : flawN l i = 3 := by
              rw [flawC]
              repeat' split
              all_goals first | rfl | omega | (exfalso; simp_all; done) | (exfalso; simp_all; omega)
            exact WA.ret1 rfl rfl (List.nil_sublist _) ⟨by rw [hE], rfl⟩
          · have f49 := h47
            try simp only [decide_eq_true_eq, decide_eq_false_iff_not, Bool.not_eq_true', Bool.not_eq_false', Int.not_lt, Int.not_le] at f49
            refine WA.seq ?_
            refine WA.draws0 follows ?_
            refine WH.take 0 rfl (Pf_blind _ _ _ _ _) (by kernel_rfl) (by kernel_rfl) (by kernel_rfl) (.refl _) (G0 rfl) rfl rfl (.move rfl rfl) ?_
            refine WH.take 1 rfl (Pf_blind _ _ _ _ _) (by kernel_rfl) (by kernel_rfl) (by kernel_rfl) (.refl _) (G0 rfl) rfl rfl (.not rfl rfl) ?_
            refine WH.take 2 rfl (Pf_blind _ _ _ _ _) (by kernel_rfl) (by kernel_rfl) (by kernel_rfl) (.refl _) (G0 rfl) rfl rfl (.move rfl rfl) ?_
            refine WH.split (d := 54) rfl (fun h51 => ?_) (fun h51 => ?_)
            · have f52 := h51
              try simp only [decide_eq_true_eq, decide_eq_false_iff_not, Bool.not_eq_true', Bool.not_eq_false', Int.not_lt, Int.not_le] at f52
              refine WH.take 3 rfl (Pf_blind _ _ _ _ _) (by kernel_rfl) (by kernel_rfl) (by kernel_rfl) (.refl _) (Gt rfl rfl rfl h51) rfl rfl (.move rfl rfl) ?_
              refine WH.take 4 rfl (Pf_blind _ _ _ _ _) (by kernel_rfl) (by kernel_rfl) (by kernel_rfl) (.refl _) (Gt rfl rfl rfl h51) rfl rfl (.move rfl rfl) ?_
              refine WH.take 5 rfl (Pf_blind _ _ _ _ _) (by kernel_rfl) (by kernel_rfl) (by kernel_rfl) (.refl _) (Gt rfl rfl rfl h51) rfl rfl (.ix rfl ST_22 rfl rfl (by omega) (by omega) (fun _ hw hn => (hw.slf0 hS).some_ hn)) ?_
              refine WH.take 6 rfl (Pf_blind _ _ _ _ _) (by kernel_rfl) (by kernel_rfl) (by kernel_rfl) (.refl _) (Gt rfl rfl rfl h51) rfl rfl (.fe rfl FA_42_2 rfl) ?_
              refine WH.take 7 rfl (Pf_blind _ _ _ _ _) (by kernel_rfl) (by kernel_rfl) (by kernel_rfl) (.refl _) (Gt rfl rfl rfl h51) rfl rfl (.load1 rfl NA_3 rfl (fun _ hw => Rd.el (off := 4) (k := 1) (rdN (hw.slf0 hS) (by omega) (by omega)) rfl)) ?_
              refine WH.take 8 rfl (Pf_blind _ _ _ _ _) (by kernel_rfl) (by kernel_rfl) (by kernel_rfl) (.refl _) (Gt rfl rfl rfl h51) rfl rfl (.fa rfl FA_42_2 rfl) ?_
              refine WH.take 9 rfl (Pf_blind _ _ _ _ _) (by kernel_rfl) (by kernel_rfl) (by kernel_rfl) (.refl _) (Gt rfl rfl rfl h51) rfl rfl (.load1 rfl NA_3 rfl (fun _ hw => hw.rd_blk (k := 1) 0 rfl rfl)) ?_
              refine WH.take 10 rfl (Pf_blind _ _ _ _ _) (by kernel_rfl) (by kernel_rfl) (by kernel_rfl) (.refl _) (Gt rfl rfl rfl h51) rfl rfl (.geq rfl rfl rfl) ?_
              refine WH.take 11 rfl (Pf_blind _ _ _ _ _) (by kernel_rfl) (by kernel_rfl) (by kernel_rfl) (.refl _) (G0 rfl) rfl rfl (.pick_t rfl rfl h51 rfl) ?_
              refine WH.take 12 rfl (Pf_blind _ _ _ _ _) (by kernel_rfl) (by kernel_rfl) (by kernel_rfl) (.refl _) (G0 rfl) rfl rfl (.assign rfl rfl) ?_
              refine WH.done (by kernel_rfl) ?_
              refine WA.cond rfl (fun h54 => ?_) (fun h54 => ?_)
              · have f55 := h54
                try simp only [decide_eq_true_eq, decide_eq_false_iff_not, Bool.not_eq_true', Bool.not_eq_false', Int.not_lt, Int.not_le] at f55
                refine WA.seq ?_
                refine WA.region ?_
                refine WR.val (G0 rfl) rfl rfl (.assign rfl rfl) ?_
                refine WR.nil ?_
                have hE : flawN l i = 4 := by
                  rw [flawC]
                  repeat' split
                  all_goals first | rfl | omega | (exfalso; simp_all; done) | (exfalso; simp_all; omega)
                exact WA.ret1 rfl rfl (List.nil_sublist _) ⟨by rw [hE], rfl⟩
              · have f56 := h54
                try simp only [decide_eq_true_eq, decide_eq_false_iff_not, Bool.not_eq_true', Bool.not_eq_false', Int.not_lt, Int.not_le] at f56
                refine WA.skip ?_
                refine WA.mark ?_
                refine WA.seq ?_
                refine WA.region ?_
                refine WR.val (G0 rfl) rfl rfl (.assign rfl rfl) ?_
                refine WR.nil ?_
                have hE : flawN l i = 0 := by
                  rw [flawC]
                  repeat' split
                  all_goals first | rfl | omega | (exfalso; simp_all; done) | (exfalso; simp_all; omega)
                exact WA.ret1 rfl rfl (List.nil_sublist _) ⟨by rw [hE], rfl⟩
            · have f57 := h51
              try simp only [decide_eq_true_eq, decide_eq_false_iff_not, Bool.not_eq_true', Bool.not_eq_false', Int.not_lt, Int.not_le] at f57
              refine WH.off 3 rfl (Pf_blind _ _ _ _ _) (by kernel_rfl) (by kernel_rfl) (by kernel_rfl) (.refl _) (Gf rfl rfl rfl h51) rfl rfl ?_
              refine WH.off 4 rfl (Pf_blind _ _ _ _ _) (by kernel_rfl) (by kernel_rfl) (by kernel_rfl) (.refl _) (Gf rfl rfl rfl h51) rfl rfl ?_
              refine WH.off 5 rfl (Pf_blind _ _ _ _ _) (by kernel_rfl) (by kernel_rfl) (by kernel_rfl) (.refl _) (Gf rfl rfl rfl h51) rfl rfl ?_
              refine WH.off 6 rfl (Pf_blind _ _ _ _ _) (by kernel_rfl) (by kernel_rfl) (by kernel_rfl) (.refl _) (Gf rfl rfl rfl h51) rfl rfl ?_
              refine WH.off 7 rfl (Pf_blind _ _ _ _ _) (by kernel_rfl) (by kernel_rfl) (by kernel_rfl) (.refl _) (Gf rfl rfl rfl h51) rfl rfl ?_
              refine WH.off 8 rfl (Pf_blind _ _ _ _ _) (by kernel_rfl) (by kernel_rfl) (by kernel_rfl) (.refl _) (Gf rfl rfl rfl h51) rfl rfl ?_
              refine WH.off 9 rfl (Pf_blind _ _ _ _ _) (by kernel_rfl) (by kernel_rfl) (by kernel_rfl) (.refl _) (Gf rfl rfl rfl h51) rfl rfl ?_
              refine WH.off 10 rfl (Pf_blind _ _ _ _ _) (by kernel_rfl) (by kernel_rfl) (by kernel_rfl) (.refl _) (Gf rfl rfl rfl h51) rfl rfl ?_
              refine WH.take 11 rfl (Pf_blind _ _ _ _ _) (by kernel_rfl) (by kernel_rfl) (by kernel_rfl) (.refl _) (G0 rfl) rfl rfl (.pick_f rfl rfl h51 rfl) ?_
              refine WH.take 12 rfl (Pf_blind _ _ _ _ _) (by kernel_rfl) (by kernel_rfl) (by kernel_rfl) (.refl _) (G0 rfl) rfl rfl (.assign rfl rfl) ?_
              refine WH.done (by kernel_rfl) ?_
              refine WA.cond_f rfl rfl ?_
              refine WA.skip ?_
              refine WA.mark ?_
              refine WA.seq ?_
              refine WA.region ?_
              refine WR.val (G0 rfl) rfl rfl (.assign rfl rfl) ?_
              refine WR.nil ?_
              have hE : flawN l i = 0 := by
                rw [flawC]
                repeat' split
                all_goals first | rfl | omega | (exfalso; simp_all; done) | (exfalso; simp_all; omega)
              exact WA.ret1 rfl rfl (List.nil_sublist _) ⟨by rw [hE], rfl⟩
        · have f58 := h44
          try simp only [decide_eq_true_eq, decide_eq_false_iff_not, Bool.not_eq_true', Bool.not_eq_false', Int.not_lt, Int.not_le] at f58
          refine WR.off (Gf rfl rfl rfl h44) rfl rfl ?_
          refine WR.off (Gf rfl rfl rfl h44) rfl rfl ?_
          refine WR.val (G0 rfl) rfl rfl (.pick_f rfl rfl h44 rfl) ?_
          refine WR.val (G0 rfl) rfl rfl (.assign rfl rfl) ?_
          refine WR.nil ?_
          refine WA.cond_f rfl rfl ?_
          refine WA.seq ?_
          refine WA.draws0 follows ?_
          refine WH.take 0 rfl (Pf_blind _ _ _ _ _) (by kernel_rfl) (by kernel_rfl) (by kernel_rfl) (.refl _) (G0 rfl) rfl rfl (.move rfl rfl) ?_
          refine WH.take 1 rfl (Pf_blind _ _ _ _ _) (by kernel_rfl) (by kernel_rfl) (by kernel_rfl) (.refl _) (G0 rfl) rfl rfl (.not rfl rfl) ?_
          refine WH.take 2 rfl (Pf_blind _ _ _ _ _) (by kernel_rfl) (by kernel_rfl) (by kernel_rfl) (.refl _) (G0 rfl) rfl rfl (.move rfl rfl) ?_
          refine WH.split (d := 54) rfl (fun h60 => ?_) (fun h60 => ?_)
          · have f61 := h60
            try simp only [decide_eq_true_eq, decide_eq_false_iff_not, Bool.not_eq_true', Bool.not_eq_false', Int.not_lt, Int.not_le] at f61
            refine WH.take 3 rfl (Pf_blind _ _ _ _ _) (by kernel_rfl) (by kernel_rfl) (by kernel_rfl) (.refl _) (Gt rfl rfl rfl h60) rfl rfl (.move rfl rfl) ?_
            refine WH.take 4 rfl (Pf_blind _ _ _ _ _) (by kernel_rfl) (by kernel_rfl) (by kernel_rfl) (.refl _) (Gt rfl rfl rfl h60) rfl rfl (.move rfl rfl) ?_
            refine WH.take 5 rfl (Pf_blind _ _ _ _ _) (by kernel_rfl) (by kernel_rfl) (by kernel_rfl) (.refl _) (Gt rfl rfl rfl h60) rfl rfl (.ix rfl ST_22 rfl rfl (by omega) (by omega) (fun _ hw hn => (hw.slf0 hS).some_ hn)) ?_
            refine WH.take 6 rfl (Pf_blind _ _ _ _ _) (by kernel_rfl) (by kernel_rfl) (by kernel_rfl) (.refl _) (Gt rfl rfl rfl h60) rfl rfl (.fe rfl FA_42_2 rfl) ?_
            refine WH.take 7 rfl (Pf_blind _ _ _ _ _) (by kernel_rfl) (by kernel_rfl) (by kernel_rfl) (.refl _) (Gt rfl rfl rfl h60) rfl rfl (.load1 rfl NA_3 rfl (fun _ hw => Rd.el (off := 4) (k := 1) (rdN (hw.slf0 hS) (by omega) (by omega)) rfl)) ?_
            refine WH.take 8 rfl (Pf_blind _ _ _ _ _) (by kernel_rfl) (by kernel_rfl) (by kernel_rfl) (.refl _) (Gt rfl rfl rfl h60) rfl rfl (.fa rfl FA_42_2 rfl) ?_
            refine WH.take 9 rfl (Pf_blind _ _ _ _ _) (by kernel_rfl) (by kernel_rfl) (by kernel_rfl) (.refl _) (Gt rfl rfl rfl h60) rfl rfl (.load1 rfl NA_3 rfl (fun _ hw => hw.rd_blk (k := 1) 0 rfl rfl)) ?_
            refine WH.take 10 rfl (Pf_blind _ _ _ _ _) (by kernel_rfl) (by kernel_rfl) (by kernel_rfl) (.refl _) (Gt rfl rfl rfl h60) rfl rfl (.geq rfl rfl rfl) ?_
            refine WH.take 11 rfl (Pf_blind _ _ _ _ _) (by kernel_rfl) (by kernel_rfl) (by kernel_rfl) (.refl _) (G0 rfl) rfl rfl (.pick_t rfl rfl h60 rfl) ?_
            refine WH.take 12 rfl (Pf_blind _ _ _ _ _) (by kernel_rfl) (by kernel_rfl) (by kernel_rfl) (.refl _) (G0 rfl) rfl rfl (.assign rfl rfl) ?_
            refine WH.done (by kernel_rfl) ?_
            refine WA.cond rfl (fun h63 => ?_) (fun h63 => ?_)
            · have f64 := h63
              try simp only [decide_eq_true_eq, decide_eq_false_iff_not, Bool.not_eq_true', Bool.not_eq_false', Int.not_lt, Int.not_le] at f64
              refine WA.seq ?_
              refine WA.region ?_
              refine WR.val (G0 rfl) rfl rfl (.assign rfl rfl) ?_
              refine WR.nil ?_
              have hE : flawN l i = 4 := by
                rw [flawC]
                repeat' split
                all_goals first | rfl | omega | (exfalso; simp_all; done) | (exfalso; simp_all; omega)
              exact WA.ret1 rfl rfl (List.nil_sublist _) ⟨by rw [hE], rfl⟩
            · have f65 := h63
              try simp only [decide_eq_true_eq, decide_eq_false_iff_not, Bool.not_eq_true', Bool.not_eq_false', Int.not_lt, Int.not_le] at f65
              refine WA.skip ?_
              refine WA.mark ?_
              refine WA.seq ?_
              refine WA.region ?_
              refine WR.val (G0 rfl) rfl rfl (.assign rfl rfl) ?_
              refine WR.nil ?_
              have hE : flawN l i = 0 := by
                rw [flawC]
                repeat' split
                all_goals first | rfl | omega | (exfalso; simp_all; done) | (exfalso; simp_all; omega)
              exact WA.ret1 rfl rfl (List.nil_sublist _) ⟨by rw [hE], rfl⟩
          · have f66 := h60
            try simp only [decide_eq_true_eq, decide_eq_false_iff_not, Bool.not_eq_true', Bool.not_eq_false', Int.not_lt, Int.not_le] at f66
            refine WH.off 3 rfl (Pf_blind _ _ _ _ _) (by kernel_rfl) (by kernel_rfl) (by kernel_rfl) (.refl _) (Gf rfl rfl rfl h60) rfl rfl ?_
            refine WH.off 4 rfl (Pf_blind _ _ _ _ _) (by kernel_rfl) (by kernel_rfl) (by kernel_rfl) (.refl _) (Gf rfl rfl rfl h60) rfl rfl ?_
            refine WH.off 5 rfl (Pf_blind _ _ _ _ _) (by kernel_rfl) (by kernel_rfl) (by kernel_rfl) (.refl _) (Gf rfl rfl rfl h60) rfl rfl ?_
            refine WH.off 6 rfl (Pf_blind _ _ _ _ _) (by kernel_rfl) (by kernel_rfl) (by kernel_rfl) (.refl _) (Gf rfl rfl rfl h60) rfl rfl ?_
            refine WH.off 7 rfl (Pf_blind _ _ _ _ _) (by kernel_rfl) (by kernel_rfl) (by kernel_rfl) (.refl _) (Gf rfl rfl rfl h60) rfl rfl ?_
            refine WH.off 8 rfl (Pf_blind _ _ _ _ _) (by kernel_rfl) (by kernel_rfl) (by kernel_rfl) (.refl _) (Gf rfl rfl rfl h60) rfl rfl ?_
            refine WH.off 9 rfl (Pf_blind _ _ _ _ _) (by kernel_rfl) (by kernel_rfl) (by kernel_rfl) (.refl _) (Gf rfl rfl rfl h60) rfl rfl ?_
            refine WH.off 10 rfl (Pf_blind _ _ _ _ _) (by kernel_rfl) (by kernel_rfl) (by kernel_rfl) (.refl _) (Gf rfl rfl rfl h60) rfl rfl ?_
            refine WH.take 11 rfl (Pf_blind _ _ _ _ _) (by kernel_rfl) (by kernel_rfl) (by kernel_rfl) (.refl _) (G0 rfl) rfl rfl (.pick_f rfl rfl h60 rfl) ?_
            refine WH.take 12 rfl (Pf_blind _ _ _ _ _) (by kernel_rfl) (by kernel_rfl) (by kernel_rfl) (.refl _) (G0 rfl) rfl rfl (.assign rfl rfl) ?_
            refine WH.done (by kernel_rfl) ?_
            refine WA.cond_f rfl rfl ?_
            refine WA.skip ?_
            refine WA.mark ?_
            refine WA.seq ?_
            refine WA.region ?_
            refine WR.val (G0 rfl) rfl rfl (.assign rfl rfl) ?_
            refine WR.nil ?_
            have hE : flawN l i = 0 := by
              rw [flawC]
              repeat' split
              all_goals first | rfl | omega | (exfalso; simp_all; done) | (exfalso; simp_all; omega)
            exact WA.ret1 rfl rfl (List.nil_sublist _) ⟨by rw [hE], rfl⟩
  · have hmg := hm (gx l (i : Int)).p
    rw [if_neg h3] at hmg
    refine WA.region ?_
    refine WR.val (G0 rfl) rfl rfl (.move rfl rfl) ?_
    refine WR.val (G0 rfl) rfl rfl (.fa rfl FA_42_1 rfl) ?_
    refine WR.val (G0 rfl) rfl rfl (.loadK (vs := [_, _]) rfl AG_39 rfl (fun _ hw => hw.rd_blk (k := 2) 0 rfl rfl)) ?_
    refine WR.val (G0 rfl) rfl rfl (.lookupOk KT_39 rfl Tryz.underlying218 ZT_3 rfl rfl (fun _ hw => hw.mpf0 hM)) ?_
    refine WR.val (G0 rfl) rfl rfl (.move rfl rfl) ?_
    refine WR.val (G0 rfl) rfl rfl (.extract (vs := [_, _]) rfl rfl rfl) ?_
    refine WR.val (G0 rfl) rfl rfl (.extract (vs := [_, _]) rfl rfl rfl) ?_
    refine WR.val (G0 rfl) rfl rfl (.assign rfl rfl) ?_
    refine WR.val (G0 rfl) rfl rfl (.assign rfl rfl) ?_
    refine WR.nil ?_
    refine WA.seq ?_
    refine WA.seq ?_
    rw [hmg]
    have hfb := fnd_bd l (gx l (i : Int)).p
    refine WA.region ?_
    refine WR.val (G0 rfl) rfl rfl (.fa rfl FA_42_1 rfl) ?_
    refine WR.val (G0 rfl) rfl rfl (.loadK (vs := [_, _]) rfl AG_39 rfl (fun _ hw => hw.rd_blk (k := 2) 0 rfl rfl)) ?_
    refine WR.dw (G0 rfl) rfl rfl (.callv (caps := []) rfl rfl rfl EN_217 (fun w hw => drootF _ w)) ?_
    rintro _ _ ⟨rfl, rfl⟩
    refine WR.val (G0 rfl) rfl rfl (.assign rfl rfl) ?_
    refine WR.nil ?_
    refine WA.block ?_
    refine WA.seq ?_
    refine WA.region ?_
    refine WR.val (G0 rfl) rfl rfl (.loadK (vs := [_, _, _, _, _, _]) rfl AG_42 rfl (fun _ hw => hw.rd_blk (k := 6) 0 rfl rfl)) ?_
    refine WR.dw (G0 rfl) rfl rfl (.callv (caps := []) rfl rfl rfl EN_164 (fun w hw => nvalidF _ w)) ?_
    rintro _ _ ⟨rfl, rfl⟩
    refine WR.val (G0 rfl) rfl rfl (.not rfl rfl) ?_
    refine WR.val (G0 rfl) rfl rfl (.assign rfl rfl) ?_
    refine WR.nil ?_
    refine WA.cond rfl (fun h71 => ?_) (fun h71 => ?_)
    · have f72 := h71
      try simp only [decide_eq_true_eq, decide_eq_false_iff_not, Bool.not_eq_true', Bool.not_eq_false', Int.not_lt, Int.not_le] at f72
      refine WA.seq ?_
      refine WA.region ?_
      refine WR.val (G0 rfl) rfl rfl (.assign rfl rfl) ?_
      refine WR.nil ?_
      have hE : flawN l i = 1 := by
        rw [flawC]
        repeat' split
        all_goals first | rfl | omega | (exfalso; simp_all; done) | (exfalso; simp_all; omega)
      exact WA.ret1 rfl rfl (List.nil_sublist _) ⟨by rw [hE], rfl⟩
    · have f73 := h71
      try simp only [decide_eq_true_eq, decide_eq_false_iff_not, Bool.not_eq_true', Bool.not_eq_false', Int.not_lt, Int.not_le] at f73
      refine WA.seq ?_
      refine WA.draws0 follows ?_
      refine WH.take 0 rfl (Pf_blind _ _ _ _ _) (by kernel_rfl) (by kernel_rfl) (by kernel_rfl) (.refl _) (G0 rfl) rfl rfl (.move rfl rfl) ?_
      refine WH.take 1 rfl (Pf_blind _ _ _ _ _) (by kernel_rfl) (by kernel_rfl) (by kernel_rfl) (.refl _) (G0 rfl) rfl rfl (.gtr rfl rfl rfl) ?_
      refine WH.take 2 rfl (Pf_blind _ _ _ _ _) (by kernel_rfl) (by kernel_rfl) (by kernel_rfl) (.refl _) (G0 rfl) rfl rfl (.move rfl rfl) ?_
      refine WH.split (d := 32) rfl (fun h75 => ?_) (fun h75 => ?_)
      · have f76 := h75
        try simp only [decide_eq_true_eq, decide_eq_false_iff_not, Bool.not_eq_true', Bool.not_eq_false', Int.not_lt, Int.not_le] at f76
        refine WH.take 3 rfl (Pf_blind _ _ _ _ _) (by kernel_rfl) (by kernel_rfl) (by kernel_rfl) (.refl _) (Gt rfl rfl rfl h75) rfl rfl (.move rfl rfl) ?_
        refine WH.take 4 rfl (Pf_blind _ _ _ _ _) (by kernel_rfl) (by kernel_rfl) (by kernel_rfl) (.refl _) (Gt rfl rfl rfl h75) rfl rfl (.move rfl rfl) ?_
        refine WH.take 5 rfl (Pf_blind _ _ _ _ _) (by kernel_rfl) (by kernel_rfl) (by kernel_rfl) (.refl _) (Gt rfl rfl rfl h75) rfl rfl (.sub rfl rfl rfl (by omega) (by omega)) ?_
        refine WH.take 6 rfl (Pf_blind _ _ _ _ _) (by kernel_rfl) (by kernel_rfl) (by kernel_rfl) (.refl _) (Gt rfl rfl rfl h75) rfl rfl (.ix rfl ST_22 rfl rfl (by omega) (by omega) (fun _ hw hn => (hw.slf0 hS).some_ hn)) ?_
        refine WH.take 7 rfl (Pf_blind _ _ _ _ _) (by kernel_rfl) (by kernel_rfl) (by kernel_rfl) (.refl _) (Gt rfl rfl rfl h75) rfl rfl (.fe rfl FA_42_0 rfl) ?_
        refine WH.take 8 rfl (Pf_blind _ _ _ _ _) (by kernel_rfl) (by kernel_rfl) (by kernel_rfl) (.refl _) (Gt rfl rfl rfl h75) rfl rfl (.loadK (vs := [_, _]) rfl AG_39 rfl (fun _ hw => Rd.el (off := 0) (k := 2) (rdN (hw.slf0 hS) (by omega) (by omega)) rfl)) ?_
        refine WH.take 9 rfl (Pf_blind _ _ _ _ _) (by kernel_rfl) (by kernel_rfl) (by kernel_rfl) (.refl _) (Gt rfl rfl rfl h75) rfl rfl (.fa rfl FA_42_0 rfl) ?_
        refine WH.take 10 rfl (Pf_blind _ _ _ _ _) (by kernel_rfl) (by kernel_rfl) (by kernel_rfl) (.refl _) (Gt rfl rfl rfl h75) rfl rfl (.loadK (vs := [_, _]) rfl AG_39 rfl (fun _ hw => hw.rd_blk (k := 2) 0 rfl rfl)) ?_
        refine WH.dw 11 rfl (by kernel_rfl) (Gt rfl rfl rfl h75) rfl rfl (.callv (caps := []) rfl rfl rfl EN_107 (fun w hw => dcmpF _ _ w)) ?_
        rintro _ _ ⟨rfl, rfl⟩
        refine ⟨(.refl _), ?_⟩
        refine WH.take 12 rfl (Pf_blind _ _ _ _ _) (by kernel_rfl) (by kernel_rfl) (by kernel_rfl) (.refl _) (Gt rfl rfl rfl h75) rfl rfl (.geq rfl rfl rfl) ?_
        refine WH.take 13 rfl (Pf_blind _ _ _ _ _) (by kernel_rfl) (by kernel_rfl) (by kernel_rfl) (.refl _) (G0 rfl) rfl rfl (.pick_t rfl rfl h75 rfl) ?_
        refine WH.take 14 rfl (Pf_blind _ _ _ _ _) (by kernel_rfl) (by kernel_rfl) (by kernel_rfl) (.refl _) (G0 rfl) rfl rfl (.assign rfl rfl) ?_
        refine WH.done (by kernel_rfl) ?_
        refine WA.cond rfl (fun h78 => ?_) (fun h78 => ?_)
        · have f79 := h78
          try simp only [decide_eq_true_eq, decide_eq_false_iff_not, Bool.not_eq_true', Bool.not_eq_false', Int.not_lt, Int.not_le] at f79
          refine WA.seq ?_
          refine WA.region ?_
          refine WR.val (G0 rfl) rfl rfl (.assign rfl rfl) ?_
          refine WR.nil ?_
          have hE : flawN l i = 2 := by
            rw [flawC]
            repeat' split
            all_goals first | rfl | omega | (exfalso; simp_all; done) | (exfalso; simp_all; omega)
          exact WA.ret1 rfl rfl (List.nil_sublist _) ⟨by rw [hE], rfl⟩
        · have f80 := h78
          try simp only [decide_eq_true_eq, decide_eq_false_iff_not, Bool.not_eq_true', Bool.not_eq_false', Int.not_lt, Int.not_le] at f80
          refine WA.seq ?_
          refine WA.region ?_
          refine WR.val (G0 rfl) rfl rfl (.move rfl rfl) ?_
          refine WR.val (G0 rfl) rfl rfl (.not rfl rfl) ?_
          refine WR.val (G0 rfl) rfl rfl (.move rfl rfl) ?_
          refine WR.split (d := 47) rfl (fun h82 => ?_) (fun h82 => ?_)
          · have f83 := h82
            try simp only [decide_eq_true_eq, decide_eq_false_iff_not, Bool.not_eq_true', Bool.not_eq_false', Int.not_lt, Int.not_le] at f83
            refine WR.val (Gt rfl rfl rfl h82) rfl rfl (.move rfl rfl) ?_
            refine WR.val (Gt rfl rfl rfl h82) rfl rfl (.not rfl rfl) ?_
            refine WR.val (G0 rfl) rfl rfl (.pick_t rfl rfl h82 rfl) ?_
            refine WR.val (G0 rfl) rfl rfl (.assign rfl rfl) ?_
            refine WR.nil ?_
            refine WA.cond rfl (fun h85 => ?_) (fun h85 => ?_)
            · have f86 := h85
              try simp only [decide_eq_true_eq, decide_eq_false_iff_not, Bool.not_eq_true', Bool.not_eq_false', Int.not_lt, Int.not_le] at f86
              refine WA.seq ?_
              refine WA.region ?_
              refine WR.val (G0 rfl) rfl rfl (.assign rfl rfl) ?_
              refine WR.nil ?_
              have hE : flawN l i = 3 := by
                rw [flawC]
                repeat' split
                all_goals first | rfl | omega | (exfalso; simp_all; done) | (exfalso; simp_all; omega)
              exact WA.ret1 rfl rfl (List.nil_sublist _) ⟨by rw [hE], rfl⟩
            · have f87 := h85
              try simp only [decide_eq_true_eq, decide_eq_false_iff_not, Bool.not_eq_true', Bool.not_eq_false', Int.not_lt, Int.not_le] at f87
              refine WA.seq ?_
              refine WA.draws0 follows ?_
              refine WH.take 0 rfl (Pf_blind _ _ _ _ _) (by kernel_rfl) (by kernel_rfl) (by kernel_rfl) (.refl _) (G0 rfl) rfl rfl (.move rfl rfl) ?_
              refine WH.take 1 rfl (Pf_blind _ _ _ _ _) (by kernel_rfl) (by kernel_rfl) (by kernel_rfl) (.refl _) (G0 rfl) rfl rfl (.not rfl rfl) ?_
              refine WH.take 2 rfl (Pf_blind _ _ _ _ _) (by kernel_rfl) (by kernel_rfl) (by kernel_rfl) (.refl _) (G0 rfl) rfl rfl (.move rfl rfl) ?_
              refine WH.split (d := 54) rfl (fun h89 => ?_) (fun h89 => ?_)
              · have f90 := h89
                try simp only [decide_eq_true_eq, decide_eq_false_iff_not, Bool.not_eq_true', Bool.not_eq_false', Int.not_lt, Int.not_le] at f90
                refine WH.take 3 rfl (Pf_blind _ _ _ _ _) (by kernel_rfl) (by kernel_rfl) (by kernel_rfl) (.refl _) (Gt rfl rfl rfl h89) rfl rfl (.move rfl rfl) ?_
                refine WH.take 4 rfl (Pf_blind _ _ _ _ _) (by kernel_rfl) (by kernel_rfl) (by kernel_rfl) (.refl _) (Gt rfl rfl rfl h89) rfl rfl (.move rfl rfl) ?_
                refine WH.take 5 rfl (Pf_blind _ _ _ _ _) (by kernel_rfl) (by kernel_rfl) (by kernel_rfl) (.refl _) (Gt rfl rfl rfl h89) rfl rfl (.ix rfl ST_22 rfl rfl (by omega) (by omega) (fun _ hw hn => (hw.slf0 hS).some_ hn)) ?_
                refine WH.take 6 rfl (Pf_blind _ _ _ _ _) (by kernel_rfl) (by kernel_rfl) (by kernel_rfl) (.refl _) (Gt rfl rfl rfl h89) rfl rfl (.fe rfl FA_42_2 rfl) ?_
                refine WH.take 7 rfl (Pf_blind _ _ _ _ _) (by kernel_rfl) (by kernel_rfl) (by kernel_rfl) (.refl _) (Gt rfl rfl rfl h89) rfl rfl (.load1 rfl NA_3 rfl (fun _ hw => Rd.el (off := 4) (k := 1) (rdN (hw.slf0 hS) (by omega) (by omega)) rfl)) ?_
                refine WH.take 8 rfl (Pf_blind _ _ _ _ _) (by kernel_rfl) (by kernel_rfl) (by kernel_rfl) (.refl _) (Gt rfl rfl rfl h89) rfl rfl (.fa rfl FA_42_2 rfl) ?_
                refine WH.take 9 rfl (Pf_blind _ _ _ _ _) (by kernel_rfl) (by kernel_rfl) (by kernel_rfl) (.refl _) (Gt rfl rfl rfl h89) rfl rfl (.load1 rfl NA_3 rfl (fun _ hw => hw.rd_blk (k := 1) 0 rfl rfl)) ?_
                refine WH.take 10 rfl (Pf_blind _ _ _ _ _) (by kernel_rfl) (by kernel_rfl) (by kernel_rfl) (.refl _) (Gt rfl rfl rfl h89) rfl rfl (.geq rfl rfl rfl) ?_
                refine WH.take 11 rfl (Pf_blind _ _ _ _ _) (by kernel_rfl) (by kernel_rfl) (by kernel_rfl) (.refl _) (G0 rfl) rfl rfl (.pick_t rfl rfl h89 rfl) ?_
                refine WH.take 12 rfl (Pf_blind _ _ _ _ _) (by kernel_rfl) (by kernel_rfl) (by kernel_rfl) (.refl _) (G0 rfl) rfl rfl (.assign rfl rfl) ?_
                refine WH.done (by kernel_rfl) ?_
                refine WA.cond rfl (fun h92 => ?_) (fun h92 => ?_)
                · have f93 := h92
                  try simp only [decide_eq_true_eq, decide_eq_false_iff_not, Bool.not_eq_true', Bool.not_eq_false', Int.not_lt, Int.not_le] at f93
                  refine WA.seq ?_
                  refine WA.region ?_
                  refine WR.val (G0 rfl) rfl rfl (.assign rfl rfl) ?_
                  refine WR.nil ?_
                  have hE : flawN l i = 4 := by
                    rw [flawC]
                    repeat' split
                    all_goals first | rfl | omega | (exfalso; simp_all; done) | (exfalso; simp_all; omega)
                  exact WA.ret1 rfl rfl (List.nil_sublist _) ⟨by rw [hE], rfl⟩
                · have f94 := h92
                  try simp only [decide_eq_true_eq, decide_eq_false_iff_not, Bool.not_eq_true', Bool.not_eq_false', Int.not_lt, Int.not_le] at f94
                  refine WA.skip ?_
                  refine WA.mark ?_
                  refine WA.seq ?_
                  refine WA.region ?_
                  refine WR.val (G0 rfl) rfl rfl (.assign rfl rfl) ?_
                  refine WR.nil ?_
                  have hE : flawN l i = 0 := by
                    rw [flawC]
                    repeat' split
                    all_goals first | rfl | omega | (exfalso; simp_all; done) | (exfalso; simp_all; omega)
                  exact WA.ret1 rfl rfl (List.nil_sublist _) ⟨by rw [hE], rfl⟩
              · have f95 := h89
                try simp only [decide_eq_true_eq, decide_eq_false_iff_not, Bool.not_eq_true', Bool.not_eq_false', Int.not_lt, Int.not_le] at f95
                refine WH.off 3 rfl (Pf_blind _ _ _ _ _) (by kernel_rfl) (by kernel_rfl) (by kernel_rfl) (.refl _) (Gf rfl rfl rfl h89) rfl rfl ?_
                refine WH.off 4 rfl (Pf_blind _ _ _ _ _) (by kernel_rfl) (by kernel_rfl) (by kernel_rfl) (.refl _) (Gf rfl rfl rfl h89) rfl rfl ?_
                refine WH.off 5 rfl (Pf_blind _ _ _ _ _) (by kernel_rfl) (by kernel_rfl) (by kernel_rfl) (.refl _) (Gf rfl rfl rfl h89) rfl rfl ?_
                refine WH.off 6 rfl (Pf_blind _ _ _ _ _) (by kernel_rfl) (by kernel_rfl) (by kernel_rfl) (.refl _) (Gf rfl rfl rfl h89) rfl rfl ?_
                refine WH.off 7 rfl (Pf_blind _ _ _ _ _) (by kernel_rfl) (by kernel_rfl) (by kernel_rfl) (.refl _) (Gf rfl rfl rfl h89) rfl rfl ?_
                refine WH.off 8 rfl (Pf_blind _ _ _ _ _) (by kernel_rfl) (by kernel_rfl) (by kernel_rfl) (.refl _) (Gf rfl rfl rfl h89) rfl rfl ?_
                refine WH.off 9 rfl (Pf_blind _ _ _ _ _) (by kernel_rfl) (by kernel_rfl) (by kernel_rfl) (.refl _) (Gf rfl rfl rfl h89) rfl rfl ?_
                refine WH.off 10 rfl (Pf_blind _ _ _ _ _) (by kernel_rfl) (by kernel_rfl) (by kernel_rfl) (.refl _) (Gf rfl rfl rfl h89) rfl rfl ?_
                refine WH.take 11 rfl (Pf_blind _ _ _ _ _) (by kernel_rfl) (by kernel_rfl) (by kernel_rfl) (.refl _) (G0 rfl) rfl rfl (.pick_f rfl rfl h89 rfl) ?_
                refine WH.take 12 rfl (Pf_blind _ _ _ _ _) (by kernel_rfl) (by kernel_rfl) (by kernel_rfl) (.refl _) (G0 rfl) rfl rfl (.assign rfl rfl) ?_
                refine WH.done (by kernel_rfl) ?_
                refine WA.cond_f rfl rfl ?_
                refine WA.skip ?_
                refine WA.mark ?_
                refine WA.seq ?_
                refine WA.region ?_
                refine WR.val (G0 rfl) rfl rfl (.assign rfl rfl) ?_
                refine WR.nil ?_
                have hE : flawN l i = 0 := by
                  rw [flawC]
                  repeat' split
                  all_goals first | rfl | omega | (exfalso; simp_all; done) | (exfalso; simp_all; omega)
                exact WA.ret1 rfl rfl (List.nil_sublist _) ⟨by rw [hE], rfl⟩
          · have f96 := h82
            try simp only [decide_eq_true_eq, decide_eq_false_iff_not, Bool.not_eq_true', Bool.not_eq_false', Int.not_lt, Int.not_le] at f96
            refine WR.off (Gf rfl rfl rfl h82) rfl rfl ?_
            refine WR.off (Gf rfl rfl rfl h82) rfl rfl ?_
            refine WR.val (G0 rfl) rfl rfl (.pick_f rfl rfl h82 rfl) ?_
            refine WR.val (G0 rfl) rfl rfl (.assign rfl rfl) ?_
            refine WR.nil ?_
            refine WA.cond_f rfl rfl ?_
            refine WA.seq ?_
            refine WA.draws0 follows ?_
            refine WH.take 0 rfl (Pf_blind _ _ _ _ _) (by kernel_rfl) (by kernel_rfl) (by kernel_rfl) (.refl _) (G0 rfl) rfl rfl (.move rfl rfl) ?_
            refine WH.take 1 rfl (Pf_blind _ _ _ _ _) (by kernel_rfl) (by kernel_rfl) (by kernel_rfl) (.refl _) (G0 rfl) rfl rfl (.not rfl rfl) ?_
            refine WH.take 2 rfl (Pf_blind _ _ _ _ _) (by kernel_rfl) (by kernel_rfl) (by kernel_rfl) (.refl _) (G0 rfl) rfl rfl (.move rfl rfl) ?_
            refine WH.split (d := 54) rfl (fun h98 => ?_) (fun h98 => ?_)
            · have f99 := h98
              try simp only [decide_eq_true_eq, decide_eq_false_iff_not, Bool.not_eq_true', Bool.not_eq_false', Int.not_lt, Int.not_le] at f99
              refine WH.take 3 rfl (Pf_blind _ _ _ _ _) (by kernel_rfl) (by kernel_rfl) (by kernel_rfl) (.refl _) (Gt rfl rfl rfl h98) rfl rfl (.move rfl rfl) ?_
              refine WH.take 4 rfl (Pf_blind _ _ _ _ _) (by kernel_rfl) (by kernel_rfl) (by kernel_rfl) (.refl _) (Gt rfl rfl rfl h98) rfl rfl (.move rfl rfl) ?_
              refine WH.take 5 rfl (Pf_blind _ _ _ _ _) (by kernel_rfl) (by kernel_rfl) (by kernel_rfl) (.refl _) (Gt rfl rfl rfl h98) rfl rfl (.ix rfl ST_22 rfl rfl (by omega) (by omega) (fun _ hw hn => (hw.slf0 hS).some_ hn)) ?_
              refine WH.take 6 rfl (Pf_blind _ _ _ _ _) (by kernel_rfl) (by kernel_rfl) (by kernel_rfl) (.refl _) (Gt rfl rfl rfl h98) rfl rfl (.fe rfl FA_42_2 rfl) ?_
              refine WH.take 7 rfl (Pf_blind _ _ _ _ _) (by kernel_rfl) (by kernel_rfl) (by kernel_rfl) (.refl _) (Gt rfl rfl rfl h98) rfl rfl (.load1 rfl NA_3 rfl (fun _ hw => Rd.el (off := 4) (k := 1) (rdN (hw.slf0 hS) (by omega) (by omega)) rfl)) ?_
              refine WH.take 8 rfl (Pf_blind _ _ _ _ _) (by kernel_rfl) (by kernel_rfl) (by kernel_rfl) (.refl _) (Gt rfl rfl rfl h98) rfl rfl (.fa rfl FA_42_2 rfl) ?_
              refine WH.take 9 rfl (Pf_blind _ _ _ _ _) (by kernel_rfl) (by kernel_rfl) (by kernel_rfl) (.refl _) (Gt rfl rfl rfl h98) rfl rfl (.load1 rfl NA_3 rfl (fun _ hw => hw.rd_blk (k := 1) 0 rfl rfl)) ?_
              refine WH.take 10 rfl (Pf_blind _ _ _ _ _) (by kernel_rfl) (by kernel_rfl) (by kernel_rfl) (.refl _) (Gt rfl rfl rfl h98) rfl rfl (.geq rfl rfl rfl) ?_
              refine WH.take 11 rfl (Pf_blind _ _ _ _ _) (by kernel_rfl) (by kernel_rfl) (by kernel_rfl) (.refl _) (G0 rfl) rfl rfl (.pick_t rfl rfl h98 rfl) ?_
              refine WH.take 12 rfl (Pf_blind _ _ _ _ _) (by kernel_rfl) (by kernel_rfl) (by kernel_rfl) (.refl _) (G0 rfl) rfl rfl (.assign rfl rfl) ?_
              refine WH.done (by kernel_rfl) ?_
              refine WA.cond rfl (fun h101 => ?_) (fun h101 => ?_)
              · have f102 := h101
                try simp only [decide_eq_true_eq, decide_eq_false_iff_not, Bool.not_eq_true', Bool.not_eq_false', Int.not_lt, Int.not_le] at f102
                refine WA.seq ?_
                refine WA.region ?_
                refine WR.val (G0 rfl) rfl rfl (.assign rfl rfl) ?_
                refine WR.nil ?_
                have hE : flawN l i = 4 := by
                  rw [flawC]
                  repeat' split
                  all_goals first | rfl | omega | (exfalso; simp_all; done) | (exfalso; simp_all; omega)
                exact WA.ret1 rfl rfl (List.nil_sublist _) ⟨by rw [hE], rfl⟩
              · have f103 := h101
                try simp only [decide_eq_true_eq, decide_eq_false_iff_not, Bool.not_eq_true', Bool.not_eq_false', Int.not_lt, Int.not_le] at f103
                refine WA.skip ?_
                refine WA.mark ?_
                refine WA.seq ?_
                refine WA.region ?_
                refine WR.val (G0 rfl) rfl rfl (.assign rfl rfl) ?_
                refine WR.nil ?_
                have hE : flawN l i = 0 := by
                  rw [flawC]
                  repeat' split
                  all_goals first | rfl | omega | (exfalso; simp_all; done) | (exfalso; simp_all; omega)
                exact WA.ret1 rfl rfl (List.nil_sublist _) ⟨by rw [hE], rfl⟩
            · have f104 := h98
              try simp only [decide_eq_true_eq, decide_eq_false_iff_not, Bool.not_eq_true', Bool.not_eq_false', Int.not_lt, Int.not_le] at f104
              refine WH.off 3 rfl (Pf_blind _ _ _ _ _) (by kernel_rfl) (by kernel_rfl) (by kernel_rfl) (.refl _) (Gf rfl rfl rfl h98) rfl rfl ?_
              refine WH.off 4 rfl (Pf_blind _ _ _ _ _) (by kernel_rfl) (by kernel_rfl) (by kernel_rfl) (.refl _) (Gf rfl rfl rfl h98) rfl rfl ?_
              refine WH.off 5 rfl (Pf_blind _ _ _ _ _) (by kernel_rfl) (by kernel_rfl) (by kernel_rfl) (.refl _) (Gf rfl rfl rfl h98) rfl rfl ?_
              refine WH.off 6 rfl (Pf_blind _ _ _ _ _) (by kernel_rfl) (by kernel_rfl) (by kernel_rfl) (.refl _) (Gf rfl rfl rfl h98) rfl rfl ?_
              refine WH.off 7 rfl (Pf_blind _ _ _ _ _) (by kernel_rfl) (by kernel_rfl) (by kernel_rfl) (.refl _) (Gf rfl rfl rfl h98) rfl rfl ?_
              refine WH.off 8 rfl (Pf_blind _ _ _ _ _) (by kernel_rfl) (by kernel_rfl) (by kernel_rfl) (.refl _) (Gf rfl rfl rfl h98) rfl rfl ?_
              refine WH.off 9 rfl (Pf_blind _ _ _ _ _) (by kernel_rfl) (by kernel_rfl) (by kernel_rfl) (.refl _) (Gf rfl rfl rfl h98) rfl rfl ?_
              refine WH.off 10 rfl (Pf_blind _ _ _ _ _) (by kernel_rfl) (by kernel_rfl) (by kernel_rfl) (.refl _) (Gf rfl rfl rfl h98) rfl rfl ?_
              refine WH.take 11 rfl (Pf_blind _ _ _ _ _) (by kernel_rfl) (by kernel_rfl) (by kernel_rfl) (.refl _) (G0 rfl) rfl rfl (.pick_f rfl rfl h98 rfl) ?_
              refine WH.take 12 rfl (Pf_blind _ _ _ _ _) (by kernel_rfl) (by kernel_rfl) (by kernel_rfl) (.refl _) (G0 rfl) rfl rfl (.assign rfl rfl) ?_
              refine WH.done (by kernel_rfl) ?_
              refine WA.cond_f rfl rfl ?_
              refine WA.skip ?_
              refine WA.mark ?_
              refine WA.seq ?_
              refine WA.region ?_
              refine WR.val (G0 rfl) rfl rfl (.assign rfl rfl) ?_
              refine WR.nil ?_
              have hE : flawN l i = 0 := by
                rw [flawC]
                repeat' split
                all_goals first | rfl | omega | (exfalso; simp_all; done) | (exfalso; simp_all; omega)
              exact WA.ret1 rfl rfl (List.nil_sublist _) ⟨by rw [hE], rfl⟩
      · have f105 := h75
        try simp only [decide_eq_true_eq, decide_eq_false_iff_not, Bool.not_eq_true', Bool.not_eq_false', Int.not_lt, Int.not_le] at f105
        refine WH.off 3 rfl (Pf_blind _ _ _ _ _) (by kernel_rfl) (by kernel_rfl) (by kernel_rfl) (.refl _) (Gf rfl rfl rfl h75) rfl rfl ?_
        refine WH.off 4 rfl (Pf_blind _ _ _ _ _) (by kernel_rfl) (by kernel_rfl) (by kernel_rfl) (.refl _) (Gf rfl rfl rfl h75) rfl rfl ?_
        refine WH.off 5 rfl (Pf_blind _ _ _ _ _) (by kernel_rfl) (by kernel_rfl) (by kernel_rfl) (.refl _) (Gf rfl rfl rfl h75) rfl rfl ?_
        refine WH.off 6 rfl (Pf_blind _ _ _ _ _) (by kernel_rfl) (by kernel_rfl) (by kernel_rfl) (.refl _) (Gf rfl rfl rfl h75) rfl rfl ?_
        refine WH.off 7 rfl (Pf_blind _ _ _ _ _) (by kernel_rfl) (by kernel_rfl) (by kernel_rfl) (.refl _) (Gf rfl rfl rfl h75) rfl rfl ?_
        refine WH.off 8 rfl (Pf_blind _ _ _ _ _) (by kernel_rfl) (by kernel_rfl) (by kernel_rfl) (.refl _) (Gf rfl rfl rfl h75) rfl rfl ?_
        refine WH.off 9 rfl (Pf_blind _ _ _ _ _) (by kernel_rfl) (by kernel_rfl) (by kernel_rfl) (.refl _) (Gf rfl rfl rfl h75) rfl rfl ?_
        refine WH.off 10 rfl (Pf_blind _ _ _ _ _) (by kernel_rfl) (by kernel_rfl) (by kernel_rfl) (.refl _) (Gf rfl rfl rfl h75) rfl rfl ?_
        refine WH.off 11 rfl (Pf_blind _ _ _ _ _) (by kernel_rfl) (by kernel_rfl) (by kernel_rfl) (.refl _) (Gf rfl rfl rfl h75) rfl rfl ?_
        refine WH.off 12 rfl (Pf_blind _ _ _ _ _) (by kernel_rfl) (by kernel_rfl) (by kernel_rfl) (.refl _) (Gf rfl rfl rfl h75) rfl rfl ?_
        refine WH.take 13 rfl (Pf_blind _ _ _ _ _) (by kernel_rfl) (by kernel_rfl) (by kernel_rfl) (.refl _) (G0 rfl) rfl rfl (.pick_f rfl rfl h75 rfl) ?_
        refine WH.take 14 rfl (Pf_blind _ _ _ _ _) (by kernel_rfl) (by kernel_rfl) (by kernel_rfl) (.refl _) (G0 rfl) rfl rfl (.assign rfl rfl) ?_
        refine WH.done (by kernel_rfl) ?_
        refine WA.cond_f rfl rfl ?_
        refine WA.seq ?_
        refine WA.region ?_
        refine WR.val (G0 rfl) rfl rfl (.move rfl rfl) ?_
        refine WR.val (G0 rfl) rfl rfl (.not rfl rfl) ?_
        refine WR.val (G0 rfl) rfl rfl (.move rfl rfl) ?_
        refine WR.split (d := 47) rfl (fun h107 => ?_) (fun h107 => ?_)
        · have f108 := h107
          try simp only [decide_eq_true_eq, decide_eq_false_iff_not, Bool.not_eq_true', Bool.not_eq_false', Int.not_lt, Int.not_le] at f108
          refine WR.val (Gt rfl rfl rfl h107) rfl rfl (.move rfl rfl) ?_
          refine WR.val (Gt rfl rfl rfl h107) rfl rfl (.not rfl rfl) ?_
          refine WR.val (G0 rfl) rfl rfl (.pick_t rfl rfl h107 rfl) ?_
          refine WR.val (G0 rfl) rfl rfl (.assign rfl rfl) ?_
          refine WR.nil ?_
          refine WA.cond rfl (fun h110 => ?_) (fun h110 => ?_)
          · have f111 := h110
            try simp only [decide_eq_true_eq, decide_eq_false_iff_not, Bool.not_eq_true', Bool.not_eq_false', Int.not_lt, Int.not_le] at f111
            refine WA.seq ?_
            refine WA.region ?_
            refine WR.val (G0 rfl) rfl rfl (.assign rfl rfl) ?_
            refine WR.nil ?_
            have hE : flawN l i = 3 := by
              rw [flawC]
              repeat' split
              all_goals first | rfl | omega | (exfalso; simp_all; done) | (exfalso; simp_all; omega)
            exact WA.ret1 rfl rfl (List.nil_sublist _) ⟨by rw [hE], rfl⟩
          · have f112 := h110
            try simp only [decide_eq_true_eq, decide_eq_false_iff_not, Bool.not_eq_true', Bool.not_eq_false', Int.not_lt, Int.not_le] at f112
            refine WA.seq ?_
            refine WA.draws0 follows ?_
            refine WH.take 0 rfl (Pf_blind _ _ _ _ _) (by kernel_rfl) (by kernel_rfl) (by kernel_rfl) (.refl _) (G0 rfl) rfl rfl (.move rfl rfl) ?_
            refine WH.take 1 rfl (Pf_blind _ _ _ _ _) (by kernel_rfl) (by kernel_rfl) (by kernel_rfl) (.refl _) (G0 rfl) rfl rfl (.not rfl rfl) ?_
            refine WH.take 2 rfl (Pf_blind _ _ _ _ _) (by kernel_rfl) (by kernel_rfl) (by kernel_rfl) (.refl _) (G0 rfl) rfl rfl (.move rfl rfl) ?_
            refine WH.split (d := 54) rfl (fun h114 => ?_) (fun h114 => ?_)
            · have f115 := h114
              try simp only [decide_eq_true_eq, decide_eq_false_iff_not, Bool.not_eq_true', Bool.not_eq_false', Int.not_lt, Int.not_le] at f115
              refine WH.take 3 rfl (Pf_blind _ _ _ _ _) (by kernel_rfl) (by kernel_rfl) (by kernel_rfl) (.refl _) (Gt rfl rfl rfl h114) rfl rfl (.move rfl rfl) ?_
              refine WH.take 4 rfl (Pf_blind _ _ _ _ _) (by kernel_rfl) (by kernel_rfl) (by kernel_rfl) (.refl _) (Gt rfl rfl rfl h114) rfl rfl (.move rfl rfl) ?_
              refine WH.take 5 rfl (Pf_blind _ _ _ _ _) (by kernel_rfl) (by kernel_rfl) (by kernel_rfl) (.refl _) (Gt rfl rfl rfl h114) rfl rfl (.ix rfl ST_22 rfl rfl (by omega) (by omega) (fun _ hw hn => (hw.slf0 hS).some_ hn)) ?_
              refine WH.take 6 rfl (Pf_blind _ _ _ _ _) (by kernel_rfl) (by kernel_rfl) (by kernel_rfl) (.refl _) (Gt rfl rfl rfl h114) rfl rfl (.fe rfl FA_42_2 rfl) ?_
              refine WH.take 7 rfl (Pf_blind _ _ _ _ _) (by kernel_rfl) (by kernel_rfl) (by kernel_rfl) (.refl _) (Gt rfl rfl rfl h114) rfl rfl (.load1 rfl NA_3 rfl (fun _ hw => Rd.el (off := 4) (k := 1) (rdN (hw.slf0 hS) (by omega) (by omega)) rfl)) ?_
              refine WH.take 8 rfl (Pf_blind _ _ _ _ _) (by kernel_rfl) (by kernel_rfl) (by kernel_rfl) (.refl _) (Gt rfl rfl rfl h114) rfl rfl (.fa rfl FA_42_2 rfl) ?_
              refine WH.take 9 rfl (Pf_blind _ _ _ _ _) (by kernel_rfl) (by kernel_rfl) (by kernel_rfl) (.refl _) (Gt rfl rfl rfl h114) rfl rfl (.load1 rfl NA_3 rfl (fun _ hw => hw.rd_blk (k := 1) 0 rfl rfl)) ?_
              refine WH.take 10 rfl (Pf_blind _ _ _ _ _) (by kernel_rfl) (by kernel_rfl) (by kernel_rfl) (.refl _) (Gt rfl rfl rfl h114) rfl rfl (.geq rfl rfl rfl) ?_
              refine WH.take 11 rfl (Pf_blind _ _ _ _ _) (by kernel_rfl) (by kernel_rfl) (by kernel_rfl) (.refl _) (G0 rfl) rfl rfl (.pick_t rfl rfl h114 rfl) ?_
              refine WH.take 12 rfl (Pf_blind _ _ _ _ _) (by kernel_rfl) (by kernel_rfl) (by kernel_rfl) (.refl _) (G0 rfl) rfl rfl (.assign rfl rfl) ?_
              refine WH.done (by kernel_rfl) ?_
              refine WA.cond rfl (fun h117 => ?_) (fun h117 => ?_)
              · have f118 := h117
                try simp only [decide_eq_true_eq, decide_eq_false_iff_not, Bool.not_eq_true', Bool.not_eq_false', Int.not_lt, Int.not_le] at f118
                refine WA.seq ?_
                refine WA.region ?_
                refine WR.val (G0 rfl) rfl rfl (.assign rfl rfl) ?_
                refine WR.nil ?_
                have hE : flawN l i = 4 := by
                  rw [flawC]
                  repeat' split
                  all_goals first | rfl | omega | (exfalso; simp_all; done) | (exfalso; simp_all; omega)
                exact WA.ret1 rfl rfl (List.nil_sublist _) ⟨by rw [hE], rfl⟩
              · have f119 := h117
                try simp only [decide_eq_true_eq, decide_eq_false_iff_not, Bool.not_eq_true', Bool.not_eq_false', Int.not_lt, Int.not_le] at f119
                refine WA.skip ?_
                refine WA.mark ?_
                refine WA.seq ?_
                refine WA.region ?_
                refine WR.val (G0 rfl) rfl rfl (.assign rfl rfl) ?_
                refine WR.nil ?_
                have hE : flawN l i = 0 := by
                  rw [flawC]
                  repeat' split
                  all_goals first | rfl | omega | (exfalso; simp_all; done) | (exfalso; simp_all; omega)
                exact WA.ret1 rfl rfl (List.nil_sublist _) ⟨by rw [hE], rfl⟩
            · have f120 := h114
              try simp only [decide_eq_true_eq, decide_eq_false_iff_not, Bool.not_eq_true', Bool.not_eq_false', Int.not_lt, Int.not_le] at f120
              refine WH.off 3 rfl (Pf_blind _ _ _ _ _) (by kernel_rfl) (by kernel_rfl) (by kernel_rfl) (.refl _) (Gf rfl rfl rfl h114) rfl rfl ?_
              refine WH.off 4 rfl (Pf_blind _ _ _ _ _) (by kernel_rfl) (by kernel_rfl) (by kernel_rfl) (.refl _) (Gf rfl rfl rfl h114) rfl rfl ?_
              refine WH.off 5 rfl (Pf_blind _ _ _ _ _) (by kernel_rfl) (by kernel_rfl) (by kernel_rfl) (.refl _) (Gf rfl rfl rfl h114) rfl rfl ?_
              refine WH.off 6 rfl (Pf_blind _ _ _ _ _) (by kernel_rfl) (by kernel_rfl) (by kernel_rfl) (.refl _) (Gf rfl rfl rfl h114) rfl rfl ?_
              refine WH.off 7 rfl (Pf_blind _ _ _ _ _) (by kernel_rfl) (by kernel_rfl) (by kernel_rfl) (.refl _) (Gf rfl rfl rfl h114) rfl rfl ?_
              refine WH.off 8 rfl (Pf_blind _ _ _ _ _) (by kernel_rfl) (by kernel_rfl) (by kernel_rfl) (.refl _) (Gf rfl rfl rfl h114) rfl rfl ?_
              refine WH.off 9 rfl (Pf_blind _ _ _ _ _) (by kernel_rfl) (by kernel_rfl) (by kernel_rfl) (.refl _) (Gf rfl rfl rfl h114) rfl rfl ?_
              refine WH.off 10 rfl (Pf_blind _ _ _ _ _) (by kernel_rfl) (by kernel_rfl) (by kernel_rfl) (.refl _) (Gf rfl rfl rfl h114) rfl rfl ?_
              refine WH.take 11 rfl (Pf_blind _ _ _ _ _) (by kernel_rfl) (by kernel_rfl) (by kernel_rfl) (.refl _) (G0 rfl) rfl rfl (.pick_f rfl rfl h114 rfl) ?_
              refine WH.take 12 rfl (Pf_blind _ _ _ _ _) (by kernel_rfl) (by kernel_rfl) (by kernel_rfl) (.refl _) (G0 rfl) rfl rfl (.assign rfl rfl) ?_
              refine WH.done (by kernel_rfl) ?_
              refine WA.cond_f rfl rfl ?_
              refine WA.skip ?_
              refine WA.mark ?_
              refine WA.seq ?_
              refine WA.region ?_
              refine WR.val (G0 rfl) rfl rfl (.assign rfl rfl) ?_
              refine WR.nil ?_
              have hE : flawN l i = 0 := by
                rw [flawC]
                repeat' split
                all_goals first | rfl | omega | (exfalso; simp_all; done) | (exfalso; simp_all; omega)
              exact WA.ret1 rfl rfl (List.nil_sublist _) ⟨by rw [hE], rfl⟩
        · have f121 := h107
          try simp only [decide_eq_true_eq, decide_eq_false_iff_not, Bool.not_eq_true', Bool.not_eq_false', Int.not_lt, Int.not_le] at f121
          refine WR.off (Gf rfl rfl rfl h107) rfl rfl ?_
          refine WR.off (Gf rfl rfl rfl h107) rfl rfl ?_
          refine WR.val (G0 rfl) rfl rfl (.pick_f rfl rfl h107 rfl) ?_
          refine WR.val (G0 rfl) rfl rfl (.assign rfl rfl) ?_
          refine WR.nil ?_
          refine WA.cond_f rfl rfl ?_
          refine WA.seq ?_
          refine WA.draws0 follows ?_
          refine WH.take 0 rfl (Pf_blind _ _ _ _ _) (by kernel_rfl) (by kernel_rfl) (by kernel_rfl) (.refl _) (G0 rfl) rfl rfl (.move rfl rfl) ?_
          refine WH.take 1 rfl (Pf_blind _ _ _ _ _) (by kernel_rfl) (by kernel_rfl) (by kernel_rfl) (.refl _) (G0 rfl) rfl rfl (.not rfl rfl) ?_
          refine WH.take 2 rfl (Pf_blind _ _ _ _ _) (by kernel_rfl) (by kernel_rfl) (by kernel_rfl) (.refl _) (G0 rfl) rfl rfl (.move rfl rfl) ?_
          refine WH.split (d := 54) rfl (fun h123 => ?_) (fun h123 => ?_)
          · have f124 := h123
            try simp only [decide_eq_true_eq, decide_eq_false_iff_not, Bool.not_eq_true', Bool.not_eq_false', Int.not_lt, Int.not_le] at f124
            refine WH.take 3 rfl (Pf_blind _ _ _ _ _) (by kernel_rfl) (by kernel_rfl) (by kernel_rfl) (.refl _) (Gt rfl rfl rfl h123) rfl rfl (.move rfl rfl) ?_
            refine WH.take 4 rfl (Pf_blind _ _ _ _ _) (by kernel_rfl) (by kernel_rfl) (by kernel_rfl) (.refl _) (Gt rfl rfl rfl h123) rfl rfl (.move rfl rfl) ?_
            refine WH.take 5 rfl (Pf_blind _ _ _ _ _) (by kernel_rfl) (by kernel_rfl) (by kernel_rfl) (.refl _) (Gt rfl rfl rfl h123) rfl rfl (.ix rfl ST_22 rfl rfl (by omega) (by omega) (fun _ hw hn => (hw.slf0 hS).some_ hn)) ?_
            refine WH.take 6 rfl (Pf_blind _ _ _ _ _) (by kernel_rfl) (by kernel_rfl) (by kernel_rfl) (.refl _) (Gt rfl rfl rfl h123) rfl rfl (.fe rfl FA_42_2 rfl) ?_
            refine WH.take 7 rfl (Pf_blind _ _ _ _ _) (by kernel_rfl) (by kernel_rfl) (by kernel_rfl) (.refl _) (Gt rfl rfl rfl h123) rfl rfl (.load1 rfl NA_3 rfl (fun _ hw => Rd.el (off := 4) (k := 1) (rdN (hw.slf0 hS) (by omega) (by omega)) rfl)) ?_
            refine WH.take 8 rfl (Pf_blind _ _ _ _ _) (by kernel_rfl) (by kernel_rfl) (by kernel_rfl) (.refl _) (Gt rfl rfl rfl h123) rfl rfl (.fa rfl FA_42_2 rfl) ?_
            refine WH.take 9 rfl (Pf_blind _ _ _ _ _) (by kernel_rfl) (by kernel_rfl) (by kernel_rfl) (.refl _) (Gt rfl rfl rfl h123) rfl rfl (.load1 rfl NA_3 rfl (fun _ hw => hw.rd_blk (k := 1) 0 rfl rfl)) ?_
            refine WH.take 10 rfl (Pf_blind _ _ _ _ _) (by kernel_rfl) (by kernel_rfl) (by kernel_rfl) (.refl _) (Gt rfl rfl rfl h123) rfl rfl (.geq rfl rfl rfl) ?_
            refine WH.take 11 rfl (Pf_blind _ _ _ _ _) (by kernel_rfl) (by kernel_rfl) (by kernel_rfl) (.refl _) (G0 rfl) rfl rfl (.pick_t rfl rfl h123 rfl) ?_
            refine WH.take 12 rfl (Pf_blind _ _ _ _ _) (by kernel_rfl) (by kernel_rfl) (by kernel_rfl) (.refl _) (G0 rfl) rfl rfl (.assign rfl rfl) ?_
            refine WH.done (by kernel_rfl) ?_
            refine WA.cond rfl (fun h126 => ?_) (fun h126 => ?_)
            · have f127 := h126
              try simp only [decide_eq_true_eq, decide_eq_false_iff_not, Bool.not_eq_true', Bool.not_eq_false', Int.not_lt, Int.not_le] at f127
              refine WA.seq ?_
              refine WA.region ?_
              refine WR.val (G0 rfl) rfl rfl (.assign rfl rfl) ?_
              refine WR.nil ?_
              have hE : flawN l i = 4 := by
                rw [flawC]
                repeat' split
                all_goals first | rfl | omega | (exfalso; simp_all; done) | (exfalso; simp_all; omega)
              exact WA.ret1 rfl rfl (List.nil_sublist _) ⟨by rw [hE], rfl⟩
            · have f128 := h126
              try simp only [decide_eq_true_eq, decide_eq_false_iff_not, Bool.not_eq_true', Bool.not_eq_false', Int.not_lt, Int.not_le] at f128
              refine WA.skip ?_
              refine WA.mark ?_
              refine WA.seq ?_
              refine WA.region ?_
              refine WR.val (G0 rfl) rfl rfl (.assign rfl rfl) ?_
              refine WR.nil ?_
              have hE : flawN l i = 0 := by
                rw [flawC]
                repeat' split
                all_goals first | rfl | omega | (exfalso; simp_all; done) | (exfalso; simp_all; omega)
              exact WA.ret1 rfl rfl (List.nil_sublist _) ⟨by rw [hE], rfl⟩
          · have f129 := h123
            try simp only [decide_eq_true_eq, decide_eq_false_iff_not, Bool.not_eq_true', Bool.not_eq_false', Int.not_lt, Int.not_le] at f129
            refine WH.off 3 rfl (Pf_blind _ _ _ _ _) (by kernel_rfl) (by kernel_rfl) (by kernel_rfl) (.refl _) (Gf rfl rfl rfl h123) rfl rfl ?_
            refine WH.off 4 rfl (Pf_blind _ _ _ _ _) (by kernel_rfl) (by kernel_rfl) (by kernel_rfl) (.refl _) (Gf rfl rfl rfl h123) rfl rfl ?_
            refine WH.off 5 rfl (Pf_blind _ _ _ _ _) (by kernel_rfl) (by kernel_rfl) (by kernel_rfl) (.refl _) (Gf rfl rfl rfl h123) rfl rfl ?_
            refine WH.off 6 rfl (Pf_blind _ _ _ _ _) (by kernel_rfl) (by kernel_rfl) (by kernel_rfl) (.refl _) (Gf rfl rfl rfl h123) rfl rfl ?_
            refine WH.off 7 rfl (Pf_blind _ _ _ _ _) (by kernel_rfl) (by kernel_rfl) (by kernel_rfl) (.refl _) (Gf rfl rfl rfl h123) rfl rfl ?_
            refine WH.off 8 rfl (Pf_blind _ _ _ _ _) (by kernel_rfl) (by kernel_rfl) (by kernel_rfl) (.refl _) (Gf rfl rfl rfl h123) rfl rfl ?_
            refine WH.off 9 rfl (Pf_blind _ _ _ _ _) (by kernel_rfl) (by kernel_rfl) (by kernel_rfl) (.refl _) (Gf rfl rfl rfl h123) rfl rfl ?_
            refine WH.off 10 rfl (Pf_blind _ _ _ _ _) (by kernel_rfl) (by kernel_rfl) (by kernel_rfl) (.refl _) (Gf rfl rfl rfl h123) rfl rfl ?_
            refine WH.take 11 rfl (Pf_blind _ _ _ _ _) (by kernel_rfl) (by kernel_rfl) (by kernel_rfl) (.refl _) (G0 rfl) rfl rfl (.pick_f rfl rfl h123 rfl) ?_
            refine WH.take 12 rfl (Pf_blind _ _ _ _ _) (by kernel_rfl) (by kernel_rfl) (by kernel_rfl) (.refl _) (G0 rfl) rfl rfl (.assign rfl rfl) ?_
            refine WH.done (by kernel_rfl) ?_
            refine WA.cond_f rfl rfl ?_
            refine WA.skip ?_
            refine WA.mark ?_
            refine WA.seq ?_
            refine WA.region ?_
            refine WR.val (G0 rfl) rfl rfl (.assign rfl rfl) ?_
            refine WR.nil ?_
            have hE : flawN l i = 0 := by
              rw [flawC]
              repeat' split
              all_goals first | rfl | omega | (exfalso; simp_all; done) | (exfalso; simp_all; omega)
            exact WA.ret1 rfl rfl (List.nil_sublist _) ⟨by rw [hE], rfl⟩
set_option maxRecDepth 20000 in
/-- redpencil/shape.Faults -/
theorem faultsF (l : List Nd) (A : Option Addr) (cap : Nat) (w : World) (hS : SlN w A l) (hl : l.length ≤ 800000) : Ct Tryz.prog 109 #[.slice A l.length cap] [] w (fun u hs => ∃ B c, u = .slice B (faults l).length c ∧ hs = [En.row B (faults l).length c 222 2 ((faults l).flatMap fc)]) := by
  refine Ct.intro Tryz.func109 rfl Tryz.ntmps109 rfl ?_
  refine WA.seq ?_
  refine WA.region ?_
  refine WR.val (G0 rfl) rfl rfl (.assign rfl rfl) ?_
  refine WR.nil ?_
  refine WA.seq ?_
  refine WA.region ?_
  refine WR.dw (G0 rfl) rfl rfl (.makeMap (κ := Dot) (ν := Int) (dv) (Value.int .i64) rfl) ?_
  rintro _ _ ⟨m2, rfl, rfl⟩
  refine WR.dw (G0 rfl) rfl rfl (.alloc (vs := [_]) rfl ZT_218 rfl) ?_
  rintro _ _ ⟨b4, rfl, rfl⟩
  refine WR.dw0 (G0 rfl) rfl (.store (i := 0) rfl NA_218.2 rfl rfl [_] rfl rfl (by intro u hu; simp at hu; subst hu; rfl) rfl rfl) ?_
  rintro _ _ ⟨rfl, rfl⟩
  refine WR.nil ?_
  refine WA.seq ?_
  refine WA.seq ?_
  refine WA.region ?_
  refine WR.val (G0 rfl) rfl rfl (.move rfl rfl) ?_
  refine WR.dw (G0 rfl) rfl rfl (.call0 (caps := []) rfl rfl rfl EN_167 (fun w hw => backF _ _ _ _)) ?_
  rintro _ _ ⟨_, ⟨v6, rfl, rfl⟩, rfl⟩
  refine WR.nil ?_
  refine WA.block ?_
  refine WA.rangeFunc (caps := [.pointer (some ⟨_, 0, none⟩)]) (post' := (fun hs => hs = [En.blk v6 [.slice A l.length cap] 22, En.blk b4 [.map (some m2)] 218, En.mp m2 dv (Value.int .i64) (atM l l.length)])) (own := [_, _, _]) rfl EN_218 (.refl _) (fun D lp rec hrec w hw => ?_) (fun D hs hp => ?_)
  · have hY : ∀ (k : Nat) (T : List En) (W : World) (i : Int), i = (l.length : Int) - 1 - k → 0 ≤ i → (T = [En.lp lp rec, En.blk b4 [.map (some m2)] 218, En.mp m2 dv (Value.int .i64) (atM l k)]) → Cv Tryz.prog (.func (.yield lp) #[] #[]) [.int .i64 i, nv (gx l i)] T W (fun u T => u = .bool true ∧ (T = [En.lp lp rec, En.blk b4 [.map (some m2)] 218, En.mp m2 dv (Value.int .i64) (atM l (k + 1))])) := by
      intro k T W i hi h0 hSt
      subst hSt
      refine Cv.yield _ (by rw [hrec.params]; rfl) (Ag.round2 hrec rfl rfl rfl) ?_
      rw [hrec.assign]
      refine WA.seq ?_
      refine WA.region ?_
      refine WR.val (G0 rfl) rfl rfl (.assign rfl rfl) ?_
      refine WR.nil ?_
      refine WA.region ?_
      refine WR.dw (G0 rfl) rfl rfl (.alloc (vs := [_, _, _, _, _, _]) rfl ZT_42 rfl) ?_
      rintro _ _ ⟨b8, rfl, rfl⟩
      refine WR.dw0 (G0 rfl) rfl (.store (i := 0) rfl AG_42.2 rfl rfl [_, _, _, _, _, _] rfl rfl (by intro u hu; simp at hu; rcases hu with rfl | rfl | rfl | rfl | rfl | rfl <;> rfl) rfl rfl) ?_
      rintro _ _ ⟨rfl, rfl⟩
      refine WR.nil ?_
      refine WA.begun 1 rfl hrec.state hrec.body ?_
      refine WA.block ?_
      refine WA.region ?_
      refine WR.val (G0 rfl) rfl rfl (.load1 rfl NA_218 rfl (fun _ hw => hw.rd_blk (k := 1) 2 rfl rfl)) ?_
      refine WR.val (G0 rfl) rfl rfl (.fa rfl FA_42_0 rfl) ?_
      refine WR.val (G0 rfl) rfl rfl (.loadK (vs := [_, _]) rfl AG_39 rfl (fun _ hw => hw.rd_blk (k := 2) 0 rfl rfl)) ?_
      refine WR.val (G0 rfl) rfl rfl (.move rfl rfl) ?_
      refine WR.dw0 (G0 rfl) rfl (.mapUpdate 3 KT_39 rfl Tryz.underlying218 rfl rfl rfl rfl) ?_
      rintro _ _ ⟨rfl, rfl⟩
      refine WR.nil ?_
      refine WA.mark ?_
      exact WA.rounded 1 rfl hrec.state hrec.pending (.cons _ (.refl _)) ⟨rfl, by rw [atM, ← hi]; rfl⟩
    have hC := back1F (fun k T => T = [En.lp lp rec, En.blk b4 [.map (some m2)] 218, En.mp m2 dv (Value.int .i64) (atM l k)]) l A cap v6 (.func (.yield lp) #[] #[]) _ w (by omega) (hw.slf0 hS) (fun hn ad had => ((hw.less (List.sublist_cons_self _ _)).perm (.swap _ _ _)).arg_apart hS (by decide) hn had) rfl hY
    refine (hC.perm (.swap _ _ _)).mono ?_
    rintro u hs ⟨T, rfl, rfl⟩
    exact ⟨_, .swap _ _ _, rfl⟩
  · subst hp
    refine WA.mark ?_
    refine WA.seq ?_
    refine WA.region ?_
    refine WR.val (G0 rfl) rfl rfl (.assign rfl rfl) ?_
    refine WR.nilrow 222 2 ?_
    refine WR.nil ?_
    refine WA.seq ?_
    refine WA.seq ?_
    refine WA.region ?_
    refine WR.val (G0 rfl) rfl rfl (.move rfl rfl) ?_
    refine WR.val (G0 rfl) rfl rfl (.len rfl ST_22.1 rfl) ?_
    refine WR.val (G0 rfl) rfl rfl (.move rfl rfl) ?_
    refine WR.nil ?_
    refine WA.block ?_
    refine WA.loopK (γ := Nat × Option Addr × Nat) [(0, _), (2, _), (3, _), (19, _)] [_, _, _, _] (fun q => [(6, .slice q.2.1 (faultsTo l q.1).length q.2.2), (20, .int .i64 (q.1 : Int))]) (fun q => [En.row q.2.1 (faultsTo l q.1).length q.2.2 222 2 ((faultsTo l q.1).flatMap fc)]) (fun q => q.1 ≤ l.length) (fun q => l.length - q.1) (0, none, 0) (.cons rfl (.cons rfl (.cons rfl (.cons rfl (.nil _))))) (.cons rfl (.cons rfl (.nil _))) (.refl _) (by simp) ?_
    intro q hk
    have hfl := faultsTo_len l q.1
    have hfs := faultsTo_succ l q.1
    refine WA.seq ?_
    refine WA.region ?_
    refine WR.val (G0 rfl) rfl rfl (.lss rfl rfl rfl) ?_
    refine WR.nil ?_
    refine WA.seq ?_
    refine WA.cond rfl (fun h11 => ?_) (fun h11 => ?_)
    · have f12 := h11
      try simp only [decide_eq_true_eq, decide_eq_false_iff_not, Bool.not_eq_true', Bool.not_eq_false', Int.not_lt, Int.not_le] at f12
      refine WA.skip ?_
      refine WA.seq ?_
      refine WA.block ?_
      refine WA.seq ?_
      refine WA.region ?_
      refine WR.val (G0 rfl) rfl rfl (.move rfl rfl) ?_
      refine WR.val (G0 rfl) rfl rfl (.assign rfl rfl) ?_
      refine WR.nil ?_
      refine WA.seq ?_
      refine WA.region ?_
      refine WR.val (G0 rfl) rfl rfl (.move rfl rfl) ?_
      refine WR.val (G0 rfl) rfl rfl (.load1 rfl NA_218 rfl (fun _ hw => hw.rd_blk (k := 1) 3 rfl rfl)) ?_
      refine WR.val (G0 rfl) rfl rfl (.move rfl rfl) ?_
      refine WR.dw (G0 rfl) rfl rfl (.callv (caps := []) rfl rfl rfl EN_168 (fun w hw => flawF l A cap _ (hw.slf0 hS) hl _ (atM l l.length) (hw.mpf 4 rfl) (atM_all l) q.1 (by omega))) ?_
      rintro _ _ ⟨rfl, rfl⟩
      refine WR.val (G0 rfl) rfl rfl (.assign rfl rfl) ?_
      refine WR.nil ?_
      refine WA.seq ?_
      refine WA.region ?_
      refine WR.val (G0 rfl) rfl rfl (.move rfl rfl) ?_
      refine WR.val (G0 rfl) rfl rfl (.neq rfl rfl rfl) ?_
      refine WR.nil ?_
      refine WA.cond rfl (fun h14 => ?_) (fun h14 => ?_)
      · have f15 := h14
        try simp only [decide_eq_true_eq, decide_eq_false_iff_not, Bool.not_eq_true', Bool.not_eq_false', Int.not_lt, Int.not_le] at f15
        refine WA.region ?_
        refine WR.val (G0 rfl) rfl rfl (.move rfl rfl) ?_
        refine WR.val (G0 rfl) rfl rfl (.move rfl rfl) ?_
        refine WR.val (G0 rfl) rfl rfl (.move rfl rfl) ?_
        refine WR.val (G0 rfl) rfl rfl (.build (vs := [_, _]) [.int .i64 0, .int .i64 0] [0, 1] rfl rfl rfl (fun _ => by kernel_rfl)) ?_
        refine WR.dw (G0 rfl) rfl rfl (.buildSlice (k := 2) (e := 222) (vs := [_, _]) rfl rfl rfl (fun _ => by kernel_rfl) rfl) ?_
        rintro _ _ ⟨b17, rfl, rfl⟩
        refine WR.dw (G0 rfl) rfl rfl (.append 1 rfl ST_154.1 ZT_222 rfl (by decide) rfl rfl rfl (fun _ hw => hw.slf_blk 0 rfl rfl (by simp [maxLen])) (by intro u hu; simp at hu; rcases hu with rfl | rfl <;> rfl) (by omega) (by omega)) ?_
        rintro _ _ ⟨A18, c19, rfl, rfl⟩
        refine WR.val (G0 rfl) rfl rfl (.assign rfl rfl) ?_
        refine WR.nil ?_
        refine WA.mark ?_
        refine WA.region ?_
        refine WR.val (G0 rfl) rfl rfl (.add rfl rfl rfl (by omega) (by omega)) ?_
        refine WR.val (G0 rfl) rfl rfl (.move rfl rfl) ?_
        refine WR.nil ?_
        rw [if_neg (by simp_all)] at hfs
        refine WA.roweq 1 rfl (faultsTo l (q.1 + 1)).length ((faultsTo l (q.1 + 1)).flatMap fc) (by rw [hfs]; simp) (by rw [hfs, flat_snoc]) ?_
        exact WA.roundK (q.1 + 1, A18, c19) (.cons rfl (.cons rfl (.cons rfl (.cons rfl (.nil _))))) (.cons (Eq.trans (b := some (.slice A18 ((faultsTo l q.1).length + 1) c19)) rfl (by rw [hfs, List.length_append]; rfl)) (.cons rfl (.nil _))) (.cons _ (.refl _)) (by dsimp only; omega) (by dsimp only; omega)
      · have f20 := h14
        try simp only [decide_eq_true_eq, decide_eq_false_iff_not, Bool.not_eq_true', Bool.not_eq_false', Int.not_lt, Int.not_le] at f20
        refine WA.skip ?_
        refine WA.mark ?_
        refine WA.region ?_
        refine WR.val (G0 rfl) rfl rfl (.add rfl rfl rfl (by omega) (by omega)) ?_
        refine WR.val (G0 rfl) rfl rfl (.move rfl rfl) ?_
        refine WR.nil ?_
        rw [if_pos (by simp_all), List.append_nil] at hfs
        refine WA.roweq 0 rfl (faultsTo l (q.1 + 1)).length ((faultsTo l (q.1 + 1)).flatMap fc) (by rw [hfs]) (by rw [hfs]) ?_
        exact WA.roundK (q.1 + 1, q.2.1, q.2.2) (.cons rfl (.cons rfl (.cons rfl (.cons rfl (.nil _))))) (.cons (Eq.trans (b := some (.slice q.2.1 (faultsTo l q.1).length q.2.2)) rfl (by rw [hfs])) (.cons rfl (.nil _))) (.refl _) (by dsimp only; omega) (by dsimp only; omega)
    · have f21 := h11
      try simp only [decide_eq_true_eq, decide_eq_false_iff_not, Bool.not_eq_true', Bool.not_eq_false', Int.not_lt, Int.not_le] at f21
      refine WA.exit rfl ?_
      refine WA.seq ?_
      refine WA.region ?_
      refine WR.val (G0 rfl) rfl rfl (.move rfl rfl) ?_
      refine WR.val (G0 rfl) rfl rfl (.assign rfl rfl) ?_
      refine WR.nil ?_
      have hE : faultsTo l q.1 = faults l := by rw [faults, show q.1 = l.length by omega]
      rw [hE]
      refine WA.retq ?_
      refine RT.undefer 1 rfl ?_
      exact RT.ret1 rfl rfl (.cons_cons _ (.cons _ (.cons _ (.cons _ .slnil)))) ⟨_, _, rfl, rfl⟩
set_option maxRecDepth 20000 in
/-- redpencil/shape.Well -/
theorem wellF (l : List Nd) (A : Option Addr) (cap : Nat) (w : World) (hS : SlN w A l) (hl : l.length ≤ 800000) : Ct Tryz.prog 33 #[.slice A l.length cap] [] w (fun u hs => u = .bool (well l) ∧ hs = []) := by
  refine Ct.intro Tryz.func33 rfl Tryz.ntmps33 rfl ?_
  refine WA.seq ?_
  refine WA.region ?_
  refine WR.val (G0 rfl) rfl rfl (.assign rfl rfl) ?_
  refine WR.nil ?_
  refine WA.seq ?_
  refine WA.region ?_
  refine WR.val (G0 rfl) rfl rfl (.move rfl rfl) ?_
  refine WR.dw (G0 rfl) rfl rfl (.call0 (caps := []) rfl rfl rfl EN_109 (fun w hw => faultsF _ _ _ _ (hw.slf0 hS) (by first | omega | (simp; omega)))) ?_
  rintro _ _ ⟨_, ⟨v2, v3, rfl, rfl⟩, rfl⟩
  refine WR.val (G0 rfl) rfl rfl (.len rfl ST_154.1 rfl) ?_
  refine WR.val (G0 rfl) rfl rfl (.eql rfl rfl rfl) ?_
  refine WR.val (G0 rfl) rfl rfl (.assign rfl rfl) ?_
  refine WR.nil ?_
  exact WA.ret1 rfl rfl (List.nil_sublist _) ⟨by rw [well_iff]; congr 1; rw [Bool.eq_iff_iff]; simp, rfl⟩
end Go.Proofs.YtpbillinpjccdaaGreat.Fk
