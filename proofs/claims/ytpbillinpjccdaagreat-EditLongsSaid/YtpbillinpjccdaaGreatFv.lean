/- Contracts: the statement on long edits. -/
import Derived.Test.YtpbillinpjccdaaGreatFq
import Derived.Test.YtpbillinpjccdaaGreatJi
import Derived.Test.YtpbillinpjccdaaGreatRn
namespace Go.Proofs.YtpbillinpjccdaaGreat.Fv
open Go.RowKit Go.J Go.R Go.Proofs.YtpbillinpjccdaaGreat.Fa Go.Proofs.YtpbillinpjccdaaGreat.Fb Go.Proofs.YtpbillinpjccdaaGreat.Fc Go.Proofs.YtpbillinpjccdaaGreat.Fd Go.Proofs.YtpbillinpjccdaaGreat.Fe Go.Proofs.YtpbillinpjccdaaGreat.Fg Go.Proofs.YtpbillinpjccdaaGreat.Fh Go.Proofs.YtpbillinpjccdaaGreat.Fi Go.Proofs.YtpbillinpjccdaaGreat.Fj Go.Proofs.YtpbillinpjccdaaGreat.Fk Go.Proofs.YtpbillinpjccdaaGreat.Fl Go.Proofs.YtpbillinpjccdaaGreat.Fm Go.Proofs.YtpbillinpjccdaaGreat.Fn Go.Proofs.YtpbillinpjccdaaGreat.Fo Go.Proofs.YtpbillinpjccdaaGreat.Fp Go.Proofs.YtpbillinpjccdaaGreat.Fq
set_option linter.unusedVariables false
set_option linter.unusedSimpArgs false
theorem follows : Tryz.prog.follows .mixedOrders = true := by kernel_rfl
theorem AG_39 : AG Tryz.prog 39 2 := ⟨Tryz.isAgg39, Tryz.sizeOf39⟩
theorem AG_42 : AG Tryz.prog 42 6 := ⟨Tryz.isAgg42, Tryz.sizeOf42⟩
theorem EN_38 : Enters Tryz.prog 38 := enters_of Tryz.func38 (by kernel_rfl) rfl
theorem EN_42 : Enters Tryz.prog 42 := enters_of Tryz.func42 (by kernel_rfl) rfl
theorem EN_47 : Enters Tryz.prog 47 := enters_of Tryz.func47 (by kernel_rfl) rfl
theorem EN_59 : Enters Tryz.prog 59 := enters_of Tryz.func59 (by kernel_rfl) rfl
theorem EN_60 : Enters Tryz.prog 60 := enters_of Tryz.func60 (by kernel_rfl) rfl
theorem EQT_neq_39 {a b : Dot} : ∀ x y w, (do eqGuard .neq 39 x y (dv a) (dv b); binOp .neq 39 (dv a) (dv b) : Sem Value).run Tryz.prog w = .ok (.bool (!decide (a = b))) w := fun x y w => by
  simp [go_sem]
  by_cases a.r = b.r <;> by_cases a.c = b.c <;> simp [Dot.eq_iff, *]
theorem EQT_neq_42 {a b : Nd} : ∀ x y w, (do eqGuard .neq 42 x y (nv a) (nv b); binOp .neq 42 (nv a) (nv b) : Sem Value).run Tryz.prog w = .ok (.bool (!decide (a = b))) w := fun x y w => by
  simp [go_sem]
  by_cases a.d.r = b.d.r <;> by_cases a.d.c = b.d.c <;> by_cases a.p.r = b.p.r <;> by_cases a.p.c = b.p.c <;> by_cases a.t = b.t <;> by_cases a.x = b.x <;> simp [Nd.eq_iff, Dot.eq_iff, *]
theorem FA_42_0 : FA Tryz.prog 42 0 0 := fun ad w => by simp [Instr.fieldAt, run_underlying Tryz.underlying42, Instr.sureAddr, fieldPlace, Tryz.sizeOf39]
theorem FA_42_1 : FA Tryz.prog 42 1 2 := fun ad w => by simp [Instr.fieldAt, run_underlying Tryz.underlying42, Instr.sureAddr, fieldPlace, Tryz.sizeOf39]
theorem FA_42_3 : FA Tryz.prog 42 3 5 := fun ad w => by simp [Instr.fieldAt, run_underlying Tryz.underlying42, Instr.sureAddr, fieldPlace, Tryz.sizeOf21]
theorem NA_21 : NA Tryz.prog 21 := ⟨Tryz.isAgg21, Tryz.sizeOf21⟩
theorem ST_23 : ST Tryz.prog 23 42 6 := ⟨Tryz.underlying23, Tryz.sizeOf42⟩
theorem ST_63 : ST Tryz.prog 63 21 1 := ⟨Tryz.underlying63, Tryz.sizeOf21⟩
theorem ZT_21 : ZT Tryz.prog 21 (.int .i32 0) 1 4 := by unfold ZT; kernel_rfl
theorem ZT_42 : ZT Tryz.prog 42 (.agg #[.int .i64 0, .int .i64 0, .int .i64 0, .int .i64 0, .int .i64 0, .int .i32 0]) 6 48 := by unfold ZT; kernel_rfl

set_option maxRecDepth 20000 in
/-- redpencil/redpencillaw15.EditLongs -/
theorem editLongsF (n r : Int) (w : World) : Ct Tryz.prog 10 #[.int .i64 n, .int .i32 r] [] w (fun u hs => u = .bool true ∧ hs = []) := by
  refine Ct.intro Tryz.func10 rfl Tryz.ntmps10 rfl ?_
  refine WA.seq ?_
  refine WA.region ?_
  refine WR.val (G0 rfl) rfl rfl (.assign rfl rfl) ?_
  refine WR.nil ?_
  refine WA.seq ?_
  refine WA.seq ?_
  refine WA.region ?_
  refine WR.val (G0 rfl) rfl rfl (.move rfl rfl) ?_
  refine WR.val (G0 rfl) rfl rfl (.lss rfl rfl rfl) ?_
  refine WR.val (G0 rfl) rfl rfl (.move rfl rfl) ?_
  refine WR.split (d := 15) rfl (fun h2 => ?_) (fun h2 => ?_)
  · have f3 := h2
    try simp only [decide_eq_true_eq, decide_eq_false_iff_not, Bool.not_eq_true', Bool.not_eq_false', Int.not_lt, Int.not_le] at f3
    refine WR.off (Gf rfl rfl rfl h2) rfl rfl ?_
    refine WR.off (Gf rfl rfl rfl h2) rfl rfl ?_
    refine WR.val (G0 rfl) rfl rfl (.pick_t rfl rfl h2 rfl) ?_
    refine WR.val (G0 rfl) rfl rfl (.move rfl rfl) ?_
    refine WR.off (Gf rfl rfl rfl rfl) rfl rfl ?_
    refine WR.off (Gf rfl rfl rfl rfl) rfl rfl ?_
    refine WR.off (Gf rfl rfl rfl rfl) rfl rfl ?_
    refine WR.val (G0 rfl) rfl rfl (.pick_t rfl rfl rfl rfl) ?_
    refine WR.nil ?_
    refine WA.cond_t rfl rfl ?_
    refine WA.seq ?_
    refine WA.region ?_
    refine WR.dw (G0 rfl) rfl rfl (.callv (caps := []) rfl rfl rfl EN_38 (fun w hw => knownF _)) ?_
    rintro _ _ ⟨rfl, rfl⟩
    refine WR.val (G0 rfl) rfl rfl (.assign rfl rfl) ?_
    refine WR.nil ?_
    exact WA.ret1 rfl rfl (List.nil_sublist _) ⟨by simp_all, rfl⟩
  · have f4 := h2
    try simp only [decide_eq_true_eq, decide_eq_false_iff_not, Bool.not_eq_true', Bool.not_eq_false', Int.not_lt, Int.not_le] at f4
    refine WR.val (Gt rfl rfl rfl h2) rfl rfl (.move rfl rfl) ?_
    refine WR.val (Gt rfl rfl rfl h2) rfl rfl (.gtr rfl rfl rfl) ?_
    refine WR.val (G0 rfl) rfl rfl (.pick_f rfl rfl h2 rfl) ?_
    refine WR.val (G0 rfl) rfl rfl (.move rfl rfl) ?_
    refine WR.split (d := 19) rfl (fun h6 => ?_) (fun h6 => ?_)
    · have f7 := h6
      try simp only [decide_eq_true_eq, decide_eq_false_iff_not, Bool.not_eq_true', Bool.not_eq_false', Int.not_lt, Int.not_le] at f7
      refine WR.off (Gf rfl rfl rfl h6) rfl rfl ?_
      refine WR.off (Gf rfl rfl rfl h6) rfl rfl ?_
      refine WR.off (Gf rfl rfl rfl h6) rfl rfl ?_
      refine WR.val (G0 rfl) rfl rfl (.pick_t rfl rfl h6 rfl) ?_
      refine WR.nil ?_
      refine WA.cond_t rfl rfl ?_
      refine WA.seq ?_
      refine WA.region ?_
      refine WR.dw (G0 rfl) rfl rfl (.callv (caps := []) rfl rfl rfl EN_38 (fun w hw => knownF _)) ?_
      rintro _ _ ⟨rfl, rfl⟩
      refine WR.val (G0 rfl) rfl rfl (.assign rfl rfl) ?_
      refine WR.nil ?_
      exact WA.ret1 rfl rfl (List.nil_sublist _) ⟨by simp_all, rfl⟩
    · have f8 := h6
      try simp only [decide_eq_true_eq, decide_eq_false_iff_not, Bool.not_eq_true', Bool.not_eq_false', Int.not_lt, Int.not_le] at f8
      refine WR.val (Gt rfl rfl rfl h6) rfl rfl (.move rfl rfl) ?_
      refine WR.dw (Gt rfl rfl rfl h6) rfl rfl (.callv (caps := []) rfl rfl rfl EN_59 (fun w hw => jisruneF _ w)) ?_
      rintro _ _ ⟨rfl, rfl⟩
      refine WR.val (Gt rfl rfl rfl h6) rfl rfl (.not rfl rfl) ?_
      refine WR.val (G0 rfl) rfl rfl (.pick_f rfl rfl h6 rfl) ?_
      refine WR.nil ?_
      refine WA.cond rfl (fun h11 => ?_) (fun h11 => ?_)
      · have f12 := h11
        try simp only [decide_eq_true_eq, decide_eq_false_iff_not, Bool.not_eq_true', Bool.not_eq_false', Int.not_lt, Int.not_le] at f12
        refine WA.seq ?_
        refine WA.region ?_
        refine WR.dw (G0 rfl) rfl rfl (.callv (caps := []) rfl rfl rfl EN_38 (fun w hw => knownF _)) ?_
        rintro _ _ ⟨rfl, rfl⟩
        refine WR.val (G0 rfl) rfl rfl (.assign rfl rfl) ?_
        refine WR.nil ?_
        exact WA.ret1 rfl rfl (List.nil_sublist _) ⟨by simp_all, rfl⟩
      · have f13 := h11
        try simp only [decide_eq_true_eq, decide_eq_false_iff_not, Bool.not_eq_true', Bool.not_eq_false', Int.not_lt, Int.not_le] at f13
        refine WA.skip ?_
        refine WA.seq ?_
        have hrv : rvalid r = true := by simp_all
        obtain ⟨m, rfl⟩ := Int.eq_ofNat_of_zero_le (show (0 : Int) ≤ n by omega)
        have hI := long_insert (n := m) hrv (by omega)
        have hD := long_delete (n := m) hrv (by omega)
        have hcl := longC_len m r
        refine WA.region ?_
        refine WR.val (G0 rfl) rfl rfl (.move rfl rfl) ?_
        refine WR.dw (G0 rfl) rfl rfl (.make rc 0 rfl rfl rfl Tryz.underlying63 ZT_21 rfl rfl (by decide) (by omega) (by decide)) ?_
        rintro _ _ ⟨b15, rfl, rfl⟩
        refine WR.val (G0 rfl) rfl rfl (.assign rfl rfl) ?_
        refine WR.nil ?_
        refine WA.seq ?_
        refine WA.seq ?_
        refine WA.region ?_
        refine WR.val (G0 rfl) rfl rfl (.assign rfl rfl) ?_
        refine WR.nil ?_
        refine WA.block ?_
        refine WA.loopK (γ := Nat × List Int) [(0, _), (1, _), (4, _)] [] (fun q => [(6, .int .i64 (q.1 : Int)), (5, .slice (some ⟨b15, 0, none⟩) q.2.length m)]) (fun q => [En.row (some ⟨b15, 0, none⟩) q.2.length m 21 1 (q.2.flatMap rc)]) (fun q => q.2.length = m ∧ ∀ j : Nat, j < q.1 → gx q.2 (j : Int) = r) (fun q => m - q.1) (0, List.replicate m 0) (.cons rfl (.cons rfl (.cons rfl (.nil _)))) (.cons rfl (.cons rfl (.nil _))) (.refl _) ⟨by simp, fun _ h => absurd h (by omega)⟩ ?_
        intro q hk
        obtain ⟨hql, hqr⟩ := hk
        refine WA.seq ?_
        refine WA.seq ?_
        refine WA.region ?_
        refine WR.val (G0 rfl) rfl rfl (.move rfl rfl) ?_
        refine WR.val (G0 rfl) rfl rfl (.move rfl rfl) ?_
        refine WR.val (G0 rfl) rfl rfl (.lss rfl rfl rfl) ?_
        refine WR.nil ?_
        refine WA.cond rfl (fun h17 => ?_) (fun h17 => ?_)
        · have f18 := h17
          try simp only [decide_eq_true_eq, decide_eq_false_iff_not, Bool.not_eq_true', Bool.not_eq_false', Int.not_lt, Int.not_le] at f18
          refine WA.skip ?_
          refine WA.seq ?_
          refine WA.block ?_
          refine WA.region ?_
          refine WR.val (G0 rfl) rfl rfl (.move rfl rfl) ?_
          refine WR.val (G0 rfl) rfl rfl (.move rfl rfl) ?_
          refine WR.val (G0 rfl) rfl rfl (.move rfl rfl) ?_
          refine WR.val (G0 rfl) rfl rfl (.ix rfl ST_63 rfl rfl (by omega) (by omega) (fun _ hw hn => (hw.slf_row 0 rfl).some_ hn)) ?_
          refine WR.dw0 (G0 rfl) rfl (.storeRow 0 rfl NA_21.2 rfl rfl [_] rfl rfl (by intro u hu; simp at hu; subst hu; rfl) rfl (by omega) (by decide)) ?_
          rintro _ _ ⟨rfl, rfl⟩
          refine WR.nil ?_
          refine WA.mark ?_
          refine WA.region ?_
          refine WR.val (G0 rfl) rfl rfl (.move rfl rfl) ?_
          refine WR.val (G0 rfl) rfl rfl (.add rfl rfl rfl (by omega) (by omega)) ?_
          refine WR.val (G0 rfl) rfl rfl (.assign rfl rfl) ?_
          refine WR.nil ?_
          refine WA.roweq 0 rfl (q.2.set q.1 r).length ((q.2.set q.1 r).flatMap rc) (by rw [List.length_set]) (put_setR q.2 q.1 r (by omega)) ?_
          exact WA.roundK (q.1 + 1, q.2.set q.1 r) (.cons rfl (.cons rfl (.cons rfl (.nil _)))) (.cons rfl (.cons (Eq.trans (b := some (.slice (some ⟨b15, 0, none⟩) q.2.length m)) rfl (by rw [List.length_set])) (.nil _))) (.refl _) ⟨by dsimp only; rw [List.length_set]; exact hql, set_upto (f := fun _ => r) hqr (by omega)⟩ (by dsimp only; omega)
        · have f19 := h17
          try simp only [decide_eq_true_eq, decide_eq_false_iff_not, Bool.not_eq_true', Bool.not_eq_false', Int.not_lt, Int.not_le] at f19
          refine WA.exit rfl ?_
          refine WA.seq ?_
          have hqe : q.2 = List.replicate m r := rep_eq hql fun j hj => hqr j (by omega)
          rw [hqe]
          refine WA.region ?_
          refine WR.dw (G0 rfl) rfl rfl (.callv (caps := []) rfl rfl rfl EN_60 (fun w hw => ldotF _ _ w)) ?_
          rintro _ _ ⟨rfl, rfl⟩
          refine WR.val (G0 rfl) rfl rfl (.move rfl rfl) ?_
          refine WR.dw (G0 rfl) rfl rfl (.call0 (caps := []) rfl rfl rfl EN_42 (fun w hw => insertEF [] none 0 _ (SlF.nil _ _ _) (by simp) ⟨1, 1⟩ 0 (List.replicate m r) _ _ (hw.slf_row 0 rfl) (by simp; omega))) ?_
          rintro _ _ ⟨_, ⟨v21, v22, rfl, rfl⟩, rfl⟩
          refine WR.val (G0 rfl) rfl rfl (.move rfl rfl) ?_
          refine WR.val (G0 rfl) rfl rfl (.extract (vs := [_, _]) rfl rfl rfl) ?_
          refine WR.val (G0 rfl) rfl rfl (.extract (vs := [_, _]) rfl rfl rfl) ?_
          refine WR.val (G0 rfl) rfl rfl (.assign rfl rfl) ?_
          refine WR.val (G0 rfl) rfl rfl (.assign rfl rfl) ?_
          refine WR.nil ?_
          refine WA.seq ?_
          refine WA.seq ?_
          refine WA.region ?_
          refine WR.val (G0 rfl) rfl rfl (.move rfl rfl) ?_
          refine WR.val (G0 rfl) rfl rfl (.gtr rfl rfl rfl) ?_
          refine WR.nil ?_
          refine WA.cond rfl (fun h24 => ?_) (fun h24 => ?_)
          · have f25 := h24
            try simp only [decide_eq_true_eq, decide_eq_false_iff_not, Bool.not_eq_true', Bool.not_eq_false', Int.not_lt, Int.not_le] at f25
            refine WA.seq ?_
            refine WA.seq ?_
            rw [if_pos (by omega)] at hI
            rw [hI]
            refine WA.region ?_
            refine WR.val (G0 rfl) rfl rfl (.move rfl rfl) ?_
            refine WR.val (G0 rfl) rfl rfl (.len rfl ST_23.1 rfl) ?_
            refine WR.val (G0 rfl) rfl rfl (.neq rfl rfl rfl) ?_
            refine WR.val (G0 rfl) rfl rfl (.move rfl rfl) ?_
            refine WR.val (Gt rfl rfl rfl (by simp)) rfl rfl (.move rfl rfl) ?_
            refine WR.val (Gt rfl rfl rfl (by simp)) rfl rfl (.neq rfl rfl rfl) ?_
            refine WR.val (G0 rfl) rfl rfl (.pick_f rfl rfl (by simp) rfl) ?_
            refine WR.nil ?_
            refine WA.cond_f rfl (by simp) ?_
            refine WA.skip ?_
            refine WA.region ?_
            refine WR.val (G0 rfl) rfl rfl (.move rfl rfl) ?_
            refine WR.dw (G0 rfl) rfl rfl (.make nc ⟨⟨0, 0⟩, ⟨0, 0⟩, 0, 0⟩ rfl rfl rfl Tryz.underlying23 ZT_42 rfl rfl (by decide) (by omega) (by decide)) ?_
            rintro _ _ ⟨b29, rfl, rfl⟩
            refine WR.val (G0 rfl) rfl rfl (.assign rfl rfl) ?_
            refine WR.nil ?_
            refine WA.seq ?_
            refine WA.seq ?_
            refine WA.region ?_
            refine WR.val (G0 rfl) rfl rfl (.move rfl rfl) ?_
            refine WR.val (G0 rfl) rfl rfl (.len rfl ST_23.1 rfl) ?_
            refine WR.val (G0 rfl) rfl rfl (.move rfl rfl) ?_
            refine WR.val (G0 rfl) rfl rfl (.neq rfl rfl rfl) ?_
            refine WR.val (G0 rfl) rfl rfl (.move rfl rfl) ?_
            refine WR.val (Gt rfl rfl rfl (by simp [hcl])) rfl rfl (.move rfl rfl) ?_
            refine WR.val (Gt rfl rfl rfl (by simp [hcl])) rfl rfl (.leq rfl rfl rfl) ?_
            refine WR.val (Gt rfl rfl rfl (by simp [hcl])) rfl rfl (.move rfl rfl) ?_
            refine WR.off (Gf rfl rfl rfl (by simp; omega)) rfl rfl ?_
            refine WR.off (Gf rfl rfl rfl (by simp; omega)) rfl rfl ?_
            refine WR.val (Gt rfl rfl rfl (by simp [hcl])) rfl rfl (.pick_f rfl rfl (by simp; omega) rfl) ?_
            refine WR.val (G0 rfl) rfl rfl (.pick_f rfl rfl (by simp [hcl]) rfl) ?_
            refine WR.nil ?_
            refine WA.cond_f rfl rfl ?_
            refine WA.skip ?_
            refine WA.seq ?_
            refine WA.seq ?_
            refine WA.region ?_
            refine WR.val (G0 rfl) rfl rfl (.assign rfl rfl) ?_
            refine WR.nil ?_
            refine WA.block ?_
            refine WA.loopK (γ := Nat × Option Addr × Nat × List Nd) [(0, _), (1, _), (8, _)] [_, _] (fun q => [(7, .slice q.2.1 q.2.2.2.length q.2.2.1), (9, .int .i64 (q.1 : Int))]) (fun q => [En.row q.2.1 q.2.2.2.length q.2.2.1 42 6 (q.2.2.2.flatMap nc)]) (fun q => q.2.2.2.length = m ∧ (∀ j : Nat, j < q.1 → gx q.2.2.2 (j : Int) = longN r j) ∧ (m ≤ 10000 → q.2.2.2 = longC m r)) (fun q => m - q.1) (0, _, _, List.replicate m (⟨⟨0, 0⟩, ⟨0, 0⟩, 0, 0⟩ : Nd)) (.cons rfl (.cons rfl (.cons rfl (.nil _)))) (.cons rfl (.cons rfl (.nil _))) (.refl _) ⟨by simp, fun _ h => absurd h (by omega), fun h => absurd h (by omega)⟩ ?_
            intro q hk
            obtain ⟨hql, hqn, hqc⟩ := hk
            have hgx : q.1 < m → m ≤ 10000 → gx q.2.2.2 (q.1 : Int) = longN r q.1 := fun h h' => by rw [hqc h', longC_gx h]
            refine WA.seq ?_
            refine WA.seq ?_
            refine WA.region ?_
            refine WR.val (G0 rfl) rfl rfl (.move rfl rfl) ?_
            refine WR.val (G0 rfl) rfl rfl (.move rfl rfl) ?_
            refine WR.val (G0 rfl) rfl rfl (.lss rfl rfl rfl) ?_
            refine WR.nil ?_
            refine WA.cond rfl (fun h33 => ?_) (fun h33 => ?_)
            · have f34 := h33
              try simp only [decide_eq_true_eq, decide_eq_false_iff_not, Bool.not_eq_true', Bool.not_eq_false', Int.not_lt, Int.not_le] at f34
              refine WA.skip ?_
              refine WA.seq ?_
              refine WA.block ?_
              refine WA.seq ?_
              refine WA.region ?_
              refine WR.val (G0 rfl) rfl rfl (.move rfl rfl) ?_
              refine WR.val (G0 rfl) rfl rfl (.add rfl rfl rfl (by omega) (by omega)) ?_
              refine WR.dw (G0 rfl) rfl rfl (.callv (caps := []) rfl rfl rfl EN_60 (fun w hw => ldotF _ _ w)) ?_
              rintro _ _ ⟨rfl, rfl⟩
              refine WR.val (G0 rfl) rfl rfl (.move rfl rfl) ?_
              refine WR.val (G0 rfl) rfl rfl (.add rfl rfl rfl (by omega) (by omega)) ?_
              refine WR.val (G0 rfl) rfl rfl (.move rfl rfl) ?_
              refine WR.val (G0 rfl) rfl rfl (.build (vs := [_, _, _, _, _, _]) [.int .i64 0, .int .i64 0, .int .i64 0, .int .i64 0, .int .i64 0, .int .i32 0] [0, 2, 4, 5] rfl rfl rfl (fun _ => by kernel_rfl)) ?_
              refine WR.dw (G0 rfl) rfl rfl (.alloc (vs := [_, _, _, _, _, _]) rfl ZT_42 rfl) ?_
              rintro _ _ ⟨b36, rfl, rfl⟩
              refine WR.dw0 (G0 rfl) rfl (.store (i := 0) rfl AG_42.2 rfl rfl [_, _, _, _, _, _] rfl rfl (by intro u hu; simp at hu; rcases hu with rfl | rfl | rfl | rfl | rfl | rfl <;> rfl) rfl rfl) ?_
              rintro _ _ ⟨rfl, rfl⟩
              refine WR.nil ?_
              refine WA.seq ?_
              refine WA.seq ?_
              refine WA.region ?_
              refine WR.val (G0 rfl) rfl rfl (.move rfl rfl) ?_
              refine WR.val (G0 rfl) rfl rfl (.gtr rfl rfl rfl) ?_
              refine WR.nil ?_
              refine WA.cond rfl (fun h38 => ?_) (fun h38 => ?_)
              · have f39 := h38
                try simp only [decide_eq_true_eq, decide_eq_false_iff_not, Bool.not_eq_true', Bool.not_eq_false', Int.not_lt, Int.not_le] at f39
                refine WA.region ?_
                refine WR.val (G0 rfl) rfl rfl (.move rfl rfl) ?_
                refine WR.dw (G0 rfl) rfl rfl (.callv (caps := []) rfl rfl rfl EN_60 (fun w hw => ldotF _ _ w)) ?_
                rintro _ _ ⟨rfl, rfl⟩
                refine WR.val (G0 rfl) rfl rfl (.fa rfl FA_42_1 rfl) ?_
                refine WR.dw0 (G0 rfl) rfl (.store (i := 0) rfl AG_39.2 rfl rfl [_, _] rfl rfl (by intro u hu; simp at hu; rcases hu with rfl | rfl <;> rfl) rfl rfl) ?_
                rintro _ _ ⟨rfl, rfl⟩
                refine WR.nil ?_
                refine WA.seq ?_
                refine WA.seq ?_
                refine WA.blkeq 0 rfl (nc (longN r q.1)) (nc_long_pos (by omega)) ?_
                refine WA.draws0 follows ?_
                refine WH.take 0 rfl (Pf_blind _ _ _ _ _) (by kernel_rfl) (by kernel_rfl) (by kernel_rfl) (.refl _) (G0 rfl) rfl rfl (.move rfl rfl) ?_
                refine WH.take 1 rfl (Pf_blind _ _ _ _ _) (by kernel_rfl) (by kernel_rfl) (by kernel_rfl) (.refl _) (G0 rfl) rfl rfl (.leq rfl rfl rfl) ?_
                refine WH.take 2 rfl (Pf_blind _ _ _ _ _) (by kernel_rfl) (by kernel_rfl) (by kernel_rfl) (.refl _) (G0 rfl) rfl rfl (.move rfl rfl) ?_
                refine WH.off 3 rfl (Pf_blind _ _ _ _ _) (by kernel_rfl) (by kernel_rfl) (by kernel_rfl) (.refl _) (Gf rfl rfl rfl (by simp; omega)) rfl rfl ?_
                refine WH.off 4 rfl (Pf_blind _ _ _ _ _) (by kernel_rfl) (by kernel_rfl) (by kernel_rfl) (.refl _) (Gf rfl rfl rfl (by simp; omega)) rfl rfl ?_
                refine WH.off 5 rfl (Pf_blind _ _ _ _ _) (by kernel_rfl) (by kernel_rfl) (by kernel_rfl) (.refl _) (Gf rfl rfl rfl (by simp; omega)) rfl rfl ?_
                refine WH.off 6 rfl (Pf_blind _ _ _ _ _) (by kernel_rfl) (by kernel_rfl) (by kernel_rfl) (.refl _) (Gf rfl rfl rfl (by simp; omega)) rfl rfl ?_
                refine WH.off 7 rfl (Pf_blind _ _ _ _ _) (by kernel_rfl) (by kernel_rfl) (by kernel_rfl) (.refl _) (Gf rfl rfl rfl (by simp; omega)) rfl rfl ?_
                refine WH.off 8 rfl (Pf_blind _ _ _ _ _) (by kernel_rfl) (by kernel_rfl) (by kernel_rfl) (.refl _) (Gf rfl rfl rfl (by simp; omega)) rfl rfl ?_
                refine WH.take 9 rfl (Pf_blind _ _ _ _ _) (by kernel_rfl) (by kernel_rfl) (by kernel_rfl) (.refl _) (G0 rfl) rfl rfl (.pick_f rfl rfl (by simp; omega) rfl) ?_
                refine WH.done (by kernel_rfl) ?_
                refine WA.cond_f rfl rfl ?_
                refine WA.skip ?_
                refine WA.region ?_
                refine WR.val (G0 rfl) rfl rfl (.move rfl rfl) ?_
                refine WR.val (G0 rfl) rfl rfl (.move rfl rfl) ?_
                refine WR.val (G0 rfl) rfl rfl (.loadK (vs := [_, _, _, _, _, _]) rfl AG_42 rfl (fun _ hw => hw.rd_blk (k := 6) 0 rfl rfl)) ?_
                refine WR.val (G0 rfl) rfl rfl (.ix rfl ST_23 rfl rfl (by omega) (by omega) (fun _ hw hn => (hw.slf_row 1 rfl).some_ hn)) ?_
                refine WR.dw0 (G0 rfl) rfl (.storeRow 1 rfl AG_42.2 rfl rfl (nc _) rfl rfl (one_nc _) rfl (by omega) (by decide)) ?_
                rintro _ _ ⟨rfl, rfl⟩
                refine WR.nil ?_
                refine WA.mark ?_
                refine WA.region ?_
                refine WR.val (G0 rfl) rfl rfl (.move rfl rfl) ?_
                refine WR.val (G0 rfl) rfl rfl (.add rfl rfl rfl (by omega) (by omega)) ?_
                refine WR.val (G0 rfl) rfl rfl (.assign rfl rfl) ?_
                refine WR.nil ?_
                refine WA.roweq 1 rfl (q.2.2.2.set q.1 (longN r q.1)).length ((q.2.2.2.set q.1 (longN r q.1)).flatMap nc) (by rw [List.length_set]) (put_set q.2.2.2 q.1 (longN r q.1) (by omega)) ?_
                exact WA.roundK (q.1 + 1, q.2.1, q.2.2.1, (q.2.2.2.set q.1 (longN r q.1))) (.cons rfl (.cons rfl (.cons rfl (.nil _)))) (.cons (Eq.trans (b := some (.slice q.2.1 q.2.2.2.length q.2.2.1)) rfl (by rw [List.length_set])) (.cons rfl (.nil _))) (.cons _ (.refl _)) (long_rn hql hqn hqc (by omega)) (by dsimp only; omega)
              · have f41 := h38
                try simp only [decide_eq_true_eq, decide_eq_false_iff_not, Bool.not_eq_true', Bool.not_eq_false', Int.not_lt, Int.not_le] at f41
                refine WA.skip ?_
                refine WA.seq ?_
                refine WA.seq ?_
                refine WA.blkeq 0 rfl (nc (longN r q.1)) (nc_long_zero (by omega)) ?_
                refine WA.draws0 follows ?_
                refine WH.take 0 rfl (Pf_blind _ _ _ _ _) (by kernel_rfl) (by kernel_rfl) (by kernel_rfl) (.refl _) (G0 rfl) rfl rfl (.move rfl rfl) ?_
                refine WH.take 1 rfl (Pf_blind _ _ _ _ _) (by kernel_rfl) (by kernel_rfl) (by kernel_rfl) (.refl _) (G0 rfl) rfl rfl (.leq rfl rfl rfl) ?_
                refine WH.take 2 rfl (Pf_blind _ _ _ _ _) (by kernel_rfl) (by kernel_rfl) (by kernel_rfl) (.refl _) (G0 rfl) rfl rfl (.move rfl rfl) ?_
                refine WH.off 3 rfl (Pf_blind _ _ _ _ _) (by kernel_rfl) (by kernel_rfl) (by kernel_rfl) (.refl _) (Gf rfl rfl rfl (by simp; omega)) rfl rfl ?_
                refine WH.off 4 rfl (Pf_blind _ _ _ _ _) (by kernel_rfl) (by kernel_rfl) (by kernel_rfl) (.refl _) (Gf rfl rfl rfl (by simp; omega)) rfl rfl ?_
                refine WH.off 5 rfl (Pf_blind _ _ _ _ _) (by kernel_rfl) (by kernel_rfl) (by kernel_rfl) (.refl _) (Gf rfl rfl rfl (by simp; omega)) rfl rfl ?_
                refine WH.off 6 rfl (Pf_blind _ _ _ _ _) (by kernel_rfl) (by kernel_rfl) (by kernel_rfl) (.refl _) (Gf rfl rfl rfl (by simp; omega)) rfl rfl ?_
                refine WH.off 7 rfl (Pf_blind _ _ _ _ _) (by kernel_rfl) (by kernel_rfl) (by kernel_rfl) (.refl _) (Gf rfl rfl rfl (by simp; omega)) rfl rfl ?_
                refine WH.off 8 rfl (Pf_blind _ _ _ _ _) (by kernel_rfl) (by kernel_rfl) (by kernel_rfl) (.refl _) (Gf rfl rfl rfl (by simp; omega)) rfl rfl ?_
                refine WH.take 9 rfl (Pf_blind _ _ _ _ _) (by kernel_rfl) (by kernel_rfl) (by kernel_rfl) (.refl _) (G0 rfl) rfl rfl (.pick_f rfl rfl (by simp; omega) rfl) ?_
                refine WH.done (by kernel_rfl) ?_
                refine WA.cond_f rfl rfl ?_
                refine WA.skip ?_
                refine WA.region ?_
                refine WR.val (G0 rfl) rfl rfl (.move rfl rfl) ?_
                refine WR.val (G0 rfl) rfl rfl (.move rfl rfl) ?_
                refine WR.val (G0 rfl) rfl rfl (.loadK (vs := [_, _, _, _, _, _]) rfl AG_42 rfl (fun _ hw => hw.rd_blk (k := 6) 0 rfl rfl)) ?_
                refine WR.val (G0 rfl) rfl rfl (.ix rfl ST_23 rfl rfl (by omega) (by omega) (fun _ hw hn => (hw.slf_row 1 rfl).some_ hn)) ?_
                refine WR.dw0 (G0 rfl) rfl (.storeRow 1 rfl AG_42.2 rfl rfl (nc _) rfl rfl (one_nc _) rfl (by omega) (by decide)) ?_
                rintro _ _ ⟨rfl, rfl⟩
                refine WR.nil ?_
                refine WA.mark ?_
                refine WA.region ?_
                refine WR.val (G0 rfl) rfl rfl (.move rfl rfl) ?_
                refine WR.val (G0 rfl) rfl rfl (.add rfl rfl rfl (by omega) (by omega)) ?_
                refine WR.val (G0 rfl) rfl rfl (.assign rfl rfl) ?_
                refine WR.nil ?_
                refine WA.roweq 1 rfl (q.2.2.2.set q.1 (longN r q.1)).length ((q.2.2.2.set q.1 (longN r q.1)).flatMap nc) (by rw [List.length_set]) (put_set q.2.2.2 q.1 (longN r q.1) (by omega)) ?_
                exact WA.roundK (q.1 + 1, q.2.1, q.2.2.1, (q.2.2.2.set q.1 (longN r q.1))) (.cons rfl (.cons rfl (.cons rfl (.nil _)))) (.cons (Eq.trans (b := some (.slice q.2.1 q.2.2.2.length q.2.2.1)) rfl (by rw [List.length_set])) (.cons rfl (.nil _))) (.cons _ (.refl _)) (long_rn hql hqn hqc (by omega)) (by dsimp only; omega)
            · have f43 := h33
              try simp only [decide_eq_true_eq, decide_eq_false_iff_not, Bool.not_eq_true', Bool.not_eq_false', Int.not_lt, Int.not_le] at f43
              refine WA.exit rfl ?_
              refine WA.seq ?_
              have hqe : q.2.2.2 = longC m r := long_eq hql fun j hj => hqn j (by omega)
              rw [hqe]
              refine WA.region ?_
              refine WR.val (G0 rfl) rfl rfl (.move rfl rfl) ?_
              refine WR.val (G0 rfl) rfl rfl (.move rfl rfl) ?_
              refine WR.dw (G0 rfl) rfl rfl (.call0 (caps := []) rfl rfl rfl EN_47 (fun w hw => deleteEF (longC m r) _ _ _ (hw.slf_row 0 rfl) (by rw [longC_len]; omega) 0 m)) ?_
              rintro _ _ ⟨_, ⟨v45, v46, rfl, rfl⟩, rfl⟩
              refine WR.val (G0 rfl) rfl rfl (.move rfl rfl) ?_
              refine WR.val (G0 rfl) rfl rfl (.extract (vs := [_, _]) rfl rfl rfl) ?_
              refine WR.val (G0 rfl) rfl rfl (.extract (vs := [_, _]) rfl rfl rfl) ?_
              refine WR.val (G0 rfl) rfl rfl (.assign rfl rfl) ?_
              refine WR.val (G0 rfl) rfl rfl (.assign rfl rfl) ?_
              refine WR.nil ?_
              refine WA.seq ?_
              refine WA.seq ?_
              rw [if_pos (by omega)] at hD
              rw [hD]
              refine WA.region ?_
              refine WR.val (G0 rfl) rfl rfl (.move rfl rfl) ?_
              refine WR.val (G0 rfl) rfl rfl (.gtr rfl rfl rfl) ?_
              refine WR.nil ?_
              refine WA.cond_t rfl (by simp; omega) ?_
              refine WA.seq ?_
              refine WA.region ?_
              refine WR.val (G0 rfl) rfl rfl (.move rfl rfl) ?_
              refine WR.val (G0 rfl) rfl rfl (.len rfl ST_23.1 rfl) ?_
              refine WR.val (G0 rfl) rfl rfl (.eql rfl rfl rfl) ?_
              refine WR.val (G0 rfl) rfl rfl (.move rfl rfl) ?_
              refine WR.val (Gt rfl rfl rfl (by simp)) rfl rfl (.move rfl rfl) ?_
              refine WR.val (Gt rfl rfl rfl (by simp)) rfl rfl (.eql rfl rfl rfl) ?_
              refine WR.val (G0 rfl) rfl rfl (.pick_t rfl rfl (by simp) rfl) ?_
              refine WR.val (G0 rfl) rfl rfl (.move rfl rfl) ?_
              refine WR.dw (Gt rfl rfl rfl (by simp)) rfl rfl (.callv (caps := []) rfl rfl rfl EN_38 (fun w hw => knownF _)) ?_
              rintro _ _ ⟨rfl, rfl⟩
              refine WR.val (G0 rfl) rfl rfl (.pick_t rfl rfl (by simp) rfl) ?_
              refine WR.val (G0 rfl) rfl rfl (.assign rfl rfl) ?_
              refine WR.nil ?_
              exact WA.ret1 rfl rfl (List.nil_sublist _) ⟨by simp_all, rfl⟩
          · have f50 := h24
            try simp only [decide_eq_true_eq, decide_eq_false_iff_not, Bool.not_eq_true', Bool.not_eq_false', Int.not_lt, Int.not_le] at f50
            refine WA.skip ?_
            refine WA.seq ?_
            refine WA.seq ?_
            rw [if_neg (by omega)] at hI
            rw [hI]
            refine WA.region ?_
            refine WR.val (G0 rfl) rfl rfl (.move rfl rfl) ?_
            refine WR.val (G0 rfl) rfl rfl (.len rfl ST_23.1 rfl) ?_
            refine WR.val (G0 rfl) rfl rfl (.move rfl rfl) ?_
            refine WR.val (G0 rfl) rfl rfl (.neq rfl rfl rfl) ?_
            refine WR.val (G0 rfl) rfl rfl (.move rfl rfl) ?_
            refine WR.val (Gt rfl rfl rfl (by simp [hcl])) rfl rfl (.move rfl rfl) ?_
            refine WR.val (Gt rfl rfl rfl (by simp [hcl])) rfl rfl (.leq rfl rfl rfl) ?_
            refine WR.val (Gt rfl rfl rfl (by simp [hcl])) rfl rfl (.move rfl rfl) ?_
            refine WR.val (Gt rfl rfl rfl (by simp; omega)) rfl rfl (.move rfl rfl) ?_
            refine WR.val (Gt rfl rfl rfl (by simp; omega)) rfl rfl (.neq rfl rfl rfl) ?_
            refine WR.val (Gt rfl rfl rfl (by simp [hcl])) rfl rfl (.pick_t rfl rfl (by simp; omega) rfl) ?_
            refine WR.val (G0 rfl) rfl rfl (.pick_f rfl rfl (by simp [hcl]) rfl) ?_
            refine WR.nil ?_
            refine WA.cond_f rfl (by simp) ?_
            refine WA.skip ?_
            refine WA.seq ?_
            refine WA.seq ?_
            refine WA.region ?_
            refine WR.val (G0 rfl) rfl rfl (.assign rfl rfl) ?_
            refine WR.nil ?_
            refine WA.block ?_
            refine WA.loopK (γ := Nat × Option Addr × Nat × List Nd) [(0, _), (1, _), (8, _)] [_] (fun q => [(7, .slice q.2.1 q.2.2.2.length q.2.2.1), (9, .int .i64 (q.1 : Int))]) (fun q => [En.row q.2.1 q.2.2.2.length q.2.2.1 42 6 (q.2.2.2.flatMap nc)]) (fun q => q.2.2.2.length = m ∧ (∀ j : Nat, j < q.1 → gx q.2.2.2 (j : Int) = longN r j) ∧ (m ≤ 10000 → q.2.2.2 = longC m r)) (fun q => m - q.1) (0, _, _, longC m r) (.cons rfl (.cons rfl (.cons rfl (.nil _)))) (.cons rfl (.cons rfl (.nil _))) (.refl _) ⟨longC_len m r, fun _ h => absurd h (by omega), fun _ => rfl⟩ ?_
            intro q hk
            obtain ⟨hql, hqn, hqc⟩ := hk
            have hgx : q.1 < m → m ≤ 10000 → gx q.2.2.2 (q.1 : Int) = longN r q.1 := fun h h' => by rw [hqc h', longC_gx h]
            refine WA.seq ?_
            refine WA.seq ?_
            refine WA.region ?_
            refine WR.val (G0 rfl) rfl rfl (.move rfl rfl) ?_
            refine WR.val (G0 rfl) rfl rfl (.move rfl rfl) ?_
            refine WR.val (G0 rfl) rfl rfl (.lss rfl rfl rfl) ?_
            refine WR.nil ?_
            refine WA.cond rfl (fun h55 => ?_) (fun h55 => ?_)
            · have f56 := h55
              try simp only [decide_eq_true_eq, decide_eq_false_iff_not, Bool.not_eq_true', Bool.not_eq_false', Int.not_lt, Int.not_le] at f56
              refine WA.skip ?_
              refine WA.seq ?_
              refine WA.block ?_
              refine WA.seq ?_
              refine WA.region ?_
              refine WR.val (G0 rfl) rfl rfl (.move rfl rfl) ?_
              refine WR.val (G0 rfl) rfl rfl (.add rfl rfl rfl (by omega) (by omega)) ?_
              refine WR.dw (G0 rfl) rfl rfl (.callv (caps := []) rfl rfl rfl EN_60 (fun w hw => ldotF _ _ w)) ?_
              rintro _ _ ⟨rfl, rfl⟩
              refine WR.val (G0 rfl) rfl rfl (.move rfl rfl) ?_
              refine WR.val (G0 rfl) rfl rfl (.add rfl rfl rfl (by omega) (by omega)) ?_
              refine WR.val (G0 rfl) rfl rfl (.move rfl rfl) ?_
              refine WR.val (G0 rfl) rfl rfl (.build (vs := [_, _, _, _, _, _]) [.int .i64 0, .int .i64 0, .int .i64 0, .int .i64 0, .int .i64 0, .int .i32 0] [0, 2, 4, 5] rfl rfl rfl (fun _ => by kernel_rfl)) ?_
              refine WR.dw (G0 rfl) rfl rfl (.alloc (vs := [_, _, _, _, _, _]) rfl ZT_42 rfl) ?_
              rintro _ _ ⟨b58, rfl, rfl⟩
              refine WR.dw0 (G0 rfl) rfl (.store (i := 0) rfl AG_42.2 rfl rfl [_, _, _, _, _, _] rfl rfl (by intro u hu; simp at hu; rcases hu with rfl | rfl | rfl | rfl | rfl | rfl <;> rfl) rfl rfl) ?_
              rintro _ _ ⟨rfl, rfl⟩
              refine WR.nil ?_
              refine WA.seq ?_
              refine WA.seq ?_
              refine WA.region ?_
              refine WR.val (G0 rfl) rfl rfl (.move rfl rfl) ?_
              refine WR.val (G0 rfl) rfl rfl (.gtr rfl rfl rfl) ?_
              refine WR.nil ?_
              refine WA.cond rfl (fun h60 => ?_) (fun h60 => ?_)
              · have f61 := h60
                try simp only [decide_eq_true_eq, decide_eq_false_iff_not, Bool.not_eq_true', Bool.not_eq_false', Int.not_lt, Int.not_le] at f61
                refine WA.region ?_
                refine WR.val (G0 rfl) rfl rfl (.move rfl rfl) ?_
                refine WR.dw (G0 rfl) rfl rfl (.callv (caps := []) rfl rfl rfl EN_60 (fun w hw => ldotF _ _ w)) ?_
                rintro _ _ ⟨rfl, rfl⟩
                refine WR.val (G0 rfl) rfl rfl (.fa rfl FA_42_1 rfl) ?_
                refine WR.dw0 (G0 rfl) rfl (.store (i := 0) rfl AG_39.2 rfl rfl [_, _] rfl rfl (by intro u hu; simp at hu; rcases hu with rfl | rfl <;> rfl) rfl rfl) ?_
                rintro _ _ ⟨rfl, rfl⟩
                refine WR.nil ?_
                refine WA.seq ?_
                refine WA.seq ?_
                refine WA.blkeq 0 rfl (nc (longN r q.1)) (nc_long_pos (by omega)) ?_
                refine WA.draws0 follows ?_
                refine WH.take 0 rfl (Pf_blind _ _ _ _ _) (by kernel_rfl) (by kernel_rfl) (by kernel_rfl) (.refl _) (G0 rfl) rfl rfl (.move rfl rfl) ?_
                refine WH.take 1 rfl (Pf_blind _ _ _ _ _) (by kernel_rfl) (by kernel_rfl) (by kernel_rfl) (.refl _) (G0 rfl) rfl rfl (.leq rfl rfl rfl) ?_
                refine WH.take 2 rfl (Pf_blind _ _ _ _ _) (by kernel_rfl) (by kernel_rfl) (by kernel_rfl) (.refl _) (G0 rfl) rfl rfl (.move rfl rfl) ?_
                refine WH.take 3 rfl (Pf_blind _ _ _ _ _) (by kernel_rfl) (by kernel_rfl) (by kernel_rfl) (.refl _) (Gt rfl rfl rfl (by simp; omega)) rfl rfl (.move rfl rfl) ?_
                refine WH.take 4 rfl (Pf_blind _ _ _ _ _) (by kernel_rfl) (by kernel_rfl) (by kernel_rfl) (.refl _) (Gt rfl rfl rfl (by simp; omega)) rfl rfl (.move rfl rfl) ?_
                refine WH.take 5 rfl (Pf_blind _ _ _ _ _) (by kernel_rfl) (by kernel_rfl) (by kernel_rfl) (.refl _) (Gt rfl rfl rfl (by simp; omega)) rfl rfl (.ix rfl ST_23 rfl rfl (by omega) (by omega) (fun _ hw hn => (hw.slf_row 1 rfl).some_ hn)) ?_
                refine WH.take 6 rfl (Pf_blind _ _ _ _ _) (by kernel_rfl) (by kernel_rfl) (by kernel_rfl) (.refl _) (Gt rfl rfl rfl (by simp; omega)) rfl rfl (.loadK (vs := [_, _, _, _, _, _]) rfl AG_42 rfl (fun _ hw => rdN (hw.slf_row 1 rfl) (by omega) (by omega))) ?_
                refine WH.take 7 rfl (Pf_blind _ _ _ _ _) (by kernel_rfl) (by kernel_rfl) (by kernel_rfl) (.refl _) (Gt rfl rfl rfl (by simp; omega)) rfl rfl (.loadK (vs := [_, _, _, _, _, _]) rfl AG_42 rfl (fun _ hw => hw.rd_blk (k := 6) 0 rfl rfl)) ?_
                refine WH.take 8 rfl (Pf_blind _ _ _ _ _) (by kernel_rfl) (by kernel_rfl) (by kernel_rfl) (.refl _) (Gt rfl rfl rfl (by simp; omega)) rfl rfl (.bin rfl rfl rfl EQT_neq_42) ?_
                refine WH.take 9 rfl (Pf_blind _ _ _ _ _) (by kernel_rfl) (by kernel_rfl) (by kernel_rfl) (.refl _) (G0 rfl) rfl rfl (.pick_t rfl rfl (by simp; omega) rfl) ?_
                refine WH.done (by kernel_rfl) ?_
                refine WA.cond_f rfl (by rw [hgx (by omega) (by omega)]; simp) ?_
                refine WA.skip ?_
                refine WA.region ?_
                refine WR.val (G0 rfl) rfl rfl (.move rfl rfl) ?_
                refine WR.val (G0 rfl) rfl rfl (.move rfl rfl) ?_
                refine WR.val (G0 rfl) rfl rfl (.loadK (vs := [_, _, _, _, _, _]) rfl AG_42 rfl (fun _ hw => hw.rd_blk (k := 6) 0 rfl rfl)) ?_
                refine WR.val (G0 rfl) rfl rfl (.ix rfl ST_23 rfl rfl (by omega) (by omega) (fun _ hw hn => (hw.slf_row 1 rfl).some_ hn)) ?_
                refine WR.dw0 (G0 rfl) rfl (.storeRow 1 rfl AG_42.2 rfl rfl (nc _) rfl rfl (one_nc _) rfl (by omega) (by decide)) ?_
                rintro _ _ ⟨rfl, rfl⟩
                refine WR.nil ?_
                refine WA.mark ?_
                refine WA.region ?_
                refine WR.val (G0 rfl) rfl rfl (.move rfl rfl) ?_
                refine WR.val (G0 rfl) rfl rfl (.add rfl rfl rfl (by omega) (by omega)) ?_
                refine WR.val (G0 rfl) rfl rfl (.assign rfl rfl) ?_
                refine WR.nil ?_
                refine WA.roweq 1 rfl (q.2.2.2.set q.1 (longN r q.1)).length ((q.2.2.2.set q.1 (longN r q.1)).flatMap nc) (by rw [List.length_set]) (put_set q.2.2.2 q.1 (longN r q.1) (by omega)) ?_
                exact WA.roundK (q.1 + 1, q.2.1, q.2.2.1, (q.2.2.2.set q.1 (longN r q.1))) (.cons rfl (.cons rfl (.cons rfl (.nil _)))) (.cons (Eq.trans (b := some (.slice q.2.1 q.2.2.2.length q.2.2.1)) rfl (by rw [List.length_set])) (.cons rfl (.nil _))) (.cons _ (.refl _)) (long_rn hql hqn hqc (by omega)) (by dsimp only; omega)
              · have f64 := h60
                try simp only [decide_eq_true_eq, decide_eq_false_iff_not, Bool.not_eq_true', Bool.not_eq_false', Int.not_lt, Int.not_le] at f64
                refine WA.skip ?_
                refine WA.seq ?_
                refine WA.seq ?_
                refine WA.blkeq 0 rfl (nc (longN r q.1)) (nc_long_zero (by omega)) ?_
                refine WA.draws0 follows ?_
                refine WH.take 0 rfl (Pf_blind _ _ _ _ _) (by kernel_rfl) (by kernel_rfl) (by kernel_rfl) (.refl _) (G0 rfl) rfl rfl (.move rfl rfl) ?_
                refine WH.take 1 rfl (Pf_blind _ _ _ _ _) (by kernel_rfl) (by kernel_rfl) (by kernel_rfl) (.refl _) (G0 rfl) rfl rfl (.leq rfl rfl rfl) ?_
                refine WH.take 2 rfl (Pf_blind _ _ _ _ _) (by kernel_rfl) (by kernel_rfl) (by kernel_rfl) (.refl _) (G0 rfl) rfl rfl (.move rfl rfl) ?_
                refine WH.take 3 rfl (Pf_blind _ _ _ _ _) (by kernel_rfl) (by kernel_rfl) (by kernel_rfl) (.refl _) (Gt rfl rfl rfl (by simp; omega)) rfl rfl (.move rfl rfl) ?_
                refine WH.take 4 rfl (Pf_blind _ _ _ _ _) (by kernel_rfl) (by kernel_rfl) (by kernel_rfl) (.refl _) (Gt rfl rfl rfl (by simp; omega)) rfl rfl (.move rfl rfl) ?_
                refine WH.take 5 rfl (Pf_blind _ _ _ _ _) (by kernel_rfl) (by kernel_rfl) (by kernel_rfl) (.refl _) (Gt rfl rfl rfl (by simp; omega)) rfl rfl (.ix rfl ST_23 rfl rfl (by omega) (by omega) (fun _ hw hn => (hw.slf_row 1 rfl).some_ hn)) ?_
                refine WH.take 6 rfl (Pf_blind _ _ _ _ _) (by kernel_rfl) (by kernel_rfl) (by kernel_rfl) (.refl _) (Gt rfl rfl rfl (by simp; omega)) rfl rfl (.loadK (vs := [_, _, _, _, _, _]) rfl AG_42 rfl (fun _ hw => rdN (hw.slf_row 1 rfl) (by omega) (by omega))) ?_
                refine WH.take 7 rfl (Pf_blind _ _ _ _ _) (by kernel_rfl) (by kernel_rfl) (by kernel_rfl) (.refl _) (Gt rfl rfl rfl (by simp; omega)) rfl rfl (.loadK (vs := [_, _, _, _, _, _]) rfl AG_42 rfl (fun _ hw => hw.rd_blk (k := 6) 0 rfl rfl)) ?_
                refine WH.take 8 rfl (Pf_blind _ _ _ _ _) (by kernel_rfl) (by kernel_rfl) (by kernel_rfl) (.refl _) (Gt rfl rfl rfl (by simp; omega)) rfl rfl (.bin rfl rfl rfl EQT_neq_42) ?_
                refine WH.take 9 rfl (Pf_blind _ _ _ _ _) (by kernel_rfl) (by kernel_rfl) (by kernel_rfl) (.refl _) (G0 rfl) rfl rfl (.pick_t rfl rfl (by simp; omega) rfl) ?_
                refine WH.done (by kernel_rfl) ?_
                refine WA.cond_f rfl (by rw [hgx (by omega) (by omega)]; simp) ?_
                refine WA.skip ?_
                refine WA.region ?_
                refine WR.val (G0 rfl) rfl rfl (.move rfl rfl) ?_
                refine WR.val (G0 rfl) rfl rfl (.move rfl rfl) ?_
                refine WR.val (G0 rfl) rfl rfl (.loadK (vs := [_, _, _, _, _, _]) rfl AG_42 rfl (fun _ hw => hw.rd_blk (k := 6) 0 rfl rfl)) ?_
                refine WR.val (G0 rfl) rfl rfl (.ix rfl ST_23 rfl rfl (by omega) (by omega) (fun _ hw hn => (hw.slf_row 1 rfl).some_ hn)) ?_
                refine WR.dw0 (G0 rfl) rfl (.storeRow 1 rfl AG_42.2 rfl rfl (nc _) rfl rfl (one_nc _) rfl (by omega) (by decide)) ?_
                rintro _ _ ⟨rfl, rfl⟩
                refine WR.nil ?_
                refine WA.mark ?_
                refine WA.region ?_
                refine WR.val (G0 rfl) rfl rfl (.move rfl rfl) ?_
                refine WR.val (G0 rfl) rfl rfl (.add rfl rfl rfl (by omega) (by omega)) ?_
                refine WR.val (G0 rfl) rfl rfl (.assign rfl rfl) ?_
                refine WR.nil ?_
                refine WA.roweq 1 rfl (q.2.2.2.set q.1 (longN r q.1)).length ((q.2.2.2.set q.1 (longN r q.1)).flatMap nc) (by rw [List.length_set]) (put_set q.2.2.2 q.1 (longN r q.1) (by omega)) ?_
                exact WA.roundK (q.1 + 1, q.2.1, q.2.2.1, (q.2.2.2.set q.1 (longN r q.1))) (.cons rfl (.cons rfl (.cons rfl (.nil _)))) (.cons (Eq.trans (b := some (.slice q.2.1 q.2.2.2.length q.2.2.1)) rfl (by rw [List.length_set])) (.cons rfl (.nil _))) (.cons _ (.refl _)) (long_rn hql hqn hqc (by omega)) (by dsimp only; omega)
            · have f67 := h55
              try simp only [decide_eq_true_eq, decide_eq_false_iff_not, Bool.not_eq_true', Bool.not_eq_false', Int.not_lt, Int.not_le] at f67
              refine WA.exit rfl ?_
              refine WA.seq ?_
              have hqe : q.2.2.2 = longC m r := long_eq hql fun j hj => hqn j (by omega)
              rw [hqe]
              refine WA.region ?_
              refine WR.val (G0 rfl) rfl rfl (.move rfl rfl) ?_
              refine WR.val (G0 rfl) rfl rfl (.move rfl rfl) ?_
              refine WR.dw (G0 rfl) rfl rfl (.call0 (caps := []) rfl rfl rfl EN_47 (fun w hw => deleteEF (longC m r) _ _ _ (hw.slf_row 0 rfl) (by rw [longC_len]; omega) 0 m)) ?_
              rintro _ _ ⟨_, ⟨v69, v70, rfl, rfl⟩, rfl⟩
              refine WR.val (G0 rfl) rfl rfl (.move rfl rfl) ?_
              refine WR.val (G0 rfl) rfl rfl (.extract (vs := [_, _]) rfl rfl rfl) ?_
              refine WR.val (G0 rfl) rfl rfl (.extract (vs := [_, _]) rfl rfl rfl) ?_
              refine WR.val (G0 rfl) rfl rfl (.assign rfl rfl) ?_
              refine WR.val (G0 rfl) rfl rfl (.assign rfl rfl) ?_
              refine WR.nil ?_
              refine WA.seq ?_
              refine WA.seq ?_
              rw [if_neg (by omega)] at hD
              rw [hD]
              refine WA.region ?_
              refine WR.val (G0 rfl) rfl rfl (.move rfl rfl) ?_
              refine WR.val (G0 rfl) rfl rfl (.gtr rfl rfl rfl) ?_
              refine WR.nil ?_
              refine WA.cond_f rfl (by simp; omega) ?_
              refine WA.skip ?_
              refine WA.seq ?_
              refine WA.seq ?_
              refine WA.region ?_
              refine WR.val (G0 rfl) rfl rfl (.move rfl rfl) ?_
              refine WR.val (G0 rfl) rfl rfl (.len rfl ST_23.1 rfl) ?_
              refine WR.val (G0 rfl) rfl rfl (.move rfl rfl) ?_
              refine WR.val (G0 rfl) rfl rfl (.neq rfl rfl rfl) ?_
              refine WR.val (G0 rfl) rfl rfl (.move rfl rfl) ?_
              refine WR.split (d := 118) rfl (fun h73 => ?_) (fun h73 => ?_)
              · have f74 := h73
                try simp only [decide_eq_true_eq, decide_eq_false_iff_not, Bool.not_eq_true', Bool.not_eq_false', Int.not_lt, Int.not_le] at f74
                refine WR.off (Gf rfl rfl rfl h73) rfl rfl ?_
                refine WR.off (Gf rfl rfl rfl h73) rfl rfl ?_
                refine WR.val (G0 rfl) rfl rfl (.pick_t rfl rfl h73 rfl) ?_
                refine WR.nil ?_
                refine WA.cond_t rfl rfl ?_
                refine WA.seq ?_
                exfalso; simp_all
              · have f75 := h73
                try simp only [decide_eq_true_eq, decide_eq_false_iff_not, Bool.not_eq_true', Bool.not_eq_false', Int.not_lt, Int.not_le] at f75
                refine WR.val (Gt rfl rfl rfl h73) rfl rfl (.move rfl rfl) ?_
                refine WR.val (Gt rfl rfl rfl h73) rfl rfl (.neq rfl rfl rfl) ?_
                refine WR.val (G0 rfl) rfl rfl (.pick_f rfl rfl h73 rfl) ?_
                refine WR.nil ?_
                refine WA.cond rfl (fun h77 => ?_) (fun h77 => ?_)
                · have f78 := h77
                  try simp only [decide_eq_true_eq, decide_eq_false_iff_not, Bool.not_eq_true', Bool.not_eq_false', Int.not_lt, Int.not_le] at f78
                  refine WA.seq ?_
                  exfalso; simp_all
                · have f79 := h77
                  try simp only [decide_eq_true_eq, decide_eq_false_iff_not, Bool.not_eq_true', Bool.not_eq_false', Int.not_lt, Int.not_le] at f79
                  refine WA.skip ?_
                  refine WA.seq ?_
                  refine WA.seq ?_
                  refine WA.region ?_
                  refine WR.val (G0 rfl) rfl rfl (.assign rfl rfl) ?_
                  refine WR.nil ?_
                  refine WA.block ?_
                  refine WA.loopK (γ := Nat) [(0, _), (7, _), (11, _)] [_, _, _] (fun j => [(12, .int .i64 (j : Int))]) (fun j => []) (fun j => j ≤ m) (fun j => m - j) 0 (.cons rfl (.cons rfl (.cons rfl (.nil _)))) (.cons rfl (.nil _)) (.refl _) (by omega) ?_
                  intro j hj
                  refine WA.seq ?_
                  refine WA.seq ?_
                  refine WA.region ?_
                  refine WR.val (G0 rfl) rfl rfl (.move rfl rfl) ?_
                  refine WR.val (G0 rfl) rfl rfl (.move rfl rfl) ?_
                  refine WR.val (G0 rfl) rfl rfl (.lss rfl rfl rfl) ?_
                  refine WR.nil ?_
                  refine WA.cond rfl (fun h81 => ?_) (fun h81 => ?_)
                  · have f82 := h81
                    try simp only [decide_eq_true_eq, decide_eq_false_iff_not, Bool.not_eq_true', Bool.not_eq_false', Int.not_lt, Int.not_le] at f82
                    refine WA.skip ?_
                    refine WA.seq ?_
                    refine WA.block ?_
                    refine WA.seq ?_
                    have hjl : ((longC m r).map kill).length = m := by rw [List.length_map, hcl]
                    have hjl2 : ((longC m r).map kill, (0 : Int)).1.length = m := hjl
                    have hjk := long_kill (m := m) (r := r) (j := j) (by omega)
                    refine WA.draws0 follows ?_
                    refine WH.take 0 rfl (Pf_blind _ _ _ _ _) (by kernel_rfl) (by kernel_rfl) (by kernel_rfl) (.refl _) (G0 rfl) rfl rfl (.move rfl rfl) ?_
                    refine WH.take 1 rfl (Pf_blind _ _ _ _ _) (by kernel_rfl) (by kernel_rfl) (by kernel_rfl) (.refl _) (G0 rfl) rfl rfl (.move rfl rfl) ?_
                    refine WH.take 2 rfl (Pf_blind _ _ _ _ _) (by kernel_rfl) (by kernel_rfl) (by kernel_rfl) (.refl _) (G0 rfl) rfl rfl (.ix rfl ST_23 rfl rfl (by omega) (by omega) (fun _ hw hn => (hw.slf_row 0 rfl).some_ hn)) ?_
                    refine WH.take 3 rfl (Pf_blind _ _ _ _ _) (by kernel_rfl) (by kernel_rfl) (by kernel_rfl) (.refl _) (G0 rfl) rfl rfl (.fe rfl FA_42_0 rfl) ?_
                    refine WH.take 4 rfl (Pf_blind _ _ _ _ _) (by kernel_rfl) (by kernel_rfl) (by kernel_rfl) (.refl _) (G0 rfl) rfl rfl (.loadK (vs := [_, _]) rfl AG_39 rfl (fun _ hw => Rd.el (off := 0) (k := 2) (rdN (hw.slf_row 0 rfl) (by omega) (by omega)) rfl)) ?_
                    refine WH.take 5 rfl (Pf_blind _ _ _ _ _) (by kernel_rfl) (by kernel_rfl) (by kernel_rfl) (.refl _) (G0 rfl) rfl rfl (.move rfl rfl) ?_
                    refine WH.take 6 rfl (Pf_blind _ _ _ _ _) (by kernel_rfl) (by kernel_rfl) (by kernel_rfl) (.refl _) (G0 rfl) rfl rfl (.move rfl rfl) ?_
                    refine WH.take 7 rfl (Pf_blind _ _ _ _ _) (by kernel_rfl) (by kernel_rfl) (by kernel_rfl) (.refl _) (G0 rfl) rfl rfl (.ix rfl ST_23 rfl rfl (by omega) (by omega) (fun _ hw hn => (hw.slf_row 1 rfl).some_ hn)) ?_
                    refine WH.take 8 rfl (Pf_blind _ _ _ _ _) (by kernel_rfl) (by kernel_rfl) (by kernel_rfl) (.refl _) (G0 rfl) rfl rfl (.fe rfl FA_42_0 rfl) ?_
                    refine WH.take 9 rfl (Pf_blind _ _ _ _ _) (by kernel_rfl) (by kernel_rfl) (by kernel_rfl) (.refl _) (G0 rfl) rfl rfl (.loadK (vs := [_, _]) rfl AG_39 rfl (fun _ hw => Rd.el (off := 0) (k := 2) (rdN (hw.slf_row 1 rfl) (by omega) (by omega)) rfl)) ?_
                    refine WH.take 10 rfl (Pf_blind _ _ _ _ _) (by kernel_rfl) (by kernel_rfl) (by kernel_rfl) (.refl _) (G0 rfl) rfl rfl (.bin rfl rfl rfl EQT_neq_39) ?_
                    refine WH.take 11 rfl (Pf_blind _ _ _ _ _) (by kernel_rfl) (by kernel_rfl) (by kernel_rfl) (.refl _) (G0 rfl) rfl rfl (.move rfl rfl) ?_
                    refine WH.take 12 rfl (Pf_blind _ _ _ _ _) (by kernel_rfl) (by kernel_rfl) (by kernel_rfl) (.refl _) (Gt rfl rfl rfl (by rw [hjk.1]; simp)) rfl rfl (.move rfl rfl) ?_
                    refine WH.take 13 rfl (Pf_blind _ _ _ _ _) (by kernel_rfl) (by kernel_rfl) (by kernel_rfl) (.refl _) (Gt rfl rfl rfl (by rw [hjk.1]; simp)) rfl rfl (.move rfl rfl) ?_
                    refine WH.take 14 rfl (Pf_blind _ _ _ _ _) (by kernel_rfl) (by kernel_rfl) (by kernel_rfl) (.refl _) (Gt rfl rfl rfl (by rw [hjk.1]; simp)) rfl rfl (.ix rfl ST_23 rfl rfl (by omega) (by omega) (fun _ hw hn => (hw.slf_row 0 rfl).some_ hn)) ?_
                    refine WH.take 15 rfl (Pf_blind _ _ _ _ _) (by kernel_rfl) (by kernel_rfl) (by kernel_rfl) (.refl _) (Gt rfl rfl rfl (by rw [hjk.1]; simp)) rfl rfl (.fe rfl FA_42_3 rfl) ?_
                    refine WH.take 16 rfl (Pf_blind _ _ _ _ _) (by kernel_rfl) (by kernel_rfl) (by kernel_rfl) (.refl _) (Gt rfl rfl rfl (by rw [hjk.1]; simp)) rfl rfl (.load1 rfl NA_21 rfl (fun _ hw => Rd.el (off := 5) (k := 1) (rdN (hw.slf_row 0 rfl) (by omega) (by omega)) rfl)) ?_
                    refine WH.take 17 rfl (Pf_blind _ _ _ _ _) (by kernel_rfl) (by kernel_rfl) (by kernel_rfl) (.refl _) (Gt rfl rfl rfl (by rw [hjk.1]; simp)) rfl rfl (.neq rfl rfl rfl) ?_
                    refine WH.take 18 rfl (Pf_blind _ _ _ _ _) (by kernel_rfl) (by kernel_rfl) (by kernel_rfl) (.refl _) (G0 rfl) rfl rfl (.pick_f rfl rfl (by rw [hjk.1]; simp) rfl) ?_
                    refine WH.done (by kernel_rfl) ?_
                    refine WA.cond_f rfl (by simp [hjk.2]) ?_
                    refine WA.skip ?_
                    refine WA.mark ?_
                    refine WA.region ?_
                    refine WR.val (G0 rfl) rfl rfl (.move rfl rfl) ?_
                    refine WR.val (G0 rfl) rfl rfl (.add rfl rfl rfl (by omega) (by omega)) ?_
                    refine WR.val (G0 rfl) rfl rfl (.assign rfl rfl) ?_
                    refine WR.nil ?_
                    exact WA.roundK (j + 1) (.cons rfl (.cons rfl (.cons rfl (.nil _)))) (.cons rfl (.nil _)) (.refl _) (by omega) (by omega)
                  · have f85 := h81
                    try simp only [decide_eq_true_eq, decide_eq_false_iff_not, Bool.not_eq_true', Bool.not_eq_false', Int.not_lt, Int.not_le] at f85
                    refine WA.exit rfl ?_
                    refine WA.seq ?_
                    refine WA.region ?_
                    refine WR.dw (G0 rfl) rfl rfl (.callv (caps := []) rfl rfl rfl EN_38 (fun w hw => knownF _)) ?_
                    rintro _ _ ⟨rfl, rfl⟩
                    refine WR.val (G0 rfl) rfl rfl (.assign rfl rfl) ?_
                    refine WR.nil ?_
                    exact WA.ret1 rfl rfl (List.nil_sublist _) ⟨by simp_all, rfl⟩
end Go.Proofs.YtpbillinpjccdaaGreat.Fv
