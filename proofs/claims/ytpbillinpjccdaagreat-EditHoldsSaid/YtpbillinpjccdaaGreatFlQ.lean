/- Contracts: visible nodes. -/
import Derived.Test.YtpbillinpjccdaaGreatFkQ
namespace Go.Proofs.YtpbillinpjccdaaGreat.Fl
open Go.RowKit Go.J Go.R Go.Proofs.YtpbillinpjccdaaGreat.Fa Go.Proofs.YtpbillinpjccdaaGreat.Fb Go.Proofs.YtpbillinpjccdaaGreat.Fc Go.Proofs.YtpbillinpjccdaaGreat.Fd Go.Proofs.YtpbillinpjccdaaGreat.Fe Go.Proofs.YtpbillinpjccdaaGreat.Fg Go.Proofs.YtpbillinpjccdaaGreat.Fh Go.Proofs.YtpbillinpjccdaaGreat.Fi Go.Proofs.YtpbillinpjccdaaGreat.Fj Go.Proofs.YtpbillinpjccdaaGreat.Fk
set_option linter.unusedVariables false
set_option linter.unusedSimpArgs false
theorem AG_39 : AG Tryz.prog 39 2 := ⟨Tryz.isAgg39, Tryz.sizeOf39⟩
theorem AG_42 : AG Tryz.prog 42 6 := ⟨Tryz.isAgg42, Tryz.sizeOf42⟩
theorem EN_159 : Enters Tryz.prog 159 := enters_of Tryz.func159 (by kernel_rfl) rfl
theorem EN_166 : Enters Tryz.prog 166 := enters_of Tryz.func166 (by kernel_rfl) rfl
theorem EN_173 : Enters Tryz.prog 173 := enters_of Tryz.func173 (by kernel_rfl) rfl
theorem EN_174 : Enters Tryz.prog 174 := enters_of Tryz.func174 (by kernel_rfl) rfl
theorem EN_206 : Enters Tryz.prog 206 := enters_of Tryz.func206 (by kernel_rfl) rfl
theorem EN_35 : Enters Tryz.prog 35 := enters_of Tryz.func35 (by kernel_rfl) rfl
theorem FA_42_0 : FA Tryz.prog 42 0 0 := fun ad w => by simp [Instr.fieldAt, run_underlying Tryz.underlying42, Instr.sureAddr, fieldPlace, Tryz.sizeOf39]
theorem FA_42_3 : FA Tryz.prog 42 3 5 := fun ad w => by simp [Instr.fieldAt, run_underlying Tryz.underlying42, Instr.sureAddr, fieldPlace, Tryz.sizeOf21]
theorem NA_21 : NA Tryz.prog 21 := ⟨Tryz.isAgg21, Tryz.sizeOf21⟩
theorem NA_29 : NA Tryz.prog 29 := ⟨Tryz.isAgg29, Tryz.sizeOf29⟩
theorem ST_22 : ST Tryz.prog 22 42 6 := ⟨Tryz.underlying22, Tryz.sizeOf42⟩
theorem ST_229 : ST Tryz.prog 229 29 1 := ⟨Tryz.underlying229, Tryz.sizeOf29⟩
theorem ST_25 : ST Tryz.prog 25 39 2 := ⟨Tryz.underlying25, Tryz.sizeOf39⟩
theorem ST_63 : ST Tryz.prog 63 21 1 := ⟨Tryz.underlying63, Tryz.sizeOf21⟩
theorem ZT_21 : ZT Tryz.prog 21 (.int .i32 0) 1 4 := by unfold ZT; kernel_rfl
theorem ZT_39 : ZT Tryz.prog 39 (.agg #[.int .i64 0, .int .i64 0]) 2 16 := by unfold ZT; kernel_rfl
theorem ZT_42 : ZT Tryz.prog 42 (.agg #[.int .i64 0, .int .i64 0, .int .i64 0, .int .i64 0, .int .i64 0, .int .i32 0]) 6 48 := by unfold ZT; kernel_rfl
set_option maxRecDepth 20000 in
/-- redpencil/index.visible -/
theorem visibleF (l : List Nd) (A : Option Addr) (cap : Nat) (w : World) (hS : SlN w A l) (hl : l.length ≤ 800000) : Ct Tryz.prog 159 #[.slice A l.length cap] [] w (fun u hs => ∃ B c, u = .tuple #[.slice B (visR l).1.length c, .int .i64 (visR l).2] ∧ hs = [En.row B (visR l).1.length c 42 6 ((visR l).1.flatMap nc)]) := by
  refine Ct.intro Tryz.func159 rfl Tryz.ntmps159 rfl ?_
  refine WA.seq ?_
  refine WA.region ?_
  refine WR.val (G0 rfl) rfl rfl (.assign rfl rfl) ?_
  refine WR.val (G0 rfl) rfl rfl (.assign rfl rfl) ?_
  refine WR.nil ?_
  refine WA.seq ?_
  refine WA.region ?_
  refine WR.val (G0 rfl) rfl rfl (.move rfl rfl) ?_
  refine WR.dw (G0 rfl) rfl rfl (.call0 (caps := []) rfl rfl rfl EN_35 (fun w hw => orderF _ _ _ _ (hw.slf0 hS) (by first | omega | (simp; omega)))) ?_
  rintro _ _ ⟨_, ⟨v2, v3, rfl, rfl⟩, rfl⟩
  refine WR.val (G0 rfl) rfl rfl (.move rfl rfl) ?_
  refine WR.val (G0 rfl) rfl rfl (.extract (vs := [_, _]) rfl rfl rfl) ?_
  refine WR.val (G0 rfl) rfl rfl (.extract (vs := [_, _]) rfl rfl rfl) ?_
  refine WR.val (G0 rfl) rfl rfl (.assign rfl rfl) ?_
  refine WR.val (G0 rfl) rfl rfl (.assign rfl rfl) ?_
  refine WR.nil ?_
  refine WA.seq ?_
  refine WA.region ?_
  refine WR.val (G0 rfl) rfl rfl (.move rfl rfl) ?_
  refine WR.dw (G0 rfl) rfl rfl (.callo (caps := []) 0 rfl rfl rfl rfl EN_206 (fun w hw => deleteF _ _ _ 166 [] (fun n => decide (n.x = 0)) _ (by have := orderR_len l; omega) EN_166 (fun x W => deadF x W))) ?_
  rintro _ _ ⟨_, ⟨rfl, rfl⟩, rfl⟩
  refine WR.val (G0 rfl) rfl rfl (.move rfl rfl) ?_
  refine WR.val (G0 rfl) rfl rfl (.assign rfl rfl) ?_
  refine WR.val (G0 rfl) rfl rfl (.assign rfl rfl) ?_
  refine WR.nil ?_
  have hE := visR_eq l
  rw [← alive_eq] at hE
  rw [hE]
  exact WA.ret2 rfl rfl rfl (.refl _) ⟨_, _, rfl, rfl⟩
set_option maxRecDepth 20000 in
/-- redpencil/index.Runes -/
theorem runesF (l : List Nd) (A : Option Addr) (cap : Nat) (w : World) (hS : SlN w A l) (hl : l.length ≤ 800000) : Ct Tryz.prog 101 #[.slice A l.length cap] [] w (fun u hs => ∃ B c, u = .tuple #[.slice B (runesR l).1.length c, .int .i64 (runesR l).2] ∧ hs = [En.row B (runesR l).1.length c 21 1 ((runesR l).1.flatMap rc)]) := by
  refine Ct.intro Tryz.func101 rfl Tryz.ntmps101 rfl ?_
  refine WA.seq ?_
  refine WA.region ?_
  refine WR.val (G0 rfl) rfl rfl (.assign rfl rfl) ?_
  refine WR.val (G0 rfl) rfl rfl (.assign rfl rfl) ?_
  refine WR.nil ?_
  refine WA.seq ?_
  have hvl := visR_len l
  refine WA.region ?_
  refine WR.val (G0 rfl) rfl rfl (.move rfl rfl) ?_
  refine WR.dw (G0 rfl) rfl rfl (.call0 (caps := []) rfl rfl rfl EN_159 (fun w hw => visibleF _ _ _ _ (hw.slf0 hS) (by first | omega | (simp; omega)))) ?_
  rintro _ _ ⟨_, ⟨v2, v3, rfl, rfl⟩, rfl⟩
  refine WR.val (G0 rfl) rfl rfl (.move rfl rfl) ?_
  refine WR.val (G0 rfl) rfl rfl (.extract (vs := [_, _]) rfl rfl rfl) ?_
  refine WR.val (G0 rfl) rfl rfl (.extract (vs := [_, _]) rfl rfl rfl) ?_
  refine WR.val (G0 rfl) rfl rfl (.assign rfl rfl) ?_
  refine WR.val (G0 rfl) rfl rfl (.assign rfl rfl) ?_
  refine WR.nil ?_
  refine WA.seq ?_
  refine WA.region ?_
  refine WR.val (G0 rfl) rfl rfl (.assign rfl rfl) ?_
  refine WR.nilrow 21 1 ?_
  refine WR.nil ?_
  refine WA.seq ?_
  refine WA.seq ?_
  refine WA.region ?_
  refine WR.val (G0 rfl) rfl rfl (.move rfl rfl) ?_
  refine WR.val (G0 rfl) rfl rfl (.len rfl ST_22.1 rfl) ?_
  refine WR.val (G0 rfl) rfl rfl (.move rfl rfl) ?_
  refine WR.nil ?_
  refine WA.block ?_
  refine WA.loopK (γ := Nat × Option Addr × Nat) [(2, _), (3, _), (5, _), (14, _), (15, _)] [_] (fun q => [(6, .slice q.2.1 q.1 q.2.2), (16, .int .i64 (q.1 : Int))]) (fun q => [En.row q.2.1 q.1 q.2.2 21 1 ((((visR l).1.map Nd.x).take q.1).flatMap rc)]) (fun q => q.1 ≤ (visR l).1.length) (fun q => (visR l).1.length - q.1) (0, none, 0) (.cons rfl (.cons rfl (.cons rfl (.cons rfl (.cons rfl (.nil _)))))) (.cons rfl (.cons rfl (.nil _))) (.refl _) (by simp) ?_
  intro q hk
  refine WA.seq ?_
  refine WA.region ?_
  refine WR.val (G0 rfl) rfl rfl (.lss rfl rfl rfl) ?_
  refine WR.nil ?_
  refine WA.seq ?_
  refine WA.cond rfl (fun h6 => ?_) (fun h6 => ?_)
  · have f7 := h6
    try simp only [decide_eq_true_eq, decide_eq_false_iff_not, Bool.not_eq_true', Bool.not_eq_false', Int.not_lt, Int.not_le] at f7
    refine WA.skip ?_
    refine WA.seq ?_
    refine WA.block ?_
    refine WA.seq ?_
    refine WA.region ?_
    refine WR.val (G0 rfl) rfl rfl (.ix rfl ST_22 rfl rfl (by omega) (by omega) (fun _ hw hn => (hw.slf_row 1 rfl).some_ hn)) ?_
    refine WR.val (G0 rfl) rfl rfl (.loadK (vs := [_, _, _, _, _, _]) rfl AG_42 rfl (fun _ hw => rdN (hw.slf_row 1 rfl) (by omega) (by omega))) ?_
    refine WR.dw (G0 rfl) rfl rfl (.alloc (vs := [_, _, _, _, _, _]) rfl ZT_42 rfl) ?_
    rintro _ _ ⟨b9, rfl, rfl⟩
    refine WR.dw0 (G0 rfl) rfl (.store (i := 0) rfl AG_42.2 rfl rfl [_, _, _, _, _, _] rfl rfl (by intro u hu; simp at hu; rcases hu with rfl | rfl | rfl | rfl | rfl | rfl <;> rfl) rfl rfl) ?_
    rintro _ _ ⟨rfl, rfl⟩
    refine WR.nil ?_
    refine WA.region ?_
    refine WR.val (G0 rfl) rfl rfl (.move rfl rfl) ?_
    refine WR.val (G0 rfl) rfl rfl (.fa rfl FA_42_3 rfl) ?_
    refine WR.val (G0 rfl) rfl rfl (.load1 rfl NA_21 rfl (fun _ hw => hw.rd_blk (k := 1) 0 rfl rfl)) ?_
    refine WR.dw (G0 rfl) rfl rfl (.buildSlice (k := 1) (e := 21) (vs := [_]) rfl rfl rfl (fun _ => by kernel_rfl) rfl) ?_
    rintro _ _ ⟨b11, rfl, rfl⟩
    refine WR.dw (G0 rfl) rfl rfl (.append 2 rfl ST_63.1 ZT_21 rfl (by decide) rfl rfl rfl (fun _ hw => hw.slf_blk 0 rfl rfl (by simp [maxLen])) (by intro u hu; simp at hu; subst hu; rfl) (by omega) (by omega)) ?_
    rintro _ _ ⟨A12, c13, rfl, rfl⟩
    refine WR.val (G0 rfl) rfl rfl (.assign rfl rfl) ?_
    refine WR.nil ?_
    refine WA.mark ?_
    refine WA.region ?_
    refine WR.val (G0 rfl) rfl rfl (.add rfl rfl rfl (by omega) (by omega)) ?_
    refine WR.val (G0 rfl) rfl rfl (.move rfl rfl) ?_
    refine WR.nil ?_
    refine WA.roweq 2 rfl (q.1 + 1) ((((visR l).1.map Nd.x).take (q.1 + 1)).flatMap rc) rfl (by rw [take_map_gx Nd.x (visR l).1 (by omega), flat_snoc]) ?_
    exact WA.roundK (q.1 + 1, A12, c13) (.cons rfl (.cons rfl (.cons rfl (.cons rfl (.cons rfl (.nil _)))))) (.cons rfl (.cons rfl (.nil _))) (.cons _ (.cons _ (.refl _))) (by dsimp only; omega) (by dsimp only; omega)
  · have f14 := h6
    try simp only [decide_eq_true_eq, decide_eq_false_iff_not, Bool.not_eq_true', Bool.not_eq_false', Int.not_lt, Int.not_le] at f14
    refine WA.exit rfl ?_
    refine WA.seq ?_
    refine WA.region ?_
    refine WR.val (G0 rfl) rfl rfl (.move rfl rfl) ?_
    refine WR.val (G0 rfl) rfl rfl (.move rfl rfl) ?_
    refine WR.val (G0 rfl) rfl rfl (.assign rfl rfl) ?_
    refine WR.val (G0 rfl) rfl rfl (.assign rfl rfl) ?_
    refine WR.nil ?_
    have hn : q.1 = (runesR l).1.length := by rw [runesR_eq]; simp; omega
    refine WA.roweq 0 rfl (runesR l).1.length ((runesR l).1.flatMap rc) hn (by rw [hn, runesR_eq]; show List.flatMap rc (List.take ((visR l).1.map Nd.x).length ((visR l).1.map Nd.x)) = _; rw [List.take_length]) ?_
    exact WA.ret2 rfl rfl rfl (.cons_cons _ (.cons _ .slnil)) ⟨_, _, by rw [hn, runesR_eq], rfl⟩
set_option maxRecDepth 20000 in
/-- redpencil/index.Len -/
theorem ilenF (l : List Nd) (A : Option Addr) (cap : Nat) (w : World) (hS : SlN w A l) (hl : l.length ≤ 800000) : Ct Tryz.prog 149 #[.slice A l.length cap] [] w (fun u hs => u = .tuple #[.int .i64 ((visR l).1.length : Int), .int .i64 (visR l).2] ∧ hs = []) := by
  refine Ct.intro Tryz.func149 rfl Tryz.ntmps149 rfl ?_
  refine WA.seq ?_
  refine WA.region ?_
  refine WR.val (G0 rfl) rfl rfl (.assign rfl rfl) ?_
  refine WR.val (G0 rfl) rfl rfl (.assign rfl rfl) ?_
  refine WR.nil ?_
  refine WA.seq ?_
  refine WA.region ?_
  refine WR.val (G0 rfl) rfl rfl (.move rfl rfl) ?_
  refine WR.dw (G0 rfl) rfl rfl (.call0 (caps := []) rfl rfl rfl EN_159 (fun w hw => visibleF _ _ _ _ (hw.slf0 hS) (by first | omega | (simp; omega)))) ?_
  rintro _ _ ⟨_, ⟨v2, v3, rfl, rfl⟩, rfl⟩
  refine WR.val (G0 rfl) rfl rfl (.move rfl rfl) ?_
  refine WR.val (G0 rfl) rfl rfl (.extract (vs := [_, _]) rfl rfl rfl) ?_
  refine WR.val (G0 rfl) rfl rfl (.extract (vs := [_, _]) rfl rfl rfl) ?_
  refine WR.val (G0 rfl) rfl rfl (.assign rfl rfl) ?_
  refine WR.val (G0 rfl) rfl rfl (.assign rfl rfl) ?_
  refine WR.nil ?_
  refine WA.seq ?_
  refine WA.region ?_
  refine WR.val (G0 rfl) rfl rfl (.move rfl rfl) ?_
  refine WR.val (G0 rfl) rfl rfl (.len rfl ST_22.1 rfl) ?_
  refine WR.val (G0 rfl) rfl rfl (.move rfl rfl) ?_
  refine WR.val (G0 rfl) rfl rfl (.assign rfl rfl) ?_
  refine WR.val (G0 rfl) rfl rfl (.assign rfl rfl) ?_
  refine WR.nil ?_
  exact WA.ret2 rfl rfl rfl (List.nil_sublist _) ⟨rfl, rfl⟩
set_option maxRecDepth 20000 in
/-- redpencil/index.when -/
theorem iwhenF (b : Bool) (e : Int) (w : World) : Ct Tryz.prog 174 #[.bool b, .int .i64 e] [] w (fun u hs => u = .int .i64 (whenE b e) ∧ hs = []) := by
  refine Ct.intro Tryz.func174 rfl Tryz.ntmps174 rfl ?_
  refine WA.seq ?_
  refine WA.region ?_
  refine WR.val (G0 rfl) rfl rfl (.assign rfl rfl) ?_
  refine WR.nil ?_
  refine WA.seq ?_
  refine WA.seq ?_
  refine WA.region ?_
  refine WR.val (G0 rfl) rfl rfl (.move rfl rfl) ?_
  refine WR.nil ?_
  refine WA.cond rfl (fun h1 => ?_) (fun h1 => ?_)
  · have f2 := h1
    try simp only [decide_eq_true_eq, decide_eq_false_iff_not, Bool.not_eq_true', Bool.not_eq_false', Int.not_lt, Int.not_le] at f2
    refine WA.seq ?_
    refine WA.region ?_
    refine WR.val (G0 rfl) rfl rfl (.move rfl rfl) ?_
    refine WR.val (G0 rfl) rfl rfl (.assign rfl rfl) ?_
    refine WR.nil ?_
    exact WA.ret1 rfl rfl (List.nil_sublist _) ⟨by simp_all [whenE], rfl⟩
  · have f3 := h1
    try simp only [decide_eq_true_eq, decide_eq_false_iff_not, Bool.not_eq_true', Bool.not_eq_false', Int.not_lt, Int.not_le] at f3
    refine WA.skip ?_
    refine WA.seq ?_
    refine WA.region ?_
    refine WR.val (G0 rfl) rfl rfl (.assign rfl rfl) ?_
    refine WR.nil ?_
    exact WA.ret1 rfl rfl (List.nil_sublist _) ⟨by simp_all [whenE], rfl⟩
set_option maxRecDepth 20000 in
/-- redpencil/index.first -/
theorem ifirstF (l : List Int) (A : Option Addr) (cap : Nat) (w : World) (hS : SlI w A l) (hl : l.length ≤ 1000) : Ct Tryz.prog 173 #[.slice A l.length cap] [] w (fun u hs => u = .int .i64 (firstE l) ∧ hs = []) := by
  refine Ct.intro Tryz.func173 rfl Tryz.ntmps173 rfl ?_
  refine WA.seq ?_
  refine WA.region ?_
  refine WR.val (G0 rfl) rfl rfl (.assign rfl rfl) ?_
  refine WR.nil ?_
  refine WA.seq ?_
  refine WA.seq ?_
  refine WA.region ?_
  refine WR.val (G0 rfl) rfl rfl (.move rfl rfl) ?_
  refine WR.val (G0 rfl) rfl rfl (.len rfl ST_229.1 rfl) ?_
  refine WR.val (G0 rfl) rfl rfl (.move rfl rfl) ?_
  refine WR.nil ?_
  refine WA.block ?_
  refine WA.loopK (γ := Nat) [(5, _), (6, _)] [] (fun k => [(7, .int .i64 (k : Int))]) (fun k => []) (fun k => k ≤ l.length ∧ firstE (l.drop k) = firstE l) (fun k => l.length - k) 0 (.cons rfl (.cons rfl (.nil _))) (.cons rfl (.nil _)) .slnil ⟨by omega, rfl⟩ ?_
  intro k hk
  obtain ⟨hk, hd⟩ := hk
  refine WA.seq ?_
  refine WA.region ?_
  refine WR.val (G0 rfl) rfl rfl (.lss rfl rfl rfl) ?_
  refine WR.nil ?_
  refine WA.seq ?_
  refine WA.cond rfl (fun h2 => ?_) (fun h2 => ?_)
  · have f3 := h2
    try simp only [decide_eq_true_eq, decide_eq_false_iff_not, Bool.not_eq_true', Bool.not_eq_false', Int.not_lt, Int.not_le] at f3
    refine WA.skip ?_
    refine WA.seq ?_
    refine WA.block ?_
    refine WA.seq ?_
    refine WA.region ?_
    refine WR.val (G0 rfl) rfl rfl (.ix rfl ST_229 rfl rfl (by omega) (by omega) (fun _ hw hn => (hw.slf0 hS).some_ hn)) ?_
    refine WR.val (G0 rfl) rfl rfl (.load1 rfl NA_29 rfl (fun _ hw => rdI (hw.slf0 hS) (by omega) (by omega))) ?_
    refine WR.val (G0 rfl) rfl rfl (.assign rfl rfl) ?_
    refine WR.nil ?_
    refine WA.seq ?_
    refine WA.region ?_
    refine WR.val (G0 rfl) rfl rfl (.move rfl rfl) ?_
    refine WR.val (G0 rfl) rfl rfl (.neq rfl rfl rfl) ?_
    refine WR.nil ?_
    refine WA.cond rfl (fun h5 => ?_) (fun h5 => ?_)
    · have f6 := h5
      try simp only [decide_eq_true_eq, decide_eq_false_iff_not, Bool.not_eq_true', Bool.not_eq_false', Int.not_lt, Int.not_le] at f6
      refine WA.seq ?_
      refine WA.region ?_
      refine WR.val (G0 rfl) rfl rfl (.move rfl rfl) ?_
      refine WR.val (G0 rfl) rfl rfl (.assign rfl rfl) ?_
      refine WR.nil ?_
      have hq : k < l.length := by omega
      rw [drop_gx l hq, firstE, if_neg (by simp_all)] at hd
      exact WA.ret1 rfl rfl (List.nil_sublist _) ⟨by rw [← hd], rfl⟩
    · have f7 := h5
      try simp only [decide_eq_true_eq, decide_eq_false_iff_not, Bool.not_eq_true', Bool.not_eq_false', Int.not_lt, Int.not_le] at f7
      refine WA.skip ?_
      refine WA.mark ?_
      refine WA.region ?_
      refine WR.val (G0 rfl) rfl rfl (.add rfl rfl rfl (by omega) (by omega)) ?_
      refine WR.val (G0 rfl) rfl rfl (.move rfl rfl) ?_
      refine WR.nil ?_
      have hq : k < l.length := by omega
      rw [drop_gx l hq, firstE, if_pos (by simp_all)] at hd
      exact WA.roundK (k + 1) (.cons rfl (.cons rfl (.nil _))) (.cons rfl (.nil _)) .slnil ⟨by omega, hd⟩ (by omega)
  · have f8 := h2
    try simp only [decide_eq_true_eq, decide_eq_false_iff_not, Bool.not_eq_true', Bool.not_eq_false', Int.not_lt, Int.not_le] at f8
    refine WA.exit rfl ?_
    refine WA.seq ?_
    refine WA.region ?_
    refine WR.val (G0 rfl) rfl rfl (.assign rfl rfl) ?_
    refine WR.nil ?_
    rw [List.drop_of_length_le (by omega)] at hd
    exact WA.ret1 rfl rfl (List.nil_sublist _) ⟨by rw [← hd]; rfl, rfl⟩
set_option maxRecDepth 20000 in
/-- redpencil/index.Left -/
theorem leftF (l : List Nd) (A : Option Addr) (cap : Nat) (w : World) (hS : SlN w A l) (hl : l.length ≤ 800000) (i : Int) : Ct Tryz.prog 183 #[.slice A l.length cap, .int .i64 i] [] w (fun u hs => u = .tuple #[dv (leftR l i).1, .int .i64 (leftR l i).2] ∧ hs = []) := by
  refine Ct.intro Tryz.func183 rfl Tryz.ntmps183 rfl ?_
  refine WA.seq ?_
  refine WA.region ?_
  refine WR.dw (G0 rfl) rfl rfl (.alloc (vs := [_, _]) rfl ZT_39 rfl) ?_
  rintro _ _ ⟨b2, rfl, rfl⟩
  refine WR.val (G0 rfl) rfl rfl (.assign rfl rfl) ?_
  refine WR.nil ?_
  refine WA.seq ?_
  have hvl := visR_len l
  refine WA.region ?_
  refine WR.val (G0 rfl) rfl rfl (.move rfl rfl) ?_
  refine WR.dw (G0 rfl) rfl rfl (.call0 (caps := []) rfl rfl rfl EN_159 (fun w hw => visibleF _ _ _ _ (hw.slf0 hS) (by first | omega | (simp; omega)))) ?_
  rintro _ _ ⟨_, ⟨v4, v5, rfl, rfl⟩, rfl⟩
  refine WR.val (G0 rfl) rfl rfl (.move rfl rfl) ?_
  refine WR.val (G0 rfl) rfl rfl (.extract (vs := [_, _]) rfl rfl rfl) ?_
  refine WR.val (G0 rfl) rfl rfl (.extract (vs := [_, _]) rfl rfl rfl) ?_
  refine WR.val (G0 rfl) rfl rfl (.assign rfl rfl) ?_
  refine WR.val (G0 rfl) rfl rfl (.assign rfl rfl) ?_
  refine WR.nil ?_
  refine WA.seq ?_
  refine WA.seq ?_
  refine WA.region ?_
  refine WR.val (G0 rfl) rfl rfl (.move rfl rfl) ?_
  refine WR.val (G0 rfl) rfl rfl (.move rfl rfl) ?_
  refine WR.val (G0 rfl) rfl rfl (.lss rfl rfl rfl) ?_
  refine WR.val (G0 rfl) rfl rfl (.move rfl rfl) ?_
  refine WR.split (d := 16) rfl (fun h7 => ?_) (fun h7 => ?_)
  · have f8 := h7
    try simp only [decide_eq_true_eq, decide_eq_false_iff_not, Bool.not_eq_true', Bool.not_eq_false', Int.not_lt, Int.not_le] at f8
    refine WR.off (Gf rfl rfl rfl h7) rfl rfl ?_
    refine WR.off (Gf rfl rfl rfl h7) rfl rfl ?_
    refine WR.off (Gf rfl rfl rfl h7) rfl rfl ?_
    refine WR.off (Gf rfl rfl rfl h7) rfl rfl ?_
    refine WR.val (G0 rfl) rfl rfl (.pick_t rfl rfl h7 rfl) ?_
    refine WR.dw (G0 rfl) rfl rfl (.callv (caps := []) rfl rfl rfl EN_174 (fun w hw => iwhenF _ _ w)) ?_
    rintro _ _ ⟨rfl, rfl⟩
    refine WR.dw (G0 rfl) rfl rfl (.buildSlice (k := 1) (e := 29) (vs := [_, _]) rfl rfl rfl (fun _ => by kernel_rfl) rfl) ?_
    rintro _ _ ⟨b10, rfl, rfl⟩
    refine WR.dw (G0 rfl) rfl rfl (.callv (caps := []) rfl rfl rfl EN_173 (fun w hw => ifirstF [_, _] _ _ w (hw.slf_blk 0 rfl rfl (by simp [maxLen])) (by simp))) ?_
    rintro _ _ ⟨rfl, rfl⟩
    refine WR.val (G0 rfl) rfl rfl (.assign rfl rfl) ?_
    refine WR.nil ?_
    refine WA.block ?_
    refine WA.seq ?_
    refine WA.region ?_
    refine WR.val (G0 rfl) rfl rfl (.move rfl rfl) ?_
    refine WR.val (G0 rfl) rfl rfl (.neq rfl rfl rfl) ?_
    refine WR.val (G0 rfl) rfl rfl (.assign rfl rfl) ?_
    refine WR.nil ?_
    refine WA.cond rfl (fun h12 => ?_) (fun h12 => ?_)
    · have f13 := h12
      try simp only [decide_eq_true_eq, decide_eq_false_iff_not, Bool.not_eq_true', Bool.not_eq_false', Int.not_lt, Int.not_le] at f13
      refine WA.seq ?_
      refine WA.region ?_
      refine WR.val (G0 rfl) rfl rfl (.build (vs := [_, _]) [.int .i64 0, .int .i64 0] [0, 1] rfl rfl rfl (fun _ => by kernel_rfl)) ?_
      refine WR.val (G0 rfl) rfl rfl (.move rfl rfl) ?_
      refine WR.dw0 (G0 rfl) rfl (.store (i := 2) rfl AG_39.2 rfl rfl [_, _] rfl rfl (by intro u hu; simp at hu; rcases hu with rfl | rfl <;> rfl) rfl rfl) ?_
      rintro _ _ ⟨rfl, rfl⟩
      refine WR.val (G0 rfl) rfl rfl (.assign rfl rfl) ?_
      refine WR.nil ?_
      exact WA.retv2 rfl (.cellK (vs := [_, _]) AG_39 rfl (fun _ hw => hw.rd_blk (k := 2) 2 rfl rfl)) (.tmp rfl) (List.nil_sublist _) ⟨by simp only [leftR, rt, firstE_two, whenE, decide_eq_true_eq]; (repeat' split) <;> (first | rfl | omega | (exfalso; simp_all [firstE_two, whenE]; done) | (simp_all [firstE_two, whenE]; done) | (exfalso; simp_all [firstE_two, whenE]; omega) | (simp_all [firstE_two, whenE]; omega)), rfl⟩
    · have f14 := h12
      try simp only [decide_eq_true_eq, decide_eq_false_iff_not, Bool.not_eq_true', Bool.not_eq_false', Int.not_lt, Int.not_le] at f14
      refine WA.seq ?_
      refine WA.region ?_
      refine WR.val (G0 rfl) rfl rfl (.move rfl rfl) ?_
      refine WR.val (G0 rfl) rfl rfl (.eql rfl rfl rfl) ?_
      refine WR.val (G0 rfl) rfl rfl (.assign rfl rfl) ?_
      refine WR.nil ?_
      refine WA.cond rfl (fun h16 => ?_) (fun h16 => ?_)
      · have f17 := h16
        try simp only [decide_eq_true_eq, decide_eq_false_iff_not, Bool.not_eq_true', Bool.not_eq_false', Int.not_lt, Int.not_le] at f17
        refine WA.seq ?_
        refine WA.region ?_
        refine WR.val (G0 rfl) rfl rfl (.build (vs := [_, _]) [.int .i64 0, .int .i64 0] [0, 1] rfl rfl rfl (fun _ => by kernel_rfl)) ?_
        refine WR.dw0 (G0 rfl) rfl (.store (i := 2) rfl AG_39.2 rfl rfl [_, _] rfl rfl (by intro u hu; simp at hu; rcases hu with rfl | rfl <;> rfl) rfl rfl) ?_
        rintro _ _ ⟨rfl, rfl⟩
        refine WR.val (G0 rfl) rfl rfl (.assign rfl rfl) ?_
        refine WR.nil ?_
        exact WA.retv2 rfl (.cellK (vs := [_, _]) AG_39 rfl (fun _ hw => hw.rd_blk (k := 2) 2 rfl rfl)) (.tmp rfl) (List.nil_sublist _) ⟨by simp only [leftR, rt, firstE_two, whenE, decide_eq_true_eq]; (repeat' split) <;> (first | rfl | omega | (exfalso; simp_all [firstE_two, whenE]; done) | (simp_all [firstE_two, whenE]; done) | (exfalso; simp_all [firstE_two, whenE]; omega) | (simp_all [firstE_two, whenE]; omega)), rfl⟩
      · have f18 := h16
        try simp only [decide_eq_true_eq, decide_eq_false_iff_not, Bool.not_eq_true', Bool.not_eq_false', Int.not_lt, Int.not_le] at f18
        refine WA.skip ?_
        refine WA.mark ?_
        refine WA.seq ?_
        have hfz := ‹firstE _ = 0›
        have hi0 : 0 < i ∧ i ≤ ((visR l).1.length : Int) := by simp only [firstE_two, whenE, decide_eq_true_eq] at hfz; (repeat' split at hfz) <;> (first | omega | (exfalso; simp_all; done) | (simp_all; done) | (simp_all; omega))
        refine WA.region ?_
        refine WR.val (G0 rfl) rfl rfl (.move rfl rfl) ?_
        refine WR.val (G0 rfl) rfl rfl (.move rfl rfl) ?_
        refine WR.val (G0 rfl) rfl rfl (.sub rfl rfl rfl (by omega) (by omega)) ?_
        refine WR.val (G0 rfl) rfl rfl (.ix rfl ST_22 rfl rfl (by omega) (by omega) (fun _ hw hn => (hw.slf_row 1 rfl).some_ hn)) ?_
        refine WR.val (G0 rfl) rfl rfl (.fe rfl FA_42_0 rfl) ?_
        refine WR.val (G0 rfl) rfl rfl (.loadK (vs := [_, _]) rfl AG_39 rfl (fun _ hw => Rd.el (off := 0) (k := 2) (rdN (hw.slf_row 1 rfl) (by omega) (by omega)) rfl)) ?_
        refine WR.dw0 (G0 rfl) rfl (.store (i := 2) rfl AG_39.2 rfl rfl [_, _] rfl rfl (by intro u hu; simp at hu; rcases hu with rfl | rfl <;> rfl) rfl rfl) ?_
        rintro _ _ ⟨rfl, rfl⟩
        refine WR.val (G0 rfl) rfl rfl (.assign rfl rfl) ?_
        refine WR.nil ?_
        exact WA.retv2 rfl (.cellK (vs := [_, _]) AG_39 rfl (fun _ hw => hw.rd_blk (k := 2) 2 rfl rfl)) (.tmp rfl) (List.nil_sublist _) ⟨by simp only [leftR, rt, firstE_two, whenE, decide_eq_true_eq]; (repeat' split) <;> (first | rfl | omega | (exfalso; simp_all [firstE_two, whenE]; done) | (simp_all [firstE_two, whenE]; done) | (exfalso; simp_all [firstE_two, whenE]; omega) | (simp_all [firstE_two, whenE]; omega)), rfl⟩
  · have f19 := h7
    try simp only [decide_eq_true_eq, decide_eq_false_iff_not, Bool.not_eq_true', Bool.not_eq_false', Int.not_lt, Int.not_le] at f19
    refine WR.val (Gt rfl rfl rfl h7) rfl rfl (.move rfl rfl) ?_
    refine WR.val (Gt rfl rfl rfl h7) rfl rfl (.move rfl rfl) ?_
    refine WR.val (Gt rfl rfl rfl h7) rfl rfl (.len rfl ST_22.1 rfl) ?_
    refine WR.val (Gt rfl rfl rfl h7) rfl rfl (.gtr rfl rfl rfl) ?_
    refine WR.val (G0 rfl) rfl rfl (.pick_f rfl rfl h7 rfl) ?_
    refine WR.dw (G0 rfl) rfl rfl (.callv (caps := []) rfl rfl rfl EN_174 (fun w hw => iwhenF _ _ w)) ?_
    rintro _ _ ⟨rfl, rfl⟩
    refine WR.dw (G0 rfl) rfl rfl (.buildSlice (k := 1) (e := 29) (vs := [_, _]) rfl rfl rfl (fun _ => by kernel_rfl) rfl) ?_
    rintro _ _ ⟨b22, rfl, rfl⟩
    refine WR.dw (G0 rfl) rfl rfl (.callv (caps := []) rfl rfl rfl EN_173 (fun w hw => ifirstF [_, _] _ _ w (hw.slf_blk 0 rfl rfl (by simp [maxLen])) (by simp))) ?_
    rintro _ _ ⟨rfl, rfl⟩
    refine WR.val (G0 rfl) rfl rfl (.assign rfl rfl) ?_
    refine WR.nil ?_
    refine WA.block ?_
    refine WA.seq ?_
    refine WA.region ?_
    refine WR.val (G0 rfl) rfl rfl (.move rfl rfl) ?_
    refine WR.val (G0 rfl) rfl rfl (.neq rfl rfl rfl) ?_
    refine WR.val (G0 rfl) rfl rfl (.assign rfl rfl) ?_
    refine WR.nil ?_
    refine WA.cond rfl (fun h24 => ?_) (fun h24 => ?_)
    · have f25 := h24
      try simp only [decide_eq_true_eq, decide_eq_false_iff_not, Bool.not_eq_true', Bool.not_eq_false', Int.not_lt, Int.not_le] at f25
      refine WA.seq ?_
      refine WA.region ?_
      refine WR.val (G0 rfl) rfl rfl (.build (vs := [_, _]) [.int .i64 0, .int .i64 0] [0, 1] rfl rfl rfl (fun _ => by kernel_rfl)) ?_
      refine WR.val (G0 rfl) rfl rfl (.move rfl rfl) ?_
      refine WR.dw0 (G0 rfl) rfl (.store (i := 2) rfl AG_39.2 rfl rfl [_, _] rfl rfl (by intro u hu; simp at hu; rcases hu with rfl | rfl <;> rfl) rfl rfl) ?_
      rintro _ _ ⟨rfl, rfl⟩
      refine WR.val (G0 rfl) rfl rfl (.assign rfl rfl) ?_
      refine WR.nil ?_
      exact WA.retv2 rfl (.cellK (vs := [_, _]) AG_39 rfl (fun _ hw => hw.rd_blk (k := 2) 2 rfl rfl)) (.tmp rfl) (List.nil_sublist _) ⟨by simp only [leftR, rt, firstE_two, whenE, decide_eq_true_eq]; (repeat' split) <;> (first | rfl | omega | (exfalso; simp_all [firstE_two, whenE]; done) | (simp_all [firstE_two, whenE]; done) | (exfalso; simp_all [firstE_two, whenE]; omega) | (simp_all [firstE_two, whenE]; omega)), rfl⟩
    · have f26 := h24
      try simp only [decide_eq_true_eq, decide_eq_false_iff_not, Bool.not_eq_true', Bool.not_eq_false', Int.not_lt, Int.not_le] at f26
      refine WA.seq ?_
      refine WA.region ?_
      refine WR.val (G0 rfl) rfl rfl (.move rfl rfl) ?_
      refine WR.val (G0 rfl) rfl rfl (.eql rfl rfl rfl) ?_
      refine WR.val (G0 rfl) rfl rfl (.assign rfl rfl) ?_
      refine WR.nil ?_
      refine WA.cond rfl (fun h28 => ?_) (fun h28 => ?_)
      · have f29 := h28
        try simp only [decide_eq_true_eq, decide_eq_false_iff_not, Bool.not_eq_true', Bool.not_eq_false', Int.not_lt, Int.not_le] at f29
        refine WA.seq ?_
        refine WA.region ?_
        refine WR.val (G0 rfl) rfl rfl (.build (vs := [_, _]) [.int .i64 0, .int .i64 0] [0, 1] rfl rfl rfl (fun _ => by kernel_rfl)) ?_
        refine WR.dw0 (G0 rfl) rfl (.store (i := 2) rfl AG_39.2 rfl rfl [_, _] rfl rfl (by intro u hu; simp at hu; rcases hu with rfl | rfl <;> rfl) rfl rfl) ?_
        rintro _ _ ⟨rfl, rfl⟩
        refine WR.val (G0 rfl) rfl rfl (.assign rfl rfl) ?_
        refine WR.nil ?_
        exact WA.retv2 rfl (.cellK (vs := [_, _]) AG_39 rfl (fun _ hw => hw.rd_blk (k := 2) 2 rfl rfl)) (.tmp rfl) (List.nil_sublist _) ⟨by simp only [leftR, rt, firstE_two, whenE, decide_eq_true_eq]; (repeat' split) <;> (first | rfl | omega | (exfalso; simp_all [firstE_two, whenE]; done) | (simp_all [firstE_two, whenE]; done) | (exfalso; simp_all [firstE_two, whenE]; omega) | (simp_all [firstE_two, whenE]; omega)), rfl⟩
      · have f30 := h28
        try simp only [decide_eq_true_eq, decide_eq_false_iff_not, Bool.not_eq_true', Bool.not_eq_false', Int.not_lt, Int.not_le] at f30
        refine WA.skip ?_
        refine WA.mark ?_
        refine WA.seq ?_
        have hfz := ‹firstE _ = 0›
        have hi0 : 0 < i ∧ i ≤ ((visR l).1.length : Int) := by simp only [firstE_two, whenE, decide_eq_true_eq] at hfz; (repeat' split at hfz) <;> (first | omega | (exfalso; simp_all; done) | (simp_all; done) | (simp_all; omega))
        refine WA.region ?_
        refine WR.val (G0 rfl) rfl rfl (.move rfl rfl) ?_
        refine WR.val (G0 rfl) rfl rfl (.move rfl rfl) ?_
        refine WR.val (G0 rfl) rfl rfl (.sub rfl rfl rfl (by omega) (by omega)) ?_
        refine WR.val (G0 rfl) rfl rfl (.ix rfl ST_22 rfl rfl (by omega) (by omega) (fun _ hw hn => (hw.slf_row 1 rfl).some_ hn)) ?_
        refine WR.val (G0 rfl) rfl rfl (.fe rfl FA_42_0 rfl) ?_
        refine WR.val (G0 rfl) rfl rfl (.loadK (vs := [_, _]) rfl AG_39 rfl (fun _ hw => Rd.el (off := 0) (k := 2) (rdN (hw.slf_row 1 rfl) (by omega) (by omega)) rfl)) ?_
        refine WR.dw0 (G0 rfl) rfl (.store (i := 2) rfl AG_39.2 rfl rfl [_, _] rfl rfl (by intro u hu; simp at hu; rcases hu with rfl | rfl <;> rfl) rfl rfl) ?_
        rintro _ _ ⟨rfl, rfl⟩
        refine WR.val (G0 rfl) rfl rfl (.assign rfl rfl) ?_
        refine WR.nil ?_
        exact WA.retv2 rfl (.cellK (vs := [_, _]) AG_39 rfl (fun _ hw => hw.rd_blk (k := 2) 2 rfl rfl)) (.tmp rfl) (List.nil_sublist _) ⟨by simp only [leftR, rt, firstE_two, whenE, decide_eq_true_eq]; (repeat' split) <;> (first | rfl | omega | (exfalso; simp_all [firstE_two, whenE]; done) | (simp_all [firstE_two, whenE]; done) | (exfalso; simp_all [firstE_two, whenE]; omega) | (simp_all [firstE_two, whenE]; omega)), rfl⟩
set_option maxRecDepth 20000 in
/-- redpencil/index.Dots -/
theorem idotsF (l : List Nd) (A : Option Addr) (cap : Nat) (w : World) (hS : SlN w A l) (hl : l.length ≤ 800000) (i j : Int) : Ct Tryz.prog 118 #[.slice A l.length cap, .int .i64 i, .int .i64 j] [] w (fun u hs => ∃ B c, u = .tuple #[.slice B (dotsR l i j).1.length c, .int .i64 (dotsR l i j).2] ∧ hs = [En.row B (dotsR l i j).1.length c 39 2 ((dotsR l i j).1.flatMap dc)]) := by
  refine Ct.intro Tryz.func118 rfl Tryz.ntmps118 rfl ?_
  refine WA.seq ?_
  refine WA.region ?_
  refine WR.val (G0 rfl) rfl rfl (.assign rfl rfl) ?_
  refine WR.val (G0 rfl) rfl rfl (.assign rfl rfl) ?_
  refine WR.nil ?_
  refine WA.seq ?_
  have hvl := visR_len l
  refine WA.region ?_
  refine WR.val (G0 rfl) rfl rfl (.move rfl rfl) ?_
  refine WR.dw (G0 rfl) rfl rfl (.call0 (caps := []) rfl rfl rfl EN_159 (fun w hw => visibleF _ _ _ _ (hw.slf0 hS) (by first | omega | (simp; omega)))) ?_
  rintro _ _ ⟨_, ⟨v2, v3, rfl, rfl⟩, rfl⟩
  refine WR.val (G0 rfl) rfl rfl (.move rfl rfl) ?_
  refine WR.val (G0 rfl) rfl rfl (.extract (vs := [_, _]) rfl rfl rfl) ?_
  refine WR.val (G0 rfl) rfl rfl (.extract (vs := [_, _]) rfl rfl rfl) ?_
  refine WR.val (G0 rfl) rfl rfl (.assign rfl rfl) ?_
  refine WR.val (G0 rfl) rfl rfl (.assign rfl rfl) ?_
  refine WR.nil ?_
  refine WA.seq ?_
  refine WA.seq ?_
  refine WA.region ?_
  refine WR.val (G0 rfl) rfl rfl (.move rfl rfl) ?_
  refine WR.val (G0 rfl) rfl rfl (.move rfl rfl) ?_
  refine WR.val (G0 rfl) rfl rfl (.lss rfl rfl rfl) ?_
  refine WR.val (G0 rfl) rfl rfl (.move rfl rfl) ?_
  refine WR.split (d := 21) rfl (fun h5 => ?_) (fun h5 => ?_)
  · have f6 := h5
    try simp only [decide_eq_true_eq, decide_eq_false_iff_not, Bool.not_eq_true', Bool.not_eq_false', Int.not_lt, Int.not_le] at f6
    refine WR.off (Gf rfl rfl rfl h5) rfl rfl ?_
    refine WR.off (Gf rfl rfl rfl h5) rfl rfl ?_
    refine WR.off (Gf rfl rfl rfl h5) rfl rfl ?_
    refine WR.val (G0 rfl) rfl rfl (.pick_t rfl rfl h5 rfl) ?_
    refine WR.val (G0 rfl) rfl rfl (.move rfl rfl) ?_
    refine WR.off (Gf rfl rfl rfl rfl) rfl rfl ?_
    refine WR.off (Gf rfl rfl rfl rfl) rfl rfl ?_
    refine WR.off (Gf rfl rfl rfl rfl) rfl rfl ?_
    refine WR.off (Gf rfl rfl rfl rfl) rfl rfl ?_
    refine WR.val (G0 rfl) rfl rfl (.pick_t rfl rfl rfl rfl) ?_
    refine WR.dw (G0 rfl) rfl rfl (.callv (caps := []) rfl rfl rfl EN_174 (fun w hw => iwhenF _ _ w)) ?_
    rintro _ _ ⟨rfl, rfl⟩
    refine WR.dw (G0 rfl) rfl rfl (.buildSlice (k := 1) (e := 29) (vs := [_, _]) rfl rfl rfl (fun _ => by kernel_rfl) rfl) ?_
    rintro _ _ ⟨b8, rfl, rfl⟩
    refine WR.dw (G0 rfl) rfl rfl (.callv (caps := []) rfl rfl rfl EN_173 (fun w hw => ifirstF [_, _] _ _ w (hw.slf_blk 0 rfl rfl (by simp [maxLen])) (by simp))) ?_
    rintro _ _ ⟨rfl, rfl⟩
    refine WR.val (G0 rfl) rfl rfl (.assign rfl rfl) ?_
    refine WR.nil ?_
    refine WA.seq ?_
    refine WA.region ?_
    refine WR.val (G0 rfl) rfl rfl (.move rfl rfl) ?_
    refine WR.val (G0 rfl) rfl rfl (.neq rfl rfl rfl) ?_
    refine WR.nil ?_
    refine WA.cond rfl (fun h10 => ?_) (fun h10 => ?_)
    · have f11 := h10
      try simp only [decide_eq_true_eq, decide_eq_false_iff_not, Bool.not_eq_true', Bool.not_eq_false', Int.not_lt, Int.not_le] at f11
      refine WA.seq ?_
      refine WA.region ?_
      refine WR.val (G0 rfl) rfl rfl (.move rfl rfl) ?_
      refine WR.val (G0 rfl) rfl rfl (.assign rfl rfl) ?_
      refine WR.val (G0 rfl) rfl rfl (.assign rfl rfl) ?_
      refine WR.nil ?_
      have hE : (dotsR l i j).1 = [] ∧ (dotsR l i j).2 = _ := ⟨by simp only [dotsR, firstE_two, whenE, decide_eq_true_eq]; (repeat' split) <;> (first | rfl | omega | (exfalso; simp_all [firstE_two, whenE]; done) | (simp_all [firstE_two, whenE]; done) | (exfalso; simp_all [firstE_two, whenE]; omega) | (simp_all [firstE_two, whenE]; omega)), rfl⟩
      rw [hE.1]
      refine WA.nilrow 39 2 ?_
      exact WA.ret2 rfl rfl rfl (List.singleton_sublist.2 (List.mem_cons_self ..)) ⟨none, 0, by simp only [dotsR, firstE_two, whenE, decide_eq_true_eq]; (repeat' split) <;> (first | rfl | omega | (exfalso; simp_all [firstE_two, whenE]; done) | (simp_all [firstE_two, whenE]; done) | (exfalso; simp_all [firstE_two, whenE]; omega) | (simp_all [firstE_two, whenE]; omega)), rfl⟩
    · have f12 := h10
      try simp only [decide_eq_true_eq, decide_eq_false_iff_not, Bool.not_eq_true', Bool.not_eq_false', Int.not_lt, Int.not_le] at f12
      refine WA.skip ?_
      refine WA.seq ?_
      have hfz := ‹firstE _ = 0›
      have hij : 0 ≤ i ∧ i ≤ j ∧ j ≤ ((visR l).1.length : Int) ∧ (visR l).2 = 0 := by simp only [firstE_two, whenE, decide_eq_true_eq] at hfz; (repeat' split at hfz) <;> (first | omega | (exfalso; simp_all; done) | (simp_all; done) | (simp_all; omega))
      have hsl : (((visR l).1.drop i.toNat).take (j.toNat - i.toNat)).length = j.toNat - i.toNat := by rw [List.length_take, List.length_drop]; omega
      refine WA.region ?_
      refine WR.val (G0 rfl) rfl rfl (.assign rfl rfl) ?_
      refine WR.nilrow 39 2 ?_
      refine WR.nil ?_
      refine WA.seq ?_
      refine WA.seq ?_
      refine WA.rowcap 2 rfl (fun hcp => ?_)
      refine WA.region ?_
      refine WR.val (G0 rfl) rfl rfl (.move rfl rfl) ?_
      refine WR.val (G0 rfl) rfl rfl (.move rfl rfl) ?_
      refine WR.val (G0 rfl) rfl rfl (.move rfl rfl) ?_
      refine WR.val (G0 rfl) rfl rfl (.slice_lh rfl ST_22 rfl rfl rfl (by omega) (by omega) (by omega)) ?_
      refine WR.val (G0 rfl) rfl rfl (.len rfl ST_22.1 rfl) ?_
      refine WR.val (G0 rfl) rfl rfl (.move rfl rfl) ?_
      refine WR.nil ?_
      refine WA.block ?_
      refine WA.loopK (γ := Nat × Option Addr × Nat) [(6, _), (7, _), (41, _), (42, _)] [_, _] (fun q => [(10, .slice q.2.1 q.1 q.2.2), (43, .int .i64 (q.1 : Int))]) (fun q => [En.row q.2.1 q.1 q.2.2 39 2 ((((((visR l).1.drop i.toNat).take (j.toNat - i.toNat)).map Nd.d).take q.1).flatMap dc)]) (fun q => q.1 ≤ j.toNat - i.toNat) (fun q => (j.toNat - i.toNat) - q.1) (0, none, 0) (.cons rfl (.cons rfl (.cons rfl (.cons rfl (.nil _))))) (.cons rfl (.cons rfl (.nil _))) (.refl _) (by simp) ?_
      intro q hk
      refine WA.seq ?_
      refine WA.region ?_
      refine WR.val (G0 rfl) rfl rfl (.lss rfl rfl rfl) ?_
      refine WR.nil ?_
      refine WA.seq ?_
      refine WA.cond rfl (fun h15 => ?_) (fun h15 => ?_)
      · have f16 := h15
        try simp only [decide_eq_true_eq, decide_eq_false_iff_not, Bool.not_eq_true', Bool.not_eq_false', Int.not_lt, Int.not_le] at f16
        refine WA.skip ?_
        refine WA.seq ?_
        refine WA.block ?_
        refine WA.seq ?_
        refine WA.region ?_
        refine WR.val (G0 rfl) rfl rfl (.ix rfl ST_22 rfl rfl (by omega) (by omega) (fun _ hw hn => (slN_cut (hw.slf_row 2 rfl) (by omega) (by omega) hcp.1).some_ hn)) ?_
        refine WR.val (G0 rfl) rfl rfl (.loadK (vs := [_, _, _, _, _, _]) rfl AG_42 rfl (fun _ hw => rdN (l := ((visR l).1.drop i.toNat).take (j.toNat - i.toNat)) (SlF.cast' ((slN_cut (hw.slf_row 2 rfl) (by omega) (by omega) hcp.1)) hsl.symm) (by omega) (by omega))) ?_
        refine WR.dw (G0 rfl) rfl rfl (.alloc (vs := [_, _, _, _, _, _]) rfl ZT_42 rfl) ?_
        rintro _ _ ⟨b18, rfl, rfl⟩
        refine WR.dw0 (G0 rfl) rfl (.store (i := 0) rfl AG_42.2 rfl rfl [_, _, _, _, _, _] rfl rfl (by intro u hu; simp at hu; rcases hu with rfl | rfl | rfl | rfl | rfl | rfl <;> rfl) rfl rfl) ?_
        rintro _ _ ⟨rfl, rfl⟩
        refine WR.nil ?_
        refine WA.region ?_
        refine WR.val (G0 rfl) rfl rfl (.move rfl rfl) ?_
        refine WR.val (G0 rfl) rfl rfl (.fa rfl FA_42_0 rfl) ?_
        refine WR.val (G0 rfl) rfl rfl (.loadK (vs := [_, _]) rfl AG_39 rfl (fun _ hw => hw.rd_blk (k := 2) 0 rfl rfl)) ?_
        refine WR.dw (G0 rfl) rfl rfl (.buildSlice (k := 2) (e := 39) (vs := [_, _]) rfl rfl rfl (fun _ => by kernel_rfl) rfl) ?_
        rintro _ _ ⟨b20, rfl, rfl⟩
        refine WR.dw (G0 rfl) rfl rfl (.append 2 rfl ST_25.1 ZT_39 rfl (by decide) rfl rfl rfl (fun _ hw => hw.slf_blk 0 rfl rfl (by simp [maxLen])) (by intro u hu; simp at hu; rcases hu with rfl | rfl <;> rfl) (by omega) (by omega)) ?_
        rintro _ _ ⟨A21, c22, rfl, rfl⟩
        refine WR.val (G0 rfl) rfl rfl (.assign rfl rfl) ?_
        refine WR.nil ?_
        refine WA.mark ?_
        refine WA.region ?_
        refine WR.val (G0 rfl) rfl rfl (.add rfl rfl rfl (by omega) (by omega)) ?_
        refine WR.val (G0 rfl) rfl rfl (.move rfl rfl) ?_
        refine WR.nil ?_
        refine WA.roweq 2 rfl (q.1 + 1) ((((((visR l).1.drop i.toNat).take (j.toNat - i.toNat)).map Nd.d).take (q.1 + 1)).flatMap dc) rfl (by rw [take_map_gx Nd.d (((visR l).1.drop i.toNat).take (j.toNat - i.toNat)) (by omega), flat_snoc]) ?_
        exact WA.roundK (q.1 + 1, A21, c22) (.cons rfl (.cons rfl (.cons rfl (.cons rfl (.nil _))))) (.cons rfl (.cons rfl (.nil _))) (.cons _ (.cons _ (.refl _))) (by dsimp only; omega) (by dsimp only; omega)
      · have f23 := h15
        try simp only [decide_eq_true_eq, decide_eq_false_iff_not, Bool.not_eq_true', Bool.not_eq_false', Int.not_lt, Int.not_le] at f23
        refine WA.exit rfl ?_
        refine WA.seq ?_
        refine WA.region ?_
        refine WR.val (G0 rfl) rfl rfl (.move rfl rfl) ?_
        refine WR.val (G0 rfl) rfl rfl (.assign rfl rfl) ?_
        refine WR.val (G0 rfl) rfl rfl (.assign rfl rfl) ?_
        refine WR.nil ?_
        have hE : dotsR l i j = ((((visR l).1.drop i.toNat).take (j.toNat - i.toNat)).map Nd.d, 0) := by simp only [dotsR, firstE_two, whenE, decide_eq_true_eq]; (repeat' split) <;> (first | rfl | omega | (exfalso; simp_all [firstE_two, whenE]; done) | (simp_all [firstE_two, whenE]; done) | (exfalso; simp_all [firstE_two, whenE]; omega) | (simp_all [firstE_two, whenE]; omega))
        rw [hE]
        have hn : q.1 = ((((visR l).1.drop i.toNat).take (j.toNat - i.toNat)).map Nd.d).length := by rw [List.length_map, hsl]; omega
        refine WA.roweq 0 rfl ((((visR l).1.drop i.toNat).take (j.toNat - i.toNat)).map Nd.d).length (((((visR l).1.drop i.toNat).take (j.toNat - i.toNat)).map Nd.d).flatMap dc) hn (by rw [hn, List.take_length]) ?_
        exact WA.ret2 rfl rfl rfl (.cons_cons _ (.cons _ (.cons _ .slnil))) ⟨_, _, by rw [hn], rfl⟩
  · have f24 := h5
    try simp only [decide_eq_true_eq, decide_eq_false_iff_not, Bool.not_eq_true', Bool.not_eq_false', Int.not_lt, Int.not_le] at f24
    refine WR.val (Gt rfl rfl rfl h5) rfl rfl (.move rfl rfl) ?_
    refine WR.val (Gt rfl rfl rfl h5) rfl rfl (.move rfl rfl) ?_
    refine WR.val (Gt rfl rfl rfl h5) rfl rfl (.lss rfl rfl rfl) ?_
    refine WR.val (G0 rfl) rfl rfl (.pick_f rfl rfl h5 rfl) ?_
    refine WR.val (G0 rfl) rfl rfl (.move rfl rfl) ?_
    refine WR.split (d := 26) rfl (fun h26 => ?_) (fun h26 => ?_)
    · have f27 := h26
      try simp only [decide_eq_true_eq, decide_eq_false_iff_not, Bool.not_eq_true', Bool.not_eq_false', Int.not_lt, Int.not_le] at f27
      refine WR.off (Gf rfl rfl rfl h26) rfl rfl ?_
      refine WR.off (Gf rfl rfl rfl h26) rfl rfl ?_
      refine WR.off (Gf rfl rfl rfl h26) rfl rfl ?_
      refine WR.off (Gf rfl rfl rfl h26) rfl rfl ?_
      refine WR.val (G0 rfl) rfl rfl (.pick_t rfl rfl h26 rfl) ?_
      refine WR.dw (G0 rfl) rfl rfl (.callv (caps := []) rfl rfl rfl EN_174 (fun w hw => iwhenF _ _ w)) ?_
      rintro _ _ ⟨rfl, rfl⟩
      refine WR.dw (G0 rfl) rfl rfl (.buildSlice (k := 1) (e := 29) (vs := [_, _]) rfl rfl rfl (fun _ => by kernel_rfl) rfl) ?_
      rintro _ _ ⟨b29, rfl, rfl⟩
      refine WR.dw (G0 rfl) rfl rfl (.callv (caps := []) rfl rfl rfl EN_173 (fun w hw => ifirstF [_, _] _ _ w (hw.slf_blk 0 rfl rfl (by simp [maxLen])) (by simp))) ?_
      rintro _ _ ⟨rfl, rfl⟩
      refine WR.val (G0 rfl) rfl rfl (.assign rfl rfl) ?_
      refine WR.nil ?_
      refine WA.seq ?_
      refine WA.region ?_
      refine WR.val (G0 rfl) rfl rfl (.move rfl rfl) ?_
      refine WR.val (G0 rfl) rfl rfl (.neq rfl rfl rfl) ?_
      refine WR.nil ?_
      refine WA.cond rfl (fun h31 => ?_) (fun h31 => ?_)
      · have f32 := h31
        try simp only [decide_eq_true_eq, decide_eq_false_iff_not, Bool.not_eq_true', Bool.not_eq_false', Int.not_lt, Int.not_le] at f32
        refine WA.seq ?_
        refine WA.region ?_
        refine WR.val (G0 rfl) rfl rfl (.move rfl rfl) ?_
        refine WR.val (G0 rfl) rfl rfl (.assign rfl rfl) ?_
        refine WR.val (G0 rfl) rfl rfl (.assign rfl rfl) ?_
        refine WR.nil ?_
        have hE : (dotsR l i j).1 = [] ∧ (dotsR l i j).2 = _ := ⟨by simp only [dotsR, firstE_two, whenE, decide_eq_true_eq]; (repeat' split) <;> (first | rfl | omega | (exfalso; simp_all [firstE_two, whenE]; done) | (simp_all [firstE_two, whenE]; done) | (exfalso; simp_all [firstE_two, whenE]; omega) | (simp_all [firstE_two, whenE]; omega)), rfl⟩
        rw [hE.1]
        refine WA.nilrow 39 2 ?_
        exact WA.ret2 rfl rfl rfl (List.singleton_sublist.2 (List.mem_cons_self ..)) ⟨none, 0, by simp only [dotsR, firstE_two, whenE, decide_eq_true_eq]; (repeat' split) <;> (first | rfl | omega | (exfalso; simp_all [firstE_two, whenE]; done) | (simp_all [firstE_two, whenE]; done) | (exfalso; simp_all [firstE_two, whenE]; omega) | (simp_all [firstE_two, whenE]; omega)), rfl⟩
      · have f33 := h31
        try simp only [decide_eq_true_eq, decide_eq_false_iff_not, Bool.not_eq_true', Bool.not_eq_false', Int.not_lt, Int.not_le] at f33
        refine WA.skip ?_
        refine WA.seq ?_
        have hfz := ‹firstE _ = 0›
        have hij : 0 ≤ i ∧ i ≤ j ∧ j ≤ ((visR l).1.length : Int) ∧ (visR l).2 = 0 := by simp only [firstE_two, whenE, decide_eq_true_eq] at hfz; (repeat' split at hfz) <;> (first | omega | (exfalso; simp_all; done) | (simp_all; done) | (simp_all; omega))
        have hsl : (((visR l).1.drop i.toNat).take (j.toNat - i.toNat)).length = j.toNat - i.toNat := by rw [List.length_take, List.length_drop]; omega
        refine WA.region ?_
        refine WR.val (G0 rfl) rfl rfl (.assign rfl rfl) ?_
        refine WR.nilrow 39 2 ?_
        refine WR.nil ?_
        refine WA.seq ?_
        refine WA.seq ?_
        refine WA.rowcap 2 rfl (fun hcp => ?_)
        refine WA.region ?_
        refine WR.val (G0 rfl) rfl rfl (.move rfl rfl) ?_
        refine WR.val (G0 rfl) rfl rfl (.move rfl rfl) ?_
        refine WR.val (G0 rfl) rfl rfl (.move rfl rfl) ?_
        refine WR.val (G0 rfl) rfl rfl (.slice_lh rfl ST_22 rfl rfl rfl (by omega) (by omega) (by omega)) ?_
        refine WR.val (G0 rfl) rfl rfl (.len rfl ST_22.1 rfl) ?_
        refine WR.val (G0 rfl) rfl rfl (.move rfl rfl) ?_
        refine WR.nil ?_
        refine WA.block ?_
        refine WA.loopK (γ := Nat × Option Addr × Nat) [(6, _), (7, _), (41, _), (42, _)] [_, _] (fun q => [(10, .slice q.2.1 q.1 q.2.2), (43, .int .i64 (q.1 : Int))]) (fun q => [En.row q.2.1 q.1 q.2.2 39 2 ((((((visR l).1.drop i.toNat).take (j.toNat - i.toNat)).map Nd.d).take q.1).flatMap dc)]) (fun q => q.1 ≤ j.toNat - i.toNat) (fun q => (j.toNat - i.toNat) - q.1) (0, none, 0) (.cons rfl (.cons rfl (.cons rfl (.cons rfl (.nil _))))) (.cons rfl (.cons rfl (.nil _))) (.refl _) (by simp) ?_
        intro q hk
        refine WA.seq ?_
        refine WA.region ?_
        refine WR.val (G0 rfl) rfl rfl (.lss rfl rfl rfl) ?_
        refine WR.nil ?_
        refine WA.seq ?_
        refine WA.cond rfl (fun h36 => ?_) (fun h36 => ?_)
        · have f37 := h36
          try simp only [decide_eq_true_eq, decide_eq_false_iff_not, Bool.not_eq_true', Bool.not_eq_false', Int.not_lt, Int.not_le] at f37
          refine WA.skip ?_
          refine WA.seq ?_
          refine WA.block ?_
          refine WA.seq ?_
          refine WA.region ?_
          refine WR.val (G0 rfl) rfl rfl (.ix rfl ST_22 rfl rfl (by omega) (by omega) (fun _ hw hn => (slN_cut (hw.slf_row 2 rfl) (by omega) (by omega) hcp.1).some_ hn)) ?_
          refine WR.val (G0 rfl) rfl rfl (.loadK (vs := [_, _, _, _, _, _]) rfl AG_42 rfl (fun _ hw => rdN (l := ((visR l).1.drop i.toNat).take (j.toNat - i.toNat)) (SlF.cast' ((slN_cut (hw.slf_row 2 rfl) (by omega) (by omega) hcp.1)) hsl.symm) (by omega) (by omega))) ?_
          refine WR.dw (G0 rfl) rfl rfl (.alloc (vs := [_, _, _, _, _, _]) rfl ZT_42 rfl) ?_
          rintro _ _ ⟨b39, rfl, rfl⟩
          refine WR.dw0 (G0 rfl) rfl (.store (i := 0) rfl AG_42.2 rfl rfl [_, _, _, _, _, _] rfl rfl (by intro u hu; simp at hu; rcases hu with rfl | rfl | rfl | rfl | rfl | rfl <;> rfl) rfl rfl) ?_
          rintro _ _ ⟨rfl, rfl⟩
          refine WR.nil ?_
          refine WA.region ?_
          refine WR.val (G0 rfl) rfl rfl (.move rfl rfl) ?_
          refine WR.val (G0 rfl) rfl rfl (.fa rfl FA_42_0 rfl) ?_
          refine WR.val (G0 rfl) rfl rfl (.loadK (vs := [_, _]) rfl AG_39 rfl (fun _ hw => hw.rd_blk (k := 2) 0 rfl rfl)) ?_
          refine WR.dw (G0 rfl) rfl rfl (.buildSlice (k := 2) (e := 39) (vs := [_, _]) rfl rfl rfl (fun _ => by kernel_rfl) rfl) ?_
          rintro _ _ ⟨b41, rfl, rfl⟩
          refine WR.dw (G0 rfl) rfl rfl (.append 2 rfl ST_25.1 ZT_39 rfl (by decide) rfl rfl rfl (fun _ hw => hw.slf_blk 0 rfl rfl (by simp [maxLen])) (by intro u hu; simp at hu; rcases hu with rfl | rfl <;> rfl) (by omega) (by omega)) ?_
          rintro _ _ ⟨A42, c43, rfl, rfl⟩
          refine WR.val (G0 rfl) rfl rfl (.assign rfl rfl) ?_
          refine WR.nil ?_
          refine WA.mark ?_
          refine WA.region ?_
          refine WR.val (G0 rfl) rfl rfl (.add rfl rfl rfl (by omega) (by omega)) ?_
          refine WR.val (G0 rfl) rfl rfl (.move rfl rfl) ?_
          refine WR.nil ?_
          refine WA.roweq 2 rfl (q.1 + 1) ((((((visR l).1.drop i.toNat).take (j.toNat - i.toNat)).map Nd.d).take (q.1 + 1)).flatMap dc) rfl (by rw [take_map_gx Nd.d (((visR l).1.drop i.toNat).take (j.toNat - i.toNat)) (by omega), flat_snoc]) ?_
          exact WA.roundK (q.1 + 1, A42, c43) (.cons rfl (.cons rfl (.cons rfl (.cons rfl (.nil _))))) (.cons rfl (.cons rfl (.nil _))) (.cons _ (.cons _ (.refl _))) (by dsimp only; omega) (by dsimp only; omega)
        · have f44 := h36
          try simp only [decide_eq_true_eq, decide_eq_false_iff_not, Bool.not_eq_true', Bool.not_eq_false', Int.not_lt, Int.not_le] at f44
          refine WA.exit rfl ?_
          refine WA.seq ?_
          refine WA.region ?_
          refine WR.val (G0 rfl) rfl rfl (.move rfl rfl) ?_
          refine WR.val (G0 rfl) rfl rfl (.assign rfl rfl) ?_
          refine WR.val (G0 rfl) rfl rfl (.assign rfl rfl) ?_
          refine WR.nil ?_
          have hE : dotsR l i j = ((((visR l).1.drop i.toNat).take (j.toNat - i.toNat)).map Nd.d, 0) := by simp only [dotsR, firstE_two, whenE, decide_eq_true_eq]; (repeat' split) <;> (first | rfl | omega | (exfalso; simp_all [firstE_two, whenE]; done) | (simp_all [firstE_two, whenE]; done) | (exfalso; simp_all [firstE_two, whenE]; omega) | (simp_all [firstE_two, whenE]; omega))
          rw [hE]
          have hn : q.1 = ((((visR l).1.drop i.toNat).take (j.toNat - i.toNat)).map Nd.d).length := by rw [List.length_map, hsl]; omega
          refine WA.roweq 0 rfl ((((visR l).1.drop i.toNat).take (j.toNat - i.toNat)).map Nd.d).length (((((visR l).1.drop i.toNat).take (j.toNat - i.toNat)).map Nd.d).flatMap dc) hn (by rw [hn, List.take_length]) ?_
          exact WA.ret2 rfl rfl rfl (.cons_cons _ (.cons _ (.cons _ .slnil))) ⟨_, _, by rw [hn], rfl⟩
    · have f45 := h26
      try simp only [decide_eq_true_eq, decide_eq_false_iff_not, Bool.not_eq_true', Bool.not_eq_false', Int.not_lt, Int.not_le] at f45
      refine WR.val (Gt rfl rfl rfl h26) rfl rfl (.move rfl rfl) ?_
      refine WR.val (Gt rfl rfl rfl h26) rfl rfl (.move rfl rfl) ?_
      refine WR.val (Gt rfl rfl rfl h26) rfl rfl (.len rfl ST_22.1 rfl) ?_
      refine WR.val (Gt rfl rfl rfl h26) rfl rfl (.gtr rfl rfl rfl) ?_
      refine WR.val (G0 rfl) rfl rfl (.pick_f rfl rfl h26 rfl) ?_
      refine WR.dw (G0 rfl) rfl rfl (.callv (caps := []) rfl rfl rfl EN_174 (fun w hw => iwhenF _ _ w)) ?_
      rintro _ _ ⟨rfl, rfl⟩
      refine WR.dw (G0 rfl) rfl rfl (.buildSlice (k := 1) (e := 29) (vs := [_, _]) rfl rfl rfl (fun _ => by kernel_rfl) rfl) ?_
      rintro _ _ ⟨b48, rfl, rfl⟩
      refine WR.dw (G0 rfl) rfl rfl (.callv (caps := []) rfl rfl rfl EN_173 (fun w hw => ifirstF [_, _] _ _ w (hw.slf_blk 0 rfl rfl (by simp [maxLen])) (by simp))) ?_
      rintro _ _ ⟨rfl, rfl⟩
      refine WR.val (G0 rfl) rfl rfl (.assign rfl rfl) ?_
      refine WR.nil ?_
      refine WA.seq ?_
      refine WA.region ?_
      refine WR.val (G0 rfl) rfl rfl (.move rfl rfl) ?_
      refine WR.val (G0 rfl) rfl rfl (.neq rfl rfl rfl) ?_
      refine WR.nil ?_
      refine WA.cond rfl (fun h50 => ?_) (fun h50 => ?_)
      · have f51 := h50
        try simp only [decide_eq_true_eq, decide_eq_false_iff_not, Bool.not_eq_true', Bool.not_eq_false', Int.not_lt, Int.not_le] at f51
        refine WA.seq ?_
        refine WA.region ?_
        refine WR.val (G0 rfl) rfl rfl (.move rfl rfl) ?_
        refine WR.val (G0 rfl) rfl rfl (.assign rfl rfl) ?_
        refine WR.val (G0 rfl) rfl rfl (.assign rfl rfl) ?_
        refine WR.nil ?_
        have hE : (dotsR l i j).1 = [] ∧ (dotsR l i j).2 = _ := ⟨by simp only [dotsR, firstE_two, whenE, decide_eq_true_eq]; (repeat' split) <;> (first | rfl | omega | (exfalso; simp_all [firstE_two, whenE]; done) | (simp_all [firstE_two, whenE]; done) | (exfalso; simp_all [firstE_two, whenE]; omega) | (simp_all [firstE_two, whenE]; omega)), rfl⟩
        rw [hE.1]
        refine WA.nilrow 39 2 ?_
        exact WA.ret2 rfl rfl rfl (List.singleton_sublist.2 (List.mem_cons_self ..)) ⟨none, 0, by simp only [dotsR, firstE_two, whenE, decide_eq_true_eq]; (repeat' split) <;> (first | rfl | omega | (exfalso; simp_all [firstE_two, whenE]; done) | (simp_all [firstE_two, whenE]; done) | (exfalso; simp_all [firstE_two, whenE]; omega) | (simp_all [firstE_two, whenE]; omega)), rfl⟩
      · have f52 := h50
        try simp only [decide_eq_true_eq, decide_eq_false_iff_not, Bool.not_eq_true', Bool.not_eq_false', Int.not_lt, Int.not_le] at f52
        refine WA.skip ?_
        refine WA.seq ?_
        have hfz := ‹firstE _ = 0›
        have hij : 0 ≤ i ∧ i ≤ j ∧ j ≤ ((visR l).1.length : Int) ∧ (visR l).2 = 0 := by simp only [firstE_two, whenE, decide_eq_true_eq] at hfz; (repeat' split at hfz) <;> (first | omega | (exfalso; simp_all; done) | (simp_all; done) | (simp_all; omega))
        have hsl : (((visR l).1.drop i.toNat).take (j.toNat - i.toNat)).length = j.toNat - i.toNat := by rw [List.length_take, List.length_drop]; omega
        refine WA.region ?_
        refine WR.val (G0 rfl) rfl rfl (.assign rfl rfl) ?_
        refine WR.nilrow 39 2 ?_
        refine WR.nil ?_
        refine WA.seq ?_
        refine WA.seq ?_
        refine WA.rowcap 2 rfl (fun hcp => ?_)
        refine WA.region ?_
        refine WR.val (G0 rfl) rfl rfl (.move rfl rfl) ?_
        refine WR.val (G0 rfl) rfl rfl (.move rfl rfl) ?_
        refine WR.val (G0 rfl) rfl rfl (.move rfl rfl) ?_
        refine WR.val (G0 rfl) rfl rfl (.slice_lh rfl ST_22 rfl rfl rfl (by omega) (by omega) (by omega)) ?_
        refine WR.val (G0 rfl) rfl rfl (.len rfl ST_22.1 rfl) ?_
        refine WR.val (G0 rfl) rfl rfl (.move rfl rfl) ?_
        refine WR.nil ?_
        refine WA.block ?_
        refine WA.loopK (γ := Nat × Option Addr × Nat) [(6, _), (7, _), (41, _), (42, _)] [_, _] (fun q => [(10, .slice q.2.1 q.1 q.2.2), (43, .int .i64 (q.1 : Int))]) (fun q => [En.row q.2.1 q.1 q.2.2 39 2 ((((((visR l).1.drop i.toNat).take (j.toNat - i.toNat)).map Nd.d).take q.1).flatMap dc)]) (fun q => q.1 ≤ j.toNat - i.toNat) (fun q => (j.toNat - i.toNat) - q.1) (0, none, 0) (.cons rfl (.cons rfl (.cons rfl (.cons rfl (.nil _))))) (.cons rfl (.cons rfl (.nil _))) (.refl _) (by simp) ?_
        intro q hk
        refine WA.seq ?_
        refine WA.region ?_
        refine WR.val (G0 rfl) rfl rfl (.lss rfl rfl rfl) ?_
        refine WR.nil ?_
        refine WA.seq ?_
        refine WA.cond rfl (fun h55 => ?_) (fun h55 => ?_)
        · have f56 := h55
          try simp only [decide_eq_true_eq, decide_eq_false_iff_not, Bool.not_eq_true', Bool.not_eq_false', Int.not_lt, Int.not_le] at f56
          refine WA.skip ?_
          refine WA.seq ?_
          refine WA.block ?_
          refine WA.seq ?_
          refine WA.region ?_
          refine WR.val (G0 rfl) rfl rfl (.ix rfl ST_22 rfl rfl (by omega) (by omega) (fun _ hw hn => (slN_cut (hw.slf_row 2 rfl) (by omega) (by omega) hcp.1).some_ hn)) ?_
          refine WR.val (G0 rfl) rfl rfl (.loadK (vs := [_, _, _, _, _, _]) rfl AG_42 rfl (fun _ hw => rdN (l := ((visR l).1.drop i.toNat).take (j.toNat - i.toNat)) (SlF.cast' ((slN_cut (hw.slf_row 2 rfl) (by omega) (by omega) hcp.1)) hsl.symm) (by omega) (by omega))) ?_
          refine WR.dw (G0 rfl) rfl rfl (.alloc (vs := [_, _, _, _, _, _]) rfl ZT_42 rfl) ?_
          rintro _ _ ⟨b58, rfl, rfl⟩
          refine WR.dw0 (G0 rfl) rfl (.store (i := 0) rfl AG_42.2 rfl rfl [_, _, _, _, _, _] rfl rfl (by intro u hu; simp at hu; rcases hu with rfl | rfl | rfl | rfl | rfl | rfl <;> rfl) rfl rfl) ?_
          rintro _ _ ⟨rfl, rfl⟩
          refine WR.nil ?_
          refine WA.region ?_
          refine WR.val (G0 rfl) rfl rfl (.move rfl rfl) ?_
          refine WR.val (G0 rfl) rfl rfl (.fa rfl FA_42_0 rfl) ?_
          refine WR.val (G0 rfl) rfl rfl (.loadK (vs := [_, _]) rfl AG_39 rfl (fun _ hw => hw.rd_blk (k := 2) 0 rfl rfl)) ?_
          refine WR.dw (G0 rfl) rfl rfl (.buildSlice (k := 2) (e := 39) (vs := [_, _]) rfl rfl rfl (fun _ => by kernel_rfl) rfl) ?_
          rintro _ _ ⟨b60, rfl, rfl⟩
          refine WR.dw (G0 rfl) rfl rfl (.append 2 rfl ST_25.1 ZT_39 rfl (by decide) rfl rfl rfl (fun _ hw => hw.slf_blk 0 rfl rfl (by simp [maxLen])) (by intro u hu; simp at hu; rcases hu with rfl | rfl <;> rfl) (by omega) (by omega)) ?_
          rintro _ _ ⟨A61, c62, rfl, rfl⟩
          refine WR.val (G0 rfl) rfl rfl (.assign rfl rfl) ?_
          refine WR.nil ?_
          refine WA.mark ?_
          refine WA.region ?_
          refine WR.val (G0 rfl) rfl rfl (.add rfl rfl rfl (by omega) (by omega)) ?_
          refine WR.val (G0 rfl) rfl rfl (.move rfl rfl) ?_
          refine WR.nil ?_
          refine WA.roweq 2 rfl (q.1 + 1) ((((((visR l).1.drop i.toNat).take (j.toNat - i.toNat)).map Nd.d).take (q.1 + 1)).flatMap dc) rfl (by rw [take_map_gx Nd.d (((visR l).1.drop i.toNat).take (j.toNat - i.toNat)) (by omega), flat_snoc]) ?_
          exact WA.roundK (q.1 + 1, A61, c62) (.cons rfl (.cons rfl (.cons rfl (.cons rfl (.nil _))))) (.cons rfl (.cons rfl (.nil _))) (.cons _ (.cons _ (.refl _))) (by dsimp only; omega) (by dsimp only; omega)
        · have f63 := h55
          try simp only [decide_eq_true_eq, decide_eq_false_iff_not, Bool.not_eq_true', Bool.not_eq_false', Int.not_lt, Int.not_le] at f63
          refine WA.exit rfl ?_
          refine WA.seq ?_
          refine WA.region ?_
          refine WR.val (G0 rfl) rfl rfl (.move rfl rfl) ?_
          refine WR.val (G0 rfl) rfl rfl (.assign rfl rfl) ?_
          refine WR.val (G0 rfl) rfl rfl (.assign rfl rfl) ?_
          refine WR.nil ?_
          have hE : dotsR l i j = ((((visR l).1.drop i.toNat).take (j.toNat - i.toNat)).map Nd.d, 0) := by simp only [dotsR, firstE_two, whenE, decide_eq_true_eq]; (repeat' split) <;> (first | rfl | omega | (exfalso; simp_all [firstE_two, whenE]; done) | (simp_all [firstE_two, whenE]; done) | (exfalso; simp_all [firstE_two, whenE]; omega) | (simp_all [firstE_two, whenE]; omega))
          rw [hE]
          have hn : q.1 = ((((visR l).1.drop i.toNat).take (j.toNat - i.toNat)).map Nd.d).length := by rw [List.length_map, hsl]; omega
          refine WA.roweq 0 rfl ((((visR l).1.drop i.toNat).take (j.toNat - i.toNat)).map Nd.d).length (((((visR l).1.drop i.toNat).take (j.toNat - i.toNat)).map Nd.d).flatMap dc) hn (by rw [hn, List.take_length]) ?_
          exact WA.ret2 rfl rfl rfl (.cons_cons _ (.cons _ (.cons _ .slnil))) ⟨_, _, by rw [hn], rfl⟩
end Go.Proofs.YtpbillinpjccdaaGreat.Fl
