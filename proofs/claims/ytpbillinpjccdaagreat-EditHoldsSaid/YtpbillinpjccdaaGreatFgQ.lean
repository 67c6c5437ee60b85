/- Contracts: ordered maps. -/
import Derived.Test.YtpbillinpjccdaaGreatFeQ
import Derived.Test.YtpbillinpjccdaaGreatRcQ
namespace Go.Proofs.YtpbillinpjccdaaGreat.Fg
open Go.RowKit Go.J Go.R Go.Proofs.YtpbillinpjccdaaGreat.Fa Go.Proofs.YtpbillinpjccdaaGreat.Fb Go.Proofs.YtpbillinpjccdaaGreat.Fc Go.Proofs.YtpbillinpjccdaaGreat.Fd Go.Proofs.YtpbillinpjccdaaGreat.Fe
set_option linter.unusedVariables false
set_option linter.unusedSimpArgs false
theorem follows : Tryz.prog.follows .mixedOrders = true := by kernel_rfl
theorem AG_314 : AG Tryz.prog 314 3 := ⟨Tryz.isAgg314, Tryz.sizeOf314⟩
theorem AG_39 : AG Tryz.prog 39 2 := ⟨Tryz.isAgg39, Tryz.sizeOf39⟩
theorem EN_107 : Enters Tryz.prog 107 := enters_of Tryz.func107 (by kernel_rfl) rfl
theorem EN_255 : Enters Tryz.prog 255 := enters_of Tryz.func255 (by kernel_rfl) rfl
theorem EN_256 : Enters Tryz.prog 256 := enters_of Tryz.func256 (by kernel_rfl) rfl
theorem EN_257 : Enters Tryz.prog 257 := enters_of Tryz.func257 (by kernel_rfl) rfl
theorem EN_258 : Enters Tryz.prog 258 := enters_of Tryz.func258 (by kernel_rfl) rfl
theorem EN_284 : Enters Tryz.prog 284 := enters_of Tryz.func284 (by kernel_rfl) rfl
theorem EN_285 : Enters Tryz.prog 285 := enters_of Tryz.func285 (by kernel_rfl) rfl
theorem EN_288 : Enters Tryz.prog 288 := enters_of Tryz.func288 (by kernel_rfl) rfl
theorem FA_311_0 : FA Tryz.prog 311 0 0 := fun ad w => by simp [Instr.fieldAt, run_underlying Tryz.underlying311, Instr.sureAddr, fieldPlace, Tryz.sizeOf151]
theorem FA_311_1 : FA Tryz.prog 311 1 1 := fun ad w => by simp [Instr.fieldAt, run_underlying Tryz.underlying311, Instr.sureAddr, fieldPlace, Tryz.sizeOf309]
theorem FA_314_0 : FA Tryz.prog 314 0 0 := fun ad w => by simp [Instr.fieldAt, run_underlying Tryz.underlying314, Instr.sureAddr, fieldPlace, Tryz.sizeOf39]
theorem FA_314_1 : FA Tryz.prog 314 1 2 := fun ad w => by simp [Instr.fieldAt, run_underlying Tryz.underlying314, Instr.sureAddr, fieldPlace, Tryz.sizeOf22]
theorem NA_151 : NA Tryz.prog 151 := ⟨Tryz.isAgg151, Tryz.sizeOf151⟩
theorem NA_22 : NA Tryz.prog 22 := ⟨Tryz.isAgg22, Tryz.sizeOf22⟩
theorem NA_223 : NA Tryz.prog 223 := ⟨Tryz.isAgg223, Tryz.sizeOf223⟩
theorem NA_309 : NA Tryz.prog 309 := ⟨Tryz.isAgg309, Tryz.sizeOf309⟩
theorem ST_309 : ST Tryz.prog 309 314 3 := ⟨Tryz.underlying309, Tryz.sizeOf314⟩
theorem ZT_314 : ZT Tryz.prog 314 (.agg #[.int .i64 0, .int .i64 0, .slice none 0 0]) 3 40 := by unfold ZT; kernel_rfl
set_option maxRecDepth 20000 in
/-- redpencil/omap.New[redpencil/api.Dot,[]redpencil/api.Node] -/
theorem newMF (w : World) : Ct Tryz.prog 219 #[.func (.func 107) #[] #[]] [] w (fun u hs => ∃ p, u = .pointer (some ⟨p, 0, none⟩) ∧ hs = [En.blk p [.func (.func 107) #[] #[], .slice none 0 0] 311]) := by
  refine Ct.intro Tryz.func219 rfl Tryz.ntmps219 rfl ?_
  refine WA.seq ?_
  refine WA.region ?_
  refine WR.val (G0 rfl) rfl rfl (.assign rfl rfl) ?_
  refine WR.nil ?_
  refine WA.seq ?_
  refine WA.seq ?_
  refine WA.region ?_
  refine WR.val (G0 rfl) rfl rfl (.move rfl rfl) ?_
  refine WR.val (G0 rfl) rfl rfl (.eqnilf rfl Tryz.underlying151 rfl rfl) ?_
  refine WR.nil ?_
  refine WA.cond_f rfl rfl ?_
  refine WA.skip ?_
  refine WA.seq ?_
  refine WA.region ?_
  refine WR.val (G0 rfl) rfl rfl (.move rfl rfl) ?_
  refine WR.val (G0 rfl) rfl rfl (.build (vs := [_, _]) [.nilFunc, .slice none 0 0] [0, 1] rfl rfl rfl (fun _ => by kernel_rfl)) ?_
  refine WR.dw (G0 rfl) rfl rfl (.box (vs := [_, _]) rfl rfl rfl) ?_
  rintro _ _ ⟨b2, rfl, rfl⟩
  refine WR.val (G0 rfl) rfl rfl (.assign rfl rfl) ?_
  refine WR.nil ?_
  exact WA.ret1 rfl rfl (.refl _) ⟨_, rfl, rfl⟩
set_option maxRecDepth 20000 in
/-- (*redpencil/omap.Map[redpencil/api.Dot, []redpencil/api.Node]).zero -/
theorem zeroMF (w : World) (p : Nat) (A : Option Addr) (cap n : Nat) (hM : Rd w ⟨p, 0, none⟩ [.func (.func 107) #[] #[], .slice A n cap]) : Ct Tryz.prog 256 #[.pointer (some ⟨p, 0, none⟩)] [] w (fun u hs => u = .bool false ∧ hs = []) := by
  refine Ct.intro Tryz.func256 rfl Tryz.ntmps256 rfl ?_
  refine WA.seq ?_
  refine WA.region ?_
  refine WR.val (G0 rfl) rfl rfl (.assign rfl rfl) ?_
  refine WR.nil ?_
  refine WA.seq ?_
  refine WA.region ?_
  refine WR.val (G0 rfl) rfl rfl (.move rfl rfl) ?_
  refine WR.val (G0 rfl) rfl rfl (.eqnilp rfl Tryz.underlying223 rfl rfl) ?_
  refine WR.val (G0 rfl) rfl rfl (.move rfl rfl) ?_
  refine WR.val (Gt rfl rfl rfl rfl) rfl rfl (.move rfl rfl) ?_
  refine WR.val (Gt rfl rfl rfl rfl) rfl rfl (.nilCheck rfl rfl) ?_
  refine WR.val (Gt rfl rfl rfl rfl) rfl rfl (.fa rfl FA_311_0 rfl) ?_
  refine WR.val (Gt rfl rfl rfl rfl) rfl rfl (.load1 rfl NA_151 rfl (fun _ hw => hw.rdx (k := 1) hM rfl)) ?_
  refine WR.val (Gt rfl rfl rfl rfl) rfl rfl (.eqnilf rfl Tryz.underlying151 rfl rfl) ?_
  refine WR.val (G0 rfl) rfl rfl (.pick_f rfl rfl rfl rfl) ?_
  refine WR.val (G0 rfl) rfl rfl (.assign rfl rfl) ?_
  refine WR.nil ?_
  exact WA.ret1 rfl rfl (List.nil_sublist _) ⟨rfl, rfl⟩
set_option maxRecDepth 20000 in
/-- slices.BinarySearchFunc[[]redpencil/omap.entry[redpencil/api.Dot, []redpencil/api.Node],redpencil/omap.entry[redpencil/api.Dot, []redpencil/api.Node],redpencil/api.Dot] -/
theorem bsFE (l : List Ent) (A : Option Addr) (cap : Nat) (d : Dot) (g : FuncId) (caps : List Value) (c : Ent → Int) (w : World) (hS : SlE w A l) (hl : l.length ≤ 1000000) (hm : Mono c l) (hg : Proofs.Enters Tryz.prog g) (hp : ∀ x ∈ l, ∀ W, Below w.heap.size w W → Ct Tryz.prog g (ev' x :: dv d :: caps).toArray [] W (fun u hs => u = .int .i64 (c x) ∧ hs = [])) : Ct Tryz.prog 284 #[.slice A l.length cap, dv d, .func (.func g) #[] caps.toArray] [] w (fun u hs => u = .tuple #[.int .i64 (lbn c l), .bool (bsf c l)] ∧ hs = []) := by
  refine Ct.intro Tryz.func284 rfl Tryz.ntmps284 rfl ?_
  refine WA.seq ?_
  refine WA.region ?_
  refine WR.dw (G0 rfl) rfl rfl (.box (vs := [_, _]) rfl rfl rfl) ?_
  rintro _ _ ⟨b2, rfl, rfl⟩
  refine WR.val (G0 rfl) rfl rfl (.assign rfl rfl) ?_
  refine WR.val (G0 rfl) rfl rfl (.assign rfl rfl) ?_
  refine WR.nil ?_
  refine WA.seq ?_
  refine WA.region ?_
  refine WR.val (G0 rfl) rfl rfl (.move rfl rfl) ?_
  refine WR.val (G0 rfl) rfl rfl (.len rfl ST_309.1 rfl) ?_
  refine WR.val (G0 rfl) rfl rfl (.assign rfl rfl) ?_
  refine WR.nil ?_
  refine WA.seq ?_
  refine WA.region ?_
  refine WR.val (G0 rfl) rfl rfl (.move rfl rfl) ?_
  refine WR.val (G0 rfl) rfl rfl (.assign rfl rfl) ?_
  refine WR.val (G0 rfl) rfl rfl (.assign rfl rfl) ?_
  refine WR.nil ?_
  refine WA.seq ?_
  refine WA.block ?_
  refine WA.loopK (γ := Nat × Nat) [(0, _), (2, _), (4, _), (6, _), (7, _), (8, _)] [_] (fun q => [(9, .int .i64 (q.1 : Int)), (10, .int .i64 (q.2 : Int))]) (fun q => []) (fun q => q.1 ≤ q.2 ∧ q.2 ≤ l.length ∧ (∀ j : Nat, j < q.1 → c (gx l (j : Int)) < 0) ∧ (∀ j : Nat, q.2 ≤ j → j < l.length → ¬ c (gx l (j : Int)) < 0)) (fun q => q.2 - q.1) (0, l.length) (.cons rfl (.cons rfl (.cons rfl (.cons rfl (.cons rfl (.cons rfl (.nil _))))))) (.cons rfl (.cons rfl (.nil _))) (.refl _) ⟨by simp, by simp, fun _ h => by simp at h, fun _ h1 h2 => by simp at h1; omega⟩ ?_
  intro q hk
  obtain ⟨hij, hjl, hlo, hhi⟩ := hk
  have hmid : (((q.1 : Int) + (q.2 : Int)) / 2) = ((((q.1 + q.2) / 2 : Nat)) : Int) := by omega
  refine WA.seq ?_
  refine WA.seq ?_
  refine WA.region ?_
  refine WR.val (G0 rfl) rfl rfl (.move rfl rfl) ?_
  refine WR.val (G0 rfl) rfl rfl (.move rfl rfl) ?_
  refine WR.val (G0 rfl) rfl rfl (.lss rfl rfl rfl) ?_
  refine WR.nil ?_
  refine WA.cond rfl (fun h4 => ?_) (fun h4 => ?_)
  · have f5 := h4
    try simp only [decide_eq_true_eq, decide_eq_false_iff_not, Bool.not_eq_true', Bool.not_eq_false', Int.not_lt, Int.not_le] at f5
    refine WA.skip ?_
    refine WA.block ?_
    refine WA.seq ?_
    refine WA.region ?_
    refine WR.val (G0 rfl) rfl rfl (.move rfl rfl) ?_
    refine WR.val (G0 rfl) rfl rfl (.move rfl rfl) ?_
    refine WR.val (G0 rfl) rfl rfl (.add rfl rfl rfl (by omega) (by omega)) ?_
    refine WR.val (G0 rfl) rfl rfl (.conv rfl (by rw [Tryz.underlying3]; rfl) Tryz.underlying216 rfl (wrap_u64 (by omega) (by omega))) ?_
    refine WR.val (G0 rfl) rfl rfl (.shr1 rfl rfl rfl) ?_
    refine WR.val (G0 rfl) rfl rfl (.conv rfl (by rw [Tryz.underlying216]; rfl) Tryz.underlying3 rfl (wrap_i64 (by omega) (by omega))) ?_
    refine WR.val (G0 rfl) rfl rfl (.assign rfl rfl) ?_
    refine WR.nil ?_
    refine WA.seq ?_
    refine WA.draws0 follows ?_
    refine WH.take 0 rfl (Pf_blind _ _ _ _ _) (by kernel_rfl) (by kernel_rfl) (by kernel_rfl) (.refl _) (G0 rfl) rfl rfl (.move rfl rfl) ?_
    refine WH.take 1 rfl (Pf_blind _ _ _ _ _) (by kernel_rfl) (by kernel_rfl) (by kernel_rfl) (.refl _) (G0 rfl) rfl rfl (.move rfl rfl) ?_
    refine WH.take 2 rfl (Pf_blind _ _ _ _ _) (by kernel_rfl) (by kernel_rfl) (by kernel_rfl) (.refl _) (G0 rfl) rfl rfl (.move rfl rfl) ?_
    refine WH.take 3 rfl (Pf_blind _ _ _ _ _) (by kernel_rfl) (by kernel_rfl) (by kernel_rfl) (.refl _) (G0 rfl) rfl rfl (.ix rfl ST_309 rfl rfl (by omega) (by omega) (fun _ hw hn => (hw.slf0 hS).some_ hn)) ?_
    refine WH.take 4 rfl (Pf_blind _ _ _ _ _) (by kernel_rfl) (by kernel_rfl) (by kernel_rfl) (.refl _) (G0 rfl) rfl rfl (.loadK (vs := [_, _, _]) rfl AG_314 rfl (fun _ hw => rdE (hw.slf0 hS) (by omega) (by omega))) ?_
    refine WH.take 5 rfl (Pf_blind _ _ _ _ _) (by kernel_rfl) (by kernel_rfl) (by kernel_rfl) (.refl _) (G0 rfl) rfl rfl (.loadK (vs := [_, _]) rfl AG_39 rfl (fun _ hw => hw.rd_blk (k := 2) 0 rfl rfl)) ?_
    refine WH.dw 6 rfl (by kernel_rfl) (G0 rfl) rfl rfl (.callv (caps := caps) rfl rfl rfl hg (fun w hw => hp _ (gx_mem (by omega) (by omega)) _ hw.below)) ?_
    rintro _ _ ⟨rfl, rfl⟩
    refine ⟨(.refl _), ?_⟩
    refine WH.take 7 rfl (Pf_blind _ _ _ _ _) (by kernel_rfl) (by kernel_rfl) (by kernel_rfl) (.refl _) (G0 rfl) rfl rfl (.lss rfl rfl rfl) ?_
    refine WH.done (by kernel_rfl) ?_
    refine WA.cond rfl (fun h7 => ?_) (fun h7 => ?_)
    · have f8 := h7
      try simp only [decide_eq_true_eq, decide_eq_false_iff_not, Bool.not_eq_true', Bool.not_eq_false', Int.not_lt, Int.not_le] at f8
      refine WA.region ?_
      refine WR.val (G0 rfl) rfl rfl (.move rfl rfl) ?_
      refine WR.val (G0 rfl) rfl rfl (.add rfl rfl rfl (by omega) (by omega)) ?_
      refine WR.val (G0 rfl) rfl rfl (.assign rfl rfl) ?_
      refine WR.nil ?_
      refine WA.mark ?_
      exact WA.roundK ((q.1 + q.2) / 2 + 1, q.2) (.cons rfl (.cons rfl (.cons rfl (.cons rfl (.cons rfl (.cons rfl (.nil _))))))) (.cons rfl (.cons rfl (.nil _))) (.refl _) ⟨by dsimp only; omega, by dsimp only; omega, fun j hj => by (rcases Nat.lt_or_ge j q.1 with h | h; exact hlo j h; exact hm j ((q.1 + q.2) / 2) (by dsimp only at hj; omega) (by omega) (by rw [← hmid]; assumption)), hhi⟩ (by dsimp only; omega)
    · have f9 := h7
      try simp only [decide_eq_true_eq, decide_eq_false_iff_not, Bool.not_eq_true', Bool.not_eq_false', Int.not_lt, Int.not_le] at f9
      refine WA.region ?_
      refine WR.val (G0 rfl) rfl rfl (.move rfl rfl) ?_
      refine WR.val (G0 rfl) rfl rfl (.assign rfl rfl) ?_
      refine WR.nil ?_
      refine WA.mark ?_
      exact WA.roundK (q.1, (q.1 + q.2) / 2) (.cons rfl (.cons rfl (.cons rfl (.cons rfl (.cons rfl (.cons rfl (.nil _))))))) (.cons rfl (.cons rfl (.nil _))) (.refl _) ⟨by dsimp only; omega, by dsimp only; omega, hlo, fun j hj hjl' hc => (by (have h9 := hm ((q.1 + q.2) / 2) j (by dsimp only at hj; omega) hjl' hc; rw [← hmid] at h9; omega))⟩ (by dsimp only; omega)
  · have f10 := h4
    try simp only [decide_eq_true_eq, decide_eq_false_iff_not, Bool.not_eq_true', Bool.not_eq_false', Int.not_lt, Int.not_le] at f10
    refine WA.exit rfl ?_
    refine WA.seq ?_
    refine WA.draws0 follows ?_
    refine WH.take 0 rfl (Pf_blind _ _ _ _ _) (by kernel_rfl) (by kernel_rfl) (by kernel_rfl) (.refl _) (G0 rfl) rfl rfl (.move rfl rfl) ?_
    refine WH.take 1 rfl (Pf_blind _ _ _ _ _) (by kernel_rfl) (by kernel_rfl) (by kernel_rfl) (.refl _) (G0 rfl) rfl rfl (.move rfl rfl) ?_
    refine WH.take 2 rfl (Pf_blind _ _ _ _ _) (by kernel_rfl) (by kernel_rfl) (by kernel_rfl) (.refl _) (G0 rfl) rfl rfl (.move rfl rfl) ?_
    refine WH.take 3 rfl (Pf_blind _ _ _ _ _) (by kernel_rfl) (by kernel_rfl) (by kernel_rfl) (.refl _) (G0 rfl) rfl rfl (.lss rfl rfl rfl) ?_
    refine WH.take 4 rfl (Pf_blind _ _ _ _ _) (by kernel_rfl) (by kernel_rfl) (by kernel_rfl) (.refl _) (G0 rfl) rfl rfl (.move rfl rfl) ?_
    refine WH.split (d := 39) rfl (fun h12 => ?_) (fun h12 => ?_)
    · have f13 := h12
      try simp only [decide_eq_true_eq, decide_eq_false_iff_not, Bool.not_eq_true', Bool.not_eq_false', Int.not_lt, Int.not_le] at f13
      refine WH.take 5 rfl (Pf_blind _ _ _ _ _) (by kernel_rfl) (by kernel_rfl) (by kernel_rfl) (.refl _) (Gt rfl rfl rfl h12) rfl rfl (.move rfl rfl) ?_
      refine WH.take 6 rfl (Pf_blind _ _ _ _ _) (by kernel_rfl) (by kernel_rfl) (by kernel_rfl) (.refl _) (Gt rfl rfl rfl h12) rfl rfl (.move rfl rfl) ?_
      refine WH.take 7 rfl (Pf_blind _ _ _ _ _) (by kernel_rfl) (by kernel_rfl) (by kernel_rfl) (.refl _) (Gt rfl rfl rfl h12) rfl rfl (.move rfl rfl) ?_
      refine WH.take 8 rfl (Pf_blind _ _ _ _ _) (by kernel_rfl) (by kernel_rfl) (by kernel_rfl) (.refl _) (Gt rfl rfl rfl h12) rfl rfl (.ix rfl ST_309 rfl rfl (by omega) (by omega) (fun _ hw hn => (hw.slf0 hS).some_ hn)) ?_
      refine WH.take 9 rfl (Pf_blind _ _ _ _ _) (by kernel_rfl) (by kernel_rfl) (by kernel_rfl) (.refl _) (Gt rfl rfl rfl h12) rfl rfl (.loadK (vs := [_, _, _]) rfl AG_314 rfl (fun _ hw => rdE (hw.slf0 hS) (by omega) (by omega))) ?_
      refine WH.take 10 rfl (Pf_blind _ _ _ _ _) (by kernel_rfl) (by kernel_rfl) (by kernel_rfl) (.refl _) (Gt rfl rfl rfl h12) rfl rfl (.loadK (vs := [_, _]) rfl AG_39 rfl (fun _ hw => hw.rd_blk (k := 2) 0 rfl rfl)) ?_
      refine WH.dw 11 rfl (by kernel_rfl) (Gt rfl rfl rfl h12) rfl rfl (.callv (caps := caps) rfl rfl rfl hg (fun w hw => hp _ (gx_mem (by omega) (by omega)) _ hw.below)) ?_
      rintro _ _ ⟨rfl, rfl⟩
      refine ⟨(.refl _), ?_⟩
      refine WH.take 12 rfl (Pf_blind _ _ _ _ _) (by kernel_rfl) (by kernel_rfl) (by kernel_rfl) (.refl _) (Gt rfl rfl rfl h12) rfl rfl (.eql rfl rfl rfl) ?_
      refine WH.take 13 rfl (Pf_blind _ _ _ _ _) (by kernel_rfl) (by kernel_rfl) (by kernel_rfl) (.refl _) (G0 rfl) rfl rfl (.pick_t rfl rfl h12 rfl) ?_
      refine WH.take 14 rfl (Pf_blind _ _ _ _ _) (by kernel_rfl) (by kernel_rfl) (by kernel_rfl) (.refl _) (G0 rfl) rfl rfl (.assign rfl rfl) ?_
      refine WH.take 15 rfl (Pf_blind _ _ _ _ _) (by kernel_rfl) (by kernel_rfl) (by kernel_rfl) (.refl _) (G0 rfl) rfl rfl (.assign rfl rfl) ?_
      refine WH.done (by kernel_rfl) ?_
      have hE : lbn c l = q.1 := lbn_eq (by omega) hlo (fun j h1 h2 => hhi j (by omega) h2)
      exact WA.ret2 rfl rfl rfl (List.nil_sublist _) ⟨by rw [bsf, hE]; first | (have hlt : q.1 < l.length := (by omega); simp [hlt]; done) | (have hge : ¬ q.1 < l.length := (by omega); simp [hge]; done), rfl⟩
    · have f15 := h12
      try simp only [decide_eq_true_eq, decide_eq_false_iff_not, Bool.not_eq_true', Bool.not_eq_false', Int.not_lt, Int.not_le] at f15
      refine WH.off 5 rfl (Pf_blind _ _ _ _ _) (by kernel_rfl) (by kernel_rfl) (by kernel_rfl) (.refl _) (Gf rfl rfl rfl h12) rfl rfl ?_
      refine WH.off 6 rfl (Pf_blind _ _ _ _ _) (by kernel_rfl) (by kernel_rfl) (by kernel_rfl) (.refl _) (Gf rfl rfl rfl h12) rfl rfl ?_
      refine WH.off 7 rfl (Pf_blind _ _ _ _ _) (by kernel_rfl) (by kernel_rfl) (by kernel_rfl) (.refl _) (Gf rfl rfl rfl h12) rfl rfl ?_
      refine WH.off 8 rfl (Pf_blind _ _ _ _ _) (by kernel_rfl) (by kernel_rfl) (by kernel_rfl) (.refl _) (Gf rfl rfl rfl h12) rfl rfl ?_
      refine WH.off 9 rfl (Pf_blind _ _ _ _ _) (by kernel_rfl) (by kernel_rfl) (by kernel_rfl) (.refl _) (Gf rfl rfl rfl h12) rfl rfl ?_
      refine WH.off 10 rfl (Pf_blind _ _ _ _ _) (by kernel_rfl) (by kernel_rfl) (by kernel_rfl) (.refl _) (Gf rfl rfl rfl h12) rfl rfl ?_
      refine WH.off 11 rfl (Pf_blind _ _ _ _ _) (by kernel_rfl) (by kernel_rfl) (by kernel_rfl) (.refl _) (Gf rfl rfl rfl h12) rfl rfl ?_
      refine WH.off 12 rfl (Pf_blind _ _ _ _ _) (by kernel_rfl) (by kernel_rfl) (by kernel_rfl) (.refl _) (Gf rfl rfl rfl h12) rfl rfl ?_
      refine WH.take 13 rfl (Pf_blind _ _ _ _ _) (by kernel_rfl) (by kernel_rfl) (by kernel_rfl) (.refl _) (G0 rfl) rfl rfl (.pick_f rfl rfl h12 rfl) ?_
      refine WH.take 14 rfl (Pf_blind _ _ _ _ _) (by kernel_rfl) (by kernel_rfl) (by kernel_rfl) (.refl _) (G0 rfl) rfl rfl (.assign rfl rfl) ?_
      refine WH.take 15 rfl (Pf_blind _ _ _ _ _) (by kernel_rfl) (by kernel_rfl) (by kernel_rfl) (.refl _) (G0 rfl) rfl rfl (.assign rfl rfl) ?_
      refine WH.done (by kernel_rfl) ?_
      have hE : lbn c l = q.1 := lbn_eq (by omega) hlo (fun j h1 h2 => hhi j (by omega) h2)
      exact WA.ret2 rfl rfl rfl (List.nil_sublist _) ⟨by rw [bsf, hE]; first | (have hlt : q.1 < l.length := (by omega); simp [hlt]; done) | (have hge : ¬ q.1 < l.length := (by omega); simp [hge]; done), rfl⟩
set_option maxRecDepth 20000 in
/-- (*redpencil/omap.Map[redpencil/api.Dot, []redpencil/api.Node]).find$1 -/
theorem mfind1F (x : Ent) (d : Dot) (b : Nat) (w : World) (p : Nat) (A : Option Addr) (cap n : Nat) (hb : Rd w ⟨b, 0, none⟩ [.pointer (some ⟨p, 0, none⟩)]) (hM : Rd w ⟨p, 0, none⟩ [.func (.func 107) #[] #[], .slice A n cap]) : Ct Tryz.prog 285 #[ev' x, dv d, .pointer (some ⟨b, 0, none⟩)] [] w (fun u hs => u = .int .i64 (keyC d x) ∧ hs = []) := by
  refine Ct.intro Tryz.func285 rfl Tryz.ntmps285 rfl ?_
  refine WA.seq ?_
  refine WA.region ?_
  refine WR.dw (G0 rfl) rfl rfl (.box (vs := [_, _, _]) rfl rfl rfl) ?_
  rintro _ _ ⟨b2, rfl, rfl⟩
  refine WR.dw (G0 rfl) rfl rfl (.box (vs := [_, _]) rfl rfl rfl) ?_
  rintro _ _ ⟨b4, rfl, rfl⟩
  refine WR.val (G0 rfl) rfl rfl (.assign rfl rfl) ?_
  refine WR.nil ?_
  refine WA.seq ?_
  refine WA.draws0 follows ?_
  refine WH.take 0 rfl (Pf_blind _ _ _ _ _) (by kernel_rfl) (by kernel_rfl) (by kernel_rfl) (.refl _) (G0 rfl) rfl rfl (.load1 rfl NA_223 rfl (fun _ hw => hw.rdx (k := 1) hb rfl)) ?_
  refine WH.take 1 rfl (Pf_blind _ _ _ _ _) (by kernel_rfl) (by kernel_rfl) (by kernel_rfl) (.refl _) (G0 rfl) rfl rfl (.nilCheck rfl rfl) ?_
  refine WH.take 2 rfl (Pf_blind _ _ _ _ _) (by kernel_rfl) (by kernel_rfl) (by kernel_rfl) (.refl _) (G0 rfl) rfl rfl (.fa rfl FA_311_0 rfl) ?_
  refine WH.take 3 rfl (Pf_blind _ _ _ _ _) (by kernel_rfl) (by kernel_rfl) (by kernel_rfl) (.refl _) (G0 rfl) rfl rfl (.load1 rfl NA_151 rfl (fun _ hw => hw.rdx (k := 1) hM rfl)) ?_
  refine WH.take 4 rfl (Pf_blind _ _ _ _ _) (by kernel_rfl) (by kernel_rfl) (by kernel_rfl) (.refl _) (G0 rfl) rfl rfl (.fa rfl FA_314_0 rfl) ?_
  refine WH.take 5 rfl (Pf_blind _ _ _ _ _) (by kernel_rfl) (by kernel_rfl) (by kernel_rfl) (.refl _) (G0 rfl) rfl rfl (.loadK (vs := [_, _]) rfl AG_39 rfl (fun _ hw => hw.rd_blk (k := 2) 1 rfl rfl)) ?_
  refine WH.take 6 rfl (Pf_blind _ _ _ _ _) (by kernel_rfl) (by kernel_rfl) (by kernel_rfl) (.refl _) (G0 rfl) rfl rfl (.loadK (vs := [_, _]) rfl AG_39 rfl (fun _ hw => hw.rd_blk (k := 2) 0 rfl rfl)) ?_
  refine WH.dw 7 rfl (by kernel_rfl) (G0 rfl) rfl rfl (.callv (caps := []) rfl rfl rfl EN_107 (fun w hw => dcmpF _ _ w)) ?_
  rintro _ _ ⟨rfl, rfl⟩
  refine ⟨(.refl _), ?_⟩
  refine WH.take 8 rfl (Pf_blind _ _ _ _ _) (by kernel_rfl) (by kernel_rfl) (by kernel_rfl) (.refl _) (G0 rfl) rfl rfl (.assign rfl rfl) ?_
  refine WH.done (by kernel_rfl) ?_
  exact WA.ret1 rfl rfl (List.nil_sublist _) ⟨rfl, rfl⟩
set_option maxRecDepth 20000 in
/-- (*redpencil/omap.Map[redpencil/api.Dot, []redpencil/api.Node]).find -/
theorem mfindF (w : World) (p : Nat) (A : Option Addr) (cap : Nat) (l : List Ent) (hM : Rd w ⟨p, 0, none⟩ [.func (.func 107) #[] #[], .slice A l.length cap]) (d : Dot) (hE : SlE w A l) (hl : l.length ≤ 1000000) (hs : ksorted l) : Ct Tryz.prog 255 #[.pointer (some ⟨p, 0, none⟩), dv d] [] w (fun u hs => u = .tuple #[.int .i64 (mpos l d : Int), .bool (mhas l d)] ∧ hs = []) := by
  refine Ct.intro Tryz.func255 rfl Tryz.ntmps255 rfl ?_
  refine WA.seq ?_
  refine WA.region ?_
  refine WR.dw (G0 rfl) rfl rfl (.box (vs := [_]) rfl rfl rfl) ?_
  rintro _ _ ⟨b2, rfl, rfl⟩
  refine WR.dw (G0 rfl) rfl rfl (.box (vs := [_, _]) rfl rfl rfl) ?_
  rintro _ _ ⟨b4, rfl, rfl⟩
  refine WR.val (G0 rfl) rfl rfl (.assign rfl rfl) ?_
  refine WR.val (G0 rfl) rfl rfl (.assign rfl rfl) ?_
  refine WR.nil ?_
  refine WA.seq ?_
  refine WA.seq ?_
  refine WA.region ?_
  refine WR.val (G0 rfl) rfl rfl (.load1 rfl NA_223 rfl (fun _ hw => hw.rd_blk (k := 1) 1 rfl rfl)) ?_
  refine WR.dw (G0 rfl) rfl rfl (.callv (caps := []) rfl rfl rfl EN_256 (fun w hw => zeroMF _ p A cap l.length (hw.rdx (k := 2) hM rfl))) ?_
  rintro _ _ ⟨rfl, rfl⟩
  refine WR.nil ?_
  refine WA.cond_f rfl rfl ?_
  refine WA.skip ?_
  refine WA.seq ?_
  refine WA.draws0 follows ?_
  refine WH.take 0 rfl (Pf_blind _ _ _ _ _) (by kernel_rfl) (by kernel_rfl) (by kernel_rfl) (.refl _) (G0 rfl) rfl rfl (.load1 rfl NA_223 rfl (fun _ hw => hw.rd_blk (k := 1) 1 rfl rfl)) ?_
  refine WH.take 1 rfl (Pf_blind _ _ _ _ _) (by kernel_rfl) (by kernel_rfl) (by kernel_rfl) (.refl _) (G0 rfl) rfl rfl (.nilCheck rfl rfl) ?_
  refine WH.take 2 rfl (Pf_blind _ _ _ _ _) (by kernel_rfl) (by kernel_rfl) (by kernel_rfl) (.refl _) (G0 rfl) rfl rfl (.fa rfl FA_311_1 rfl) ?_
  refine WH.take 3 rfl (Pf_blind _ _ _ _ _) (by kernel_rfl) (by kernel_rfl) (by kernel_rfl) (.refl _) (G0 rfl) rfl rfl (.load1 rfl NA_309 rfl (fun _ hw => hw.rdx (k := 1) hM rfl)) ?_
  refine WH.take 4 rfl (Pf_blind _ _ _ _ _) (by kernel_rfl) (by kernel_rfl) (by kernel_rfl) (.refl _) (G0 rfl) rfl rfl (.loadK (vs := [_, _]) rfl AG_39 rfl (fun _ hw => hw.rd_blk (k := 2) 0 rfl rfl)) ?_
  refine WH.take 5 rfl (Pf_blind _ _ _ _ _) (by kernel_rfl) (by kernel_rfl) (by kernel_rfl) (.refl _) (G0 rfl) rfl rfl (.makeFunc1 rfl rfl) ?_
  refine WH.dw 6 rfl (by kernel_rfl) (G0 rfl) rfl rfl (.callv (caps := []) rfl rfl rfl EN_284 (fun w hw => bsFE l A cap d 285 [_] (keyC d) _ (hw.slf0 hE) hl (mono_sorted (f := Ent.k) hs d) EN_285 (fun x _ W hW => mfind1F x d _ W p A cap l.length (Rd.below (hw.rd_blk (k := 1) 1 rfl rfl) hW) (Rd.below (hw.rdx (k := 2) hM rfl) hW)))) ?_
  rintro _ _ ⟨rfl, rfl⟩
  refine ⟨(.refl _), ?_⟩
  refine WH.take 7 rfl (Pf_blind _ _ _ _ _) (by kernel_rfl) (by kernel_rfl) (by kernel_rfl) (.refl _) (G0 rfl) rfl rfl (.extract (vs := [_, _]) rfl rfl rfl) ?_
  refine WH.take 8 rfl (Pf_blind _ _ _ _ _) (by kernel_rfl) (by kernel_rfl) (by kernel_rfl) (.refl _) (G0 rfl) rfl rfl (.extract (vs := [_, _]) rfl rfl rfl) ?_
  refine WH.take 9 rfl (Pf_blind _ _ _ _ _) (by kernel_rfl) (by kernel_rfl) (by kernel_rfl) (.refl _) (G0 rfl) rfl rfl (.assign rfl rfl) ?_
  refine WH.take 10 rfl (Pf_blind _ _ _ _ _) (by kernel_rfl) (by kernel_rfl) (by kernel_rfl) (.refl _) (G0 rfl) rfl rfl (.assign rfl rfl) ?_
  refine WH.done (by kernel_rfl) ?_
  exact WA.ret2 rfl rfl rfl (List.nil_sublist _) ⟨rfl, rfl⟩
set_option maxRecDepth 20000 in
/-- (*redpencil/omap.Map[redpencil/api.Dot, []redpencil/api.Node]).Get -/
theorem getF (w : World) (p : Nat) (A : Option Addr) (cap : Nat) (l : List Ent) (hM : Rd w ⟨p, 0, none⟩ [.func (.func 107) #[] #[], .slice A l.length cap]) (d : Dot) (hE : SlE w A l) (hl : l.length ≤ 1000000) (hs : ksorted l) : Ct Tryz.prog 220 #[.pointer (some ⟨p, 0, none⟩), dv d] [] w (fun u hs => u = .tuple #[if mhas l d = true then .slice (gx l (mpos l d : Int)).A (gx l (mpos l d : Int)).n (gx l (mpos l d : Int)).c else .slice none 0 0, .bool (mhas l d)] ∧ hs = []) := by
  refine Ct.intro Tryz.func220 rfl Tryz.ntmps220 rfl ?_
  refine WA.seq ?_
  refine WA.region ?_
  refine WR.dw (G0 rfl) rfl rfl (.box (vs := [_, _]) rfl rfl rfl) ?_
  rintro _ _ ⟨b2, rfl, rfl⟩
  refine WR.val (G0 rfl) rfl rfl (.assign rfl rfl) ?_
  refine WR.val (G0 rfl) rfl rfl (.assign rfl rfl) ?_
  refine WR.nil ?_
  refine WA.seq ?_
  refine WA.region ?_
  refine WR.val (G0 rfl) rfl rfl (.move rfl rfl) ?_
  refine WR.val (G0 rfl) rfl rfl (.loadK (vs := [_, _]) rfl AG_39 rfl (fun _ hw => hw.rd_blk (k := 2) 0 rfl rfl)) ?_
  refine WR.dw (G0 rfl) rfl rfl (.callv (caps := []) rfl rfl rfl EN_255 (fun w hw => mfindF _ p A cap l (hw.rdx (k := 2) hM rfl) d (hw.slf0 hE) hl hs)) ?_
  rintro _ _ ⟨rfl, rfl⟩
  refine WR.val (G0 rfl) rfl rfl (.move rfl rfl) ?_
  refine WR.val (G0 rfl) rfl rfl (.extract (vs := [_, _]) rfl rfl rfl) ?_
  refine WR.val (G0 rfl) rfl rfl (.extract (vs := [_, _]) rfl rfl rfl) ?_
  refine WR.val (G0 rfl) rfl rfl (.assign rfl rfl) ?_
  refine WR.val (G0 rfl) rfl rfl (.assign rfl rfl) ?_
  refine WR.nil ?_
  refine WA.seq ?_
  refine WA.seq ?_
  refine WA.region ?_
  refine WR.val (G0 rfl) rfl rfl (.move rfl rfl) ?_
  refine WR.val (G0 rfl) rfl rfl (.not rfl rfl) ?_
  refine WR.nil ?_
  refine WA.cond rfl (fun h4 => ?_) (fun h4 => ?_)
  · have f5 := h4
    try simp only [decide_eq_true_eq, decide_eq_false_iff_not, Bool.not_eq_true', Bool.not_eq_false', Int.not_lt, Int.not_le] at f5
    refine WA.seq ?_
    refine WA.region ?_
    refine WR.val (G0 rfl) rfl rfl (.move rfl rfl) ?_
    refine WR.val (G0 rfl) rfl rfl (.assign rfl rfl) ?_
    refine WR.val (G0 rfl) rfl rfl (.assign rfl rfl) ?_
    refine WR.nil ?_
    exact WA.ret2 rfl rfl rfl (List.nil_sublist _) ⟨by simp_all, rfl⟩
  · have f6 := h4
    try simp only [decide_eq_true_eq, decide_eq_false_iff_not, Bool.not_eq_true', Bool.not_eq_false', Int.not_lt, Int.not_le] at f6
    refine WA.skip ?_
    refine WA.seq ?_
    have hlt := mhas_lt (by assumption)
    refine WA.region ?_
    refine WR.val (G0 rfl) rfl rfl (.move rfl rfl) ?_
    refine WR.val (G0 rfl) rfl rfl (.nilCheck rfl rfl) ?_
    refine WR.val (G0 rfl) rfl rfl (.fa rfl FA_311_1 rfl) ?_
    refine WR.val (G0 rfl) rfl rfl (.load1 rfl NA_309 rfl (fun _ hw => hw.rdx (k := 1) hM rfl)) ?_
    refine WR.val (G0 rfl) rfl rfl (.move rfl rfl) ?_
    refine WR.val (G0 rfl) rfl rfl (.ix rfl ST_309 rfl rfl (by omega) (by omega) (fun _ hw hn => (hw.slf0 hE).some_ hn)) ?_
    refine WR.val (G0 rfl) rfl rfl (.fe rfl FA_314_1 rfl) ?_
    refine WR.val (G0 rfl) rfl rfl (.load1 rfl NA_22 rfl (fun _ hw => Rd.el (off := 2) (k := 1) (rdE (hw.slf0 hE) (by omega) (by omega)) rfl)) ?_
    refine WR.val (G0 rfl) rfl rfl (.assign rfl rfl) ?_
    refine WR.val (G0 rfl) rfl rfl (.assign rfl rfl) ?_
    refine WR.nil ?_
    exact WA.ret2 rfl rfl rfl (List.nil_sublist _) ⟨by simp_all, rfl⟩
set_option maxRecDepth 20000 in
/-- slices.Insert[[]redpencil/omap.entry[redpencil/api.Dot, []redpencil/api.Node],redpencil/omap.entry[redpencil/api.Dot, []redpencil/api.Node]] -/
theorem insertF (l : List Ent) (A : Option Addr) (cap i : Nat) (x : Ent) (b : Nat) (w : World) (hl : l.length ≤ 900000) (hi : i ≤ l.length) : Ct Tryz.prog 257 #[.slice A l.length cap, .int .i64 (i : Int), .slice (some ⟨b, 0, none⟩) 1 1] [En.blk b (ec x) 314, En.row A l.length cap 314 3 (l.flatMap ec)] w (fun u hs => ∃ A' cap', u = .slice A' (l.length + 1) cap' ∧ hs = [En.row A' (l.length + 1) cap' 314 3 ((l.take i ++ x :: l.drop i).flatMap ec)]) := by
  have hfl : (l.flatMap ec).length = l.length * 3 := flat_len (enc := ec) (k := 3) (fun _ => rfl) l
  have hta : ((l.take i).flatMap ec).length = i * 3 := by rw [flat_len (enc := ec) (k := 3) (fun _ => rfl), List.length_take, Nat.min_eq_left hi]
  have hdr : ((l.drop i).flatMap ec).length = (l.length - i) * 3 := by rw [flat_len (enc := ec) (k := 3) (fun _ => rfl), List.length_drop]
  have hsp : l.flatMap ec = (l.take i).flatMap ec ++ (l.drop i).flatMap ec := by rw [← List.flatMap_append, List.take_append_drop]
  have hout : (l.take i ++ x :: l.drop i).flatMap ec = (l.take i).flatMap ec ++ (ec x ++ (l.drop i).flatMap ec) := by simp
  have htk : (l.flatMap ec).take (i * 3) = (l.take i).flatMap ec := flat_take (enc := ec) (k := 3) (fun _ => rfl) l i
  have hdk : (l.flatMap ec).drop (i * 3) = (l.drop i).flatMap ec := flat_drop (enc := ec) (k := 3) (fun _ => rfl) l i
  refine Ct.intro Tryz.func257 rfl Tryz.ntmps257 rfl ?_
  refine WA.seq ?_
  refine WA.rowcap 1 rfl (fun hcap => ?_)
  refine WA.region ?_
  refine WR.val (G0 rfl) rfl rfl (.assign rfl rfl) ?_
  refine WR.nil ?_
  refine WA.seq ?_
  refine WA.region ?_
  refine WR.val (G0 rfl) rfl rfl (.move rfl rfl) ?_
  refine WR.val (G0 rfl) rfl rfl (.move rfl rfl) ?_
  refine WR.val (G0 rfl) rfl rfl (.slice_l rfl ST_309 rfl rfl (by omega) (by omega)) ?_
  refine WR.nil ?_
  refine WA.seq ?_
  refine WA.region ?_
  refine WR.val (G0 rfl) rfl rfl (.move rfl rfl) ?_
  refine WR.val (G0 rfl) rfl rfl (.len rfl ST_309.1 rfl) ?_
  refine WR.val (G0 rfl) rfl rfl (.assign rfl rfl) ?_
  refine WR.nil ?_
  refine WA.seq ?_
  refine WA.seq ?_
  refine WA.region ?_
  refine WR.val (G0 rfl) rfl rfl (.move rfl rfl) ?_
  refine WR.val (G0 rfl) rfl rfl (.eql rfl rfl rfl) ?_
  refine WR.nil ?_
  refine WA.cond rfl (fun h2 => ?_) (fun h2 => ?_)
  · have f3 := h2
    try simp only [decide_eq_true_eq, decide_eq_false_iff_not, Bool.not_eq_true', Bool.not_eq_false', Int.not_lt, Int.not_le] at f3
    refine WA.seq ?_
    exfalso; simp_all
  · have f4 := h2
    try simp only [decide_eq_true_eq, decide_eq_false_iff_not, Bool.not_eq_true', Bool.not_eq_false', Int.not_lt, Int.not_le] at f4
    refine WA.skip ?_
    refine WA.seq ?_
    refine WA.region ?_
    refine WR.val (G0 rfl) rfl rfl (.move rfl rfl) ?_
    refine WR.val (G0 rfl) rfl rfl (.len rfl ST_309.1 rfl) ?_
    refine WR.val (G0 rfl) rfl rfl (.assign rfl rfl) ?_
    refine WR.nil ?_
    refine WA.seq ?_
    refine WA.seq ?_
    refine WA.region ?_
    refine WR.val (G0 rfl) rfl rfl (.move rfl rfl) ?_
    refine WR.val (G0 rfl) rfl rfl (.move rfl rfl) ?_
    refine WR.val (G0 rfl) rfl rfl (.eql rfl rfl rfl) ?_
    refine WR.nil ?_
    refine WA.cond rfl (fun h6 => ?_) (fun h6 => ?_)
    · have f7 := h6
      try simp only [decide_eq_true_eq, decide_eq_false_iff_not, Bool.not_eq_true', Bool.not_eq_false', Int.not_lt, Int.not_le] at f7
      refine WA.seq ?_
      refine WA.region ?_
      refine WR.val (G0 rfl) rfl rfl (.move rfl rfl) ?_
      refine WR.val (G0 rfl) rfl rfl (.move rfl rfl) ?_
      refine WR.dw (G0 rfl) rfl rfl (.append 1 rfl ST_309.1 ZT_314 rfl (by decide) rfl rfl rfl (fun _ hw => hw.slf_blk 0 rfl rfl (by simp [maxLen])) (by intro u hu; simp at hu; rcases hu with rfl | rfl | rfl <;> rfl) (by omega) (by omega)) ?_
      rintro _ _ ⟨A8, c9, rfl, rfl⟩
      refine WR.val (G0 rfl) rfl rfl (.assign rfl rfl) ?_
      refine WR.nil ?_
      have hin : i = l.length := by omega
      refine WA.roweq 1 rfl (l.length + 1) ((l.take i ++ x :: l.drop i).flatMap ec) rfl (by rw [hout, hin, List.drop_length]; simp) ?_
      exact WA.ret1 rfl rfl (.cons _ (.refl _)) ⟨_, _, rfl, rfl⟩
    · have f10 := h6
      try simp only [decide_eq_true_eq, decide_eq_false_iff_not, Bool.not_eq_true', Bool.not_eq_false', Int.not_lt, Int.not_le] at f10
      refine WA.skip ?_
      refine WA.seq ?_
      refine WA.seq ?_
      refine WA.region ?_
      refine WR.val (G0 rfl) rfl rfl (.move rfl rfl) ?_
      refine WR.val (G0 rfl) rfl rfl (.move rfl rfl) ?_
      refine WR.val (G0 rfl) rfl rfl (.add rfl rfl rfl (by omega) (by omega)) ?_
      refine WR.val (G0 rfl) rfl rfl (.move rfl rfl) ?_
      refine WR.val (G0 rfl) rfl rfl (.cap rfl ST_309.1 rfl) ?_
      refine WR.val (G0 rfl) rfl rfl (.gtr rfl rfl rfl) ?_
      refine WR.nil ?_
      refine WA.cond rfl (fun h12 => ?_) (fun h12 => ?_)
      · have f13 := h12
        try simp only [decide_eq_true_eq, decide_eq_false_iff_not, Bool.not_eq_true', Bool.not_eq_false', Int.not_lt, Int.not_le] at f13
        refine WA.seq ?_
        refine WA.region ?_
        refine WR.val (G0 rfl) rfl rfl (.move rfl rfl) ?_
        refine WR.val (G0 rfl) rfl rfl (.move rfl rfl) ?_
        refine WR.val (G0 rfl) rfl rfl (.slice_h rfl ST_309 rfl rfl (by omega) (by omega)) ?_
        refine WR.val (G0 rfl) rfl rfl (.move rfl rfl) ?_
        refine WR.val (G0 rfl) rfl rfl (.move rfl rfl) ?_
        refine WR.val (G0 rfl) rfl rfl (.add rfl rfl rfl (by omega) (by omega)) ?_
        refine WR.val (G0 rfl) rfl rfl (.move rfl rfl) ?_
        refine WR.val (G0 rfl) rfl rfl (.sub rfl rfl rfl (by omega) (by omega)) ?_
        refine WR.dw (G0 rfl) rfl rfl (.appendZeros rfl ST_309.1 Tryz.underlying3 ZT_314 rfl (by decide) rfl (Eq.trans (b := some (.int .i64 ((l.length : Int) + 1 - (i : Int)))) rfl (by rw [show ((l.length : Int) + 1 - (i : Int)) = ((l.length + 1 - i : Nat) : Int) by omega])) (fun _ hw => SlF.pre (hw.slf_row 1 rfl) hi) (by omega) (by omega) (by omega) (by omega) (by decide)) ?_
        rintro _ _ ⟨A15, c16, zs17, rfl, hz18, rfl⟩
        refine WR.val (G0 rfl) rfl rfl (.assign rfl rfl) ?_
        refine WR.nil ?_
        refine WA.seq ?_
        refine WA.region ?_
        refine WR.val (G0 rfl) rfl rfl (.move rfl rfl) ?_
        refine WR.val (G0 rfl) rfl rfl (.move rfl rfl) ?_
        refine WR.val (G0 rfl) rfl rfl (.slice_l rfl ST_309 rfl rfl (by omega) (by omega)) ?_
        refine WR.val (G0 rfl) rfl rfl (.move rfl rfl) ?_
        refine WR.dw (G0 rfl) rfl rfl (.copyRow 0 rfl ST_309.1 ST_309.2 rfl (by omega) rfl (fun _ hw => hw.slf_blk 1 rfl rfl (by simp [maxLen])) (fun u hu => one_ec x u (List.mem_of_mem_take hu)) rfl (by omega)) ?_
        rintro _ _ ⟨rfl, rfl⟩
        refine WR.nil ?_
        refine WA.seq ?_
        refine WA.drawsE1 follows 0 ?_
        refine WH.take 0 rfl (Pf_blind _ _ _ _ _) (by kernel_rfl) (by kernel_rfl) (by kernel_rfl) (.cons _ (.refl _)) (G0 rfl) rfl rfl (.move rfl rfl) ?_
        refine WH.take 1 rfl (Pf_blind _ _ _ _ _) (by kernel_rfl) (by kernel_rfl) (by kernel_rfl) (.cons _ (.refl _)) (G0 rfl) rfl rfl (.move rfl rfl) ?_
        refine WH.take 2 rfl (Pf_blind _ _ _ _ _) (by kernel_rfl) (by kernel_rfl) (by kernel_rfl) (.cons _ (.refl _)) (G0 rfl) rfl rfl (.move rfl rfl) ?_
        refine WH.take 3 rfl (Pf_blind _ _ _ _ _) (by kernel_rfl) (by kernel_rfl) (by kernel_rfl) (.cons _ (.refl _)) (G0 rfl) rfl rfl (.add rfl rfl rfl (by omega) (by omega)) ?_
        refine WH.take 4 rfl (Pf_blind _ _ _ _ _) (by kernel_rfl) (by kernel_rfl) (by kernel_rfl) (.cons _ (.refl _)) (G0 rfl) rfl rfl (.slice_l rfl ST_309 rfl rfl (by omega) (by omega)) ?_
        refine WH.take 5 rfl (Pf_blind _ _ _ _ _) (by kernel_rfl) (by kernel_rfl) (by kernel_rfl) (.cons _ (.refl _)) (G0 rfl) rfl rfl (.move rfl rfl) ?_
        refine WH.take 6 rfl (Pf_blind _ _ _ _ _) (by kernel_rfl) (by kernel_rfl) (by kernel_rfl) (.cons _ (.refl _)) (G0 rfl) rfl rfl (.move rfl rfl) ?_
        refine WH.take 7 rfl (Pf_blind _ _ _ _ _) (by kernel_rfl) (by kernel_rfl) (by kernel_rfl) (.cons _ (.refl _)) (G0 rfl) rfl rfl (.slice_l rfl ST_309 rfl rfl (by omega) (by omega)) ?_
        refine WH.dw 8 rfl (by kernel_rfl) (G0 rfl) rfl rfl (.copyRow 0 rfl ST_309.1 ST_309.2 rfl (by omega) rfl (fun _ hw => SlF.cut (hw.slf_row 2 rfl) hi (Nat.le_refl _) hcap.1) (fun u hu => one_flat one_ec l u (List.mem_of_mem_drop (List.mem_of_mem_take (List.mem_of_mem_take hu)))) rfl (by omega)) ?_
        rintro _ _ ⟨rfl, rfl⟩
        refine ⟨(.cons _ (.refl _)), ?_⟩
        refine WH.done (by kernel_rfl) ?_
        refine WA.seq ?_
        refine WA.region ?_
        refine WR.val (G0 rfl) rfl rfl (.move rfl rfl) ?_
        refine WR.val (G0 rfl) rfl rfl (.assign rfl rfl) ?_
        refine WR.nil ?_
        refine WA.roweq 0 rfl (l.length + 1) ((l.take i ++ x :: l.drop i).flatMap ec) (by omega) (by rw [hout]; exact ins_new_ent l i hi x _ hz18 rfl (by omega) (by omega) (by omega) (by omega)) ?_
        exact WA.ret1 rfl rfl (.cons_cons _ (.cons _ (.cons _ .slnil))) ⟨_, _, by congr 1; omega, rfl⟩
      · have f19 := h12
        try simp only [decide_eq_true_eq, decide_eq_false_iff_not, Bool.not_eq_true', Bool.not_eq_false', Int.not_lt, Int.not_le] at f19
        refine WA.skip ?_
        refine WA.seq ?_
        refine WA.region ?_
        refine WR.val (G0 rfl) rfl rfl (.move rfl rfl) ?_
        refine WR.val (G0 rfl) rfl rfl (.move rfl rfl) ?_
        refine WR.val (G0 rfl) rfl rfl (.move rfl rfl) ?_
        refine WR.val (G0 rfl) rfl rfl (.add rfl rfl rfl (by omega) (by omega)) ?_
        refine WR.val (G0 rfl) rfl rfl (.slice_h rfl ST_309 rfl rfl (by omega) (by omega)) ?_
        refine WR.growrow 1 (l.length + 1) rfl (by omega) (by omega) (fun ys hys => ?_)
        refine WR.val (G0 rfl) rfl rfl (.assign rfl rfl) ?_
        refine WR.nil ?_
        refine WA.seq ?_
        refine WA.seq ?_
        refine WA.region ?_
        refine WR.val (G0 rfl) rfl rfl (.move rfl rfl) ?_
        refine WR.val (G0 rfl) rfl rfl (.move rfl rfl) ?_
        refine WR.val (G0 rfl) rfl rfl (.move rfl rfl) ?_
        refine WR.val (G0 rfl) rfl rfl (.move rfl rfl) ?_
        refine WR.val (G0 rfl) rfl rfl (.add rfl rfl rfl (by omega) (by omega)) ?_
        refine WR.val (G0 rfl) rfl rfl (.slice_l rfl ST_309 rfl rfl (by omega) (by omega)) ?_
        refine WR.val (G0 rfl) rfl rfl (.overlaps (tR := 4) 0 1 rfl rfl rfl Tryz.func286 (by kernel_rfl) (by kernel_rfl) (by kernel_rfl) (by kernel_rfl) ST_309.1 ST_309.2 rfl rfl (by decide) (by omega) (by decide)) ?_
        refine WR.val (G0 rfl) rfl rfl (.not rfl rfl) ?_
        refine WR.nil ?_
        refine WA.cond_t rfl rfl ?_
        refine WA.seq ?_
        refine WA.drawsE1 follows 1 ?_
        refine WH.take 0 rfl (Pf_blind _ _ _ _ _) (by kernel_rfl) (by kernel_rfl) (by kernel_rfl) (.cons_cons _ (.cons _ .slnil)) (G0 rfl) rfl rfl (.move rfl rfl) ?_
        refine WH.take 1 rfl (Pf_blind _ _ _ _ _) (by kernel_rfl) (by kernel_rfl) (by kernel_rfl) (.cons_cons _ (.cons _ .slnil)) (G0 rfl) rfl rfl (.move rfl rfl) ?_
        refine WH.take 2 rfl (Pf_blind _ _ _ _ _) (by kernel_rfl) (by kernel_rfl) (by kernel_rfl) (.cons_cons _ (.cons _ .slnil)) (G0 rfl) rfl rfl (.move rfl rfl) ?_
        refine WH.take 3 rfl (Pf_blind _ _ _ _ _) (by kernel_rfl) (by kernel_rfl) (by kernel_rfl) (.cons_cons _ (.cons _ .slnil)) (G0 rfl) rfl rfl (.add rfl rfl rfl (by omega) (by omega)) ?_
        refine WH.take 4 rfl (Pf_blind _ _ _ _ _) (by kernel_rfl) (by kernel_rfl) (by kernel_rfl) (.cons_cons _ (.cons _ .slnil)) (G0 rfl) rfl rfl (.slice_l rfl ST_309 rfl rfl (by omega) (by omega)) ?_
        refine WH.take 5 rfl (Pf_blind _ _ _ _ _) (by kernel_rfl) (by kernel_rfl) (by kernel_rfl) (.cons_cons _ (.cons _ .slnil)) (G0 rfl) rfl rfl (.move rfl rfl) ?_
        refine WH.take 6 rfl (Pf_blind _ _ _ _ _) (by kernel_rfl) (by kernel_rfl) (by kernel_rfl) (.cons_cons _ (.cons _ .slnil)) (G0 rfl) rfl rfl (.move rfl rfl) ?_
        refine WH.take 7 rfl (Pf_blind _ _ _ _ _) (by kernel_rfl) (by kernel_rfl) (by kernel_rfl) (.cons_cons _ (.cons _ .slnil)) (G0 rfl) rfl rfl (.slice_l rfl ST_309 rfl rfl (by omega) (by omega)) ?_
        refine WH.dw 8 rfl (by kernel_rfl) (G0 rfl) rfl rfl (.copyRow 1 rfl ST_309.1 ST_309.2 rfl (by omega) rfl (fun _ hw => SlF.cut (hw.slf_row 1 rfl) (l := i) (m := l.length + 1) (by omega) (Nat.le_refl _) (by omega)) (here_one l i ys (by omega)) rfl (by omega)) ?_
        rintro _ _ ⟨rfl, rfl⟩
        refine ⟨(.cons_cons _ (.cons _ .slnil)), ?_⟩
        refine WH.done (by kernel_rfl) ?_
        refine WA.seq ?_
        refine WA.region ?_
        refine WR.val (G0 rfl) rfl rfl (.move rfl rfl) ?_
        refine WR.val (G0 rfl) rfl rfl (.move rfl rfl) ?_
        refine WR.val (G0 rfl) rfl rfl (.slice_l rfl ST_309 rfl rfl (by omega) (by omega)) ?_
        refine WR.val (G0 rfl) rfl rfl (.move rfl rfl) ?_
        refine WR.dw (G0 rfl) rfl rfl (.copyRow 1 rfl ST_309.1 ST_309.2 rfl (by omega) rfl (fun _ hw => hw.slf_blk 0 rfl rfl (by simp [maxLen])) (fun u hu => one_ec x u (List.mem_of_mem_take hu)) rfl (by omega)) ?_
        rintro _ _ ⟨rfl, rfl⟩
        refine WR.nil ?_
        refine WA.seq ?_
        refine WA.region ?_
        refine WR.val (G0 rfl) rfl rfl (.move rfl rfl) ?_
        refine WR.val (G0 rfl) rfl rfl (.assign rfl rfl) ?_
        refine WR.nil ?_
        refine WA.roweq 1 rfl (l.length + 1) ((l.take i ++ x :: l.drop i).flatMap ec) rfl (by rw [hout]; exact ins_here_ent l i hi x ys (by omega) rfl (by omega) (by omega) (by omega) (by omega)) ?_
        exact WA.ret1 rfl rfl (.cons _ (.refl _)) ⟨_, _, rfl, rfl⟩
set_option maxRecDepth 20000 in
/-- (*redpencil/omap.Map[redpencil/api.Dot, []redpencil/api.Node]).Set -/
theorem setMF (w : World) (p : Nat) (A : Option Addr) (cap : Nat) (l : List Ent) (x : Ent) (hl : l.length ≤ 900000) (hs : ksorted l) : Ct Tryz.prog 221 #[.pointer (some ⟨p, 0, none⟩), dv x.k, .slice x.A x.n x.c] [En.blk p [.func (.func 107) #[] #[], .slice A l.length cap] 311, En.row A l.length cap 314 3 (l.flatMap ec)] w (fun u hs => ∃ A' cap', hs = [En.blk p [.func (.func 107) #[] #[], .slice A' (mput l x).length cap'] 311, En.row A' (mput l x).length cap' 314 3 ((mput l x).flatMap ec)]) := by
  refine Ct.intro Tryz.func221 rfl Tryz.ntmps221 rfl ?_
  refine WA.seq ?_
  refine WA.region ?_
  refine WR.dw (G0 rfl) rfl rfl (.box (vs := [_, _]) rfl rfl rfl) ?_
  rintro _ _ ⟨b2, rfl, rfl⟩
  refine WR.val (G0 rfl) rfl rfl (.assign rfl rfl) ?_
  refine WR.val (G0 rfl) rfl rfl (.assign rfl rfl) ?_
  refine WR.nil ?_
  refine WA.seq ?_
  refine WA.seq ?_
  refine WA.region ?_
  refine WR.val (G0 rfl) rfl rfl (.move rfl rfl) ?_
  refine WR.dw (G0 rfl) rfl rfl (.callv (caps := []) rfl rfl rfl EN_256 (fun w hw => zeroMF _ p A cap l.length (hw.rd_blk (k := 2) 1 rfl rfl))) ?_
  rintro _ _ ⟨rfl, rfl⟩
  refine WR.nil ?_
  refine WA.cond_f rfl rfl ?_
  refine WA.skip ?_
  refine WA.seq ?_
  refine WA.region ?_
  refine WR.val (G0 rfl) rfl rfl (.move rfl rfl) ?_
  refine WR.val (G0 rfl) rfl rfl (.loadK (vs := [_, _]) rfl AG_39 rfl (fun _ hw => hw.rd_blk (k := 2) 0 rfl rfl)) ?_
  refine WR.dw (G0 rfl) rfl rfl (.callv (caps := []) rfl rfl rfl EN_255 (fun w hw => mfindF _ p A cap l (hw.rd_blk (k := 2) 1 rfl rfl) x.k (hw.slf_row 2 rfl) (by omega) hs)) ?_
  rintro _ _ ⟨rfl, rfl⟩
  refine WR.val (G0 rfl) rfl rfl (.move rfl rfl) ?_
  refine WR.val (G0 rfl) rfl rfl (.extract (vs := [_, _]) rfl rfl rfl) ?_
  refine WR.val (G0 rfl) rfl rfl (.extract (vs := [_, _]) rfl rfl rfl) ?_
  refine WR.val (G0 rfl) rfl rfl (.assign rfl rfl) ?_
  refine WR.val (G0 rfl) rfl rfl (.assign rfl rfl) ?_
  refine WR.nil ?_
  refine WA.seq ?_
  refine WA.seq ?_
  refine WA.region ?_
  refine WR.val (G0 rfl) rfl rfl (.move rfl rfl) ?_
  refine WR.val (G0 rfl) rfl rfl (.not rfl rfl) ?_
  refine WR.nil ?_
  refine WA.cond rfl (fun h4 => ?_) (fun h4 => ?_)
  · have f5 := h4
    try simp only [decide_eq_true_eq, decide_eq_false_iff_not, Bool.not_eq_true', Bool.not_eq_false', Int.not_lt, Int.not_le] at f5
    refine WA.seq ?_
    refine WA.drawsE2 follows 1 1 ?_
    refine WH.take 0 rfl (Pf_blind _ _ _ _ _) (by kernel_rfl) (by kernel_rfl) (by kernel_rfl) (.cons_cons _ (.cons _ (.cons _ .slnil))) (G0 rfl) rfl rfl (.move rfl rfl) ?_
    refine WH.take 1 rfl (Pf_blind _ _ _ _ _) (by kernel_rfl) (by kernel_rfl) (by kernel_rfl) (.cons_cons _ (.cons _ (.cons _ .slnil))) (G0 rfl) rfl rfl (.move rfl rfl) ?_
    refine WH.take 2 rfl (Pf_blind _ _ _ _ _) (by kernel_rfl) (by kernel_rfl) (by kernel_rfl) (.cons_cons _ (.cons _ (.cons _ .slnil))) (G0 rfl) rfl rfl (.nilCheck rfl rfl) ?_
    refine WH.take 3 rfl (Pf_blind _ _ _ _ _) (by kernel_rfl) (by kernel_rfl) (by kernel_rfl) (.cons_cons _ (.cons _ (.cons _ .slnil))) (G0 rfl) rfl rfl (.fa rfl FA_311_1 rfl) ?_
    refine WH.take 5 rfl (Pf_blind _ _ _ _ _) (by kernel_rfl) (by kernel_rfl) (by kernel_rfl) (.cons_cons _ (.cons _ (.cons _ .slnil))) (G0 rfl) rfl rfl (.move rfl rfl) ?_
    refine WH.take 6 rfl (Pf_blind _ _ _ _ _) (by kernel_rfl) (by kernel_rfl) (by kernel_rfl) (.cons_cons _ (.cons _ (.cons _ .slnil))) (G0 rfl) rfl rfl (.loadK (vs := [_, _]) rfl AG_39 rfl (fun _ hw => hw.rd_blk (k := 2) 0 rfl rfl)) ?_
    refine WH.take 7 rfl (Pf_blind _ _ _ _ _) (by kernel_rfl) (by kernel_rfl) (by kernel_rfl) (.cons_cons _ (.cons _ (.cons _ .slnil))) (G0 rfl) rfl rfl (.move rfl rfl) ?_
    refine WH.take 8 rfl (Pf_blind _ _ _ _ _) (by kernel_rfl) (by kernel_rfl) (by kernel_rfl) (.cons_cons _ (.cons _ (.cons _ .slnil))) (G0 rfl) rfl rfl (.build (vs := [_, _, _]) [.int .i64 0, .int .i64 0, .slice none 0 0] [0, 2] rfl rfl rfl (fun _ => by kernel_rfl)) ?_
    refine WH.two (i := 4) (j := 9) (by kernel_rfl) ?_ ?_
    · refine WO.dw 4 rfl (G0 rfl) rfl rfl (Ex.dw (.load1 rfl NA_309 rfl (fun _ hw => hw.rd_blk (k := 1) 1 rfl rfl))) ?_
      rintro _ _ ⟨rfl, rfl⟩
      refine ⟨(.cons_cons _ (.cons _ (.cons _ .slnil))), ?_⟩
      refine WH.dw 9 rfl (by kernel_rfl) (G0 rfl) rfl rfl (.buildSlice (k := 3) (e := 314) (vs := [_, _, _]) rfl rfl rfl (fun _ => by kernel_rfl) rfl) ?_
      rintro _ _ ⟨b11, rfl, rfl⟩
      refine ⟨(.cons _ (.cons_cons _ (.cons _ (.cons _ .slnil)))), ?_⟩
      refine WH.dw 10 rfl (by kernel_rfl) (G0 rfl) rfl rfl (.callo2 (caps := []) 0 2 rfl rfl rfl rfl rfl EN_257 (fun w hw => insertF l A cap (mpos l x.k) x _ _ hl (mpos_le l x.k))) ?_
      rintro _ _ ⟨_, ⟨v16, v17, rfl, rfl⟩, rfl⟩
      refine ⟨(.cons _ (.cons_cons _ (.cons _ .slnil))), ?_⟩
      refine WH.take 11 rfl (Pf_blind _ _ _ _ _) (by kernel_rfl) (by kernel_rfl) (by kernel_rfl) (.cons _ (.cons_cons _ (.cons _ .slnil))) (G0 rfl) rfl rfl (.nilCheck rfl rfl) ?_
      refine WH.take 12 rfl (Pf_blind _ _ _ _ _) (by kernel_rfl) (by kernel_rfl) (by kernel_rfl) (.cons _ (.cons_cons _ (.cons _ .slnil))) (G0 rfl) rfl rfl (.fa rfl FA_311_1 rfl) ?_
      refine WH.dw0 13 rfl (by kernel_rfl) (G0 rfl) rfl (.store (i := 2) rfl NA_309.2 rfl rfl [_] rfl rfl (by intro u hu; simp at hu; subst hu; rfl) rfl rfl) ?_
      rintro _ _ ⟨rfl, rfl⟩
      refine ⟨(.cons _ (.cons_cons _ (.cons _ .slnil))), ?_⟩
      refine WH.done (by kernel_rfl) ?_
      refine WA.seq ?_
      refine WA.region ?_
      refine WR.val (G0 rfl) rfl rfl (.move rfl rfl) ?_
      refine WR.val (G0 rfl) rfl rfl (.assign rfl rfl) ?_
      refine WR.val (G0 rfl) rfl rfl (.assign rfl rfl) ?_
      refine WR.nil ?_
      have hE : mput l x = l.take (mpos l x.k) ++ x :: l.drop (mpos l x.k) := if_neg (by simp_all)
      have hn : (mput l x).length = l.length + 1 := by have := mpos_le l x.k; rw [hE]; simp; omega
      rw [← hE, ← hn]
      refine WA.front 2 rfl ?_
      exact WA.ret2 rfl rfl rfl (.cons_cons _ (.cons_cons _ (.cons _ .slnil))) ⟨_, _, rfl⟩
    · refine WO.dw 9 rfl (G0 rfl) rfl rfl (.buildSlice (k := 3) (e := 314) (vs := [_, _, _]) rfl rfl rfl (fun _ => by kernel_rfl) rfl) ?_
      rintro _ _ ⟨b19, rfl, rfl⟩
      refine ⟨(.cons _ (.cons_cons _ (.cons _ (.cons _ .slnil)))), ?_⟩
      refine WH.dw 4 rfl (by kernel_rfl) (G0 rfl) rfl rfl (Ex.dw (.load1 rfl NA_309 rfl (fun _ hw => hw.rd_blk (k := 1) 2 rfl rfl))) ?_
      rintro _ _ ⟨rfl, rfl⟩
      refine ⟨(.cons _ (.cons_cons _ (.cons _ (.cons _ .slnil)))), ?_⟩
      refine WH.dw 10 rfl (by kernel_rfl) (G0 rfl) rfl rfl (.callo2 (caps := []) 0 2 rfl rfl rfl rfl rfl EN_257 (fun w hw => insertF l A cap (mpos l x.k) x _ _ hl (mpos_le l x.k))) ?_
      rintro _ _ ⟨_, ⟨v24, v25, rfl, rfl⟩, rfl⟩
      refine ⟨(.cons _ (.cons_cons _ (.cons _ .slnil))), ?_⟩
      refine WH.take 11 rfl (Pf_blind _ _ _ _ _) (by kernel_rfl) (by kernel_rfl) (by kernel_rfl) (.cons _ (.cons_cons _ (.cons _ .slnil))) (G0 rfl) rfl rfl (.nilCheck rfl rfl) ?_
      refine WH.take 12 rfl (Pf_blind _ _ _ _ _) (by kernel_rfl) (by kernel_rfl) (by kernel_rfl) (.cons _ (.cons_cons _ (.cons _ .slnil))) (G0 rfl) rfl rfl (.fa rfl FA_311_1 rfl) ?_
      refine WH.dw0 13 rfl (by kernel_rfl) (G0 rfl) rfl (.store (i := 2) rfl NA_309.2 rfl rfl [_] rfl rfl (by intro u hu; simp at hu; subst hu; rfl) rfl rfl) ?_
      rintro _ _ ⟨rfl, rfl⟩
      refine ⟨(.cons _ (.cons_cons _ (.cons _ .slnil))), ?_⟩
      refine WH.done (by kernel_rfl) ?_
      refine WA.seq ?_
      refine WA.region ?_
      refine WR.val (G0 rfl) rfl rfl (.move rfl rfl) ?_
      refine WR.val (G0 rfl) rfl rfl (.assign rfl rfl) ?_
      refine WR.val (G0 rfl) rfl rfl (.assign rfl rfl) ?_
      refine WR.nil ?_
      have hE : mput l x = l.take (mpos l x.k) ++ x :: l.drop (mpos l x.k) := if_neg (by simp_all)
      have hn : (mput l x).length = l.length + 1 := by have := mpos_le l x.k; rw [hE]; simp; omega
      rw [← hE, ← hn]
      refine WA.front 2 rfl ?_
      exact WA.ret2 rfl rfl rfl (.cons_cons _ (.cons_cons _ (.cons _ .slnil))) ⟨_, _, rfl⟩
  · have f26 := h4
    try simp only [decide_eq_true_eq, decide_eq_false_iff_not, Bool.not_eq_true', Bool.not_eq_false', Int.not_lt, Int.not_le] at f26
    refine WA.skip ?_
    refine WA.seq ?_
    have hfd : mhas l x.k = true := by simp_all
    have hlt := mhas_lt hfd
    refine WA.region ?_
    refine WR.val (G0 rfl) rfl rfl (.move rfl rfl) ?_
    refine WR.val (G0 rfl) rfl rfl (.nilCheck rfl rfl) ?_
    refine WR.val (G0 rfl) rfl rfl (.fa rfl FA_311_1 rfl) ?_
    refine WR.val (G0 rfl) rfl rfl (.load1 rfl NA_309 rfl (fun _ hw => hw.rd_blk (k := 1) 1 rfl rfl)) ?_
    refine WR.val (G0 rfl) rfl rfl (.move rfl rfl) ?_
    refine WR.val (G0 rfl) rfl rfl (.ix rfl ST_309 rfl rfl (by omega) (by omega) (fun _ hw hn => (hw.slf_row 2 rfl).some_ hn)) ?_
    refine WR.val (G0 rfl) rfl rfl (.fe rfl FA_314_1 rfl) ?_
    refine WR.val (G0 rfl) rfl rfl (.load1 rfl NA_22 rfl (fun _ hw => Rd.el (off := 2) (k := 1) (rdE (hw.slf_row 2 rfl) (by omega) (by omega)) rfl)) ?_
    refine WR.val (G0 rfl) rfl rfl (.assign rfl rfl) ?_
    refine WR.nil ?_
    refine WA.seq ?_
    refine WA.region ?_
    refine WR.val (G0 rfl) rfl rfl (.move rfl rfl) ?_
    refine WR.val (G0 rfl) rfl rfl (.nilCheck rfl rfl) ?_
    refine WR.val (G0 rfl) rfl rfl (.fa rfl FA_311_1 rfl) ?_
    refine WR.val (G0 rfl) rfl rfl (.load1 rfl NA_309 rfl (fun _ hw => hw.rd_blk (k := 1) 1 rfl rfl)) ?_
    refine WR.val (G0 rfl) rfl rfl (.move rfl rfl) ?_
    refine WR.val (G0 rfl) rfl rfl (.move rfl rfl) ?_
    refine WR.val (G0 rfl) rfl rfl (.ix rfl ST_309 rfl rfl (by omega) (by omega) (fun _ hw hn => (hw.slf_row 2 rfl).some_ hn)) ?_
    refine WR.val (G0 rfl) rfl rfl (.fe rfl FA_314_1 rfl) ?_
    refine WR.dw0 (G0 rfl) rfl (.storeRow 2 rfl NA_22.2 rfl rfl [_] rfl rfl (by intro u hu; simp at hu; subst hu; rfl) rfl (by omega) (by decide)) ?_
    rintro _ _ ⟨rfl, rfl⟩
    refine WR.nil ?_
    refine WA.seq ?_
    refine WA.region ?_
    refine WR.val (G0 rfl) rfl rfl (.move rfl rfl) ?_
    refine WR.val (G0 rfl) rfl rfl (.assign rfl rfl) ?_
    refine WR.val (G0 rfl) rfl rfl (.assign rfl rfl) ?_
    refine WR.nil ?_
    have hn : (mput l x).length = l.length := by rw [← mput_found hfd, List.length_set]
    refine WA.roweq 2 rfl (mput l x).length ((mput l x).flatMap ec) hn.symm (by rw [← mput_found hfd]; exact putL_ent l _ hlt.1 _ _ _) ?_
    exact WA.ret2 rfl rfl rfl (.cons _ (.refl _)) ⟨A, cap, by rw [hn]; rfl⟩
set_option maxRecDepth 20000 in
/-- slices.Clone[[]redpencil/omap.entry[redpencil/api.Dot, []redpencil/api.Node],redpencil/omap.entry[redpencil/api.Dot, []redpencil/api.Node]] -/
theorem cloneFE (l : List Ent) (A : Option Addr) (cap : Nat) (w : World) (hS : SlE w A l) (hl : l.length ≤ 1000000) : Ct Tryz.prog 288 #[.slice A l.length cap] [] w (fun u hs => ∃ B c, u = .slice B l.length c ∧ hs = [En.row B l.length c 314 3 (l.flatMap ec)]) := by
  refine Ct.intro Tryz.func288 rfl Tryz.ntmps288 rfl ?_
  refine WA.seq ?_
  refine WA.region ?_
  refine WR.val (G0 rfl) rfl rfl (.assign rfl rfl) ?_
  refine WR.nil ?_
  refine WA.seq ?_
  refine WA.seq ?_
  refine WA.region ?_
  refine WR.val (G0 rfl) rfl rfl (.move rfl rfl) ?_
  refine WR.val (G0 rfl) rfl rfl (.eqnil rfl ST_309.1 rfl rfl) ?_
  refine WR.nil ?_
  refine WA.cond rfl (fun h2 => ?_) (fun h2 => ?_)
  · have f3 := h2
    try simp only [decide_eq_true_eq, decide_eq_false_iff_not, Bool.not_eq_true', Bool.not_eq_false', Int.not_lt, Int.not_le] at f3
    refine WA.seq ?_
    refine WA.region ?_
    refine WR.val (G0 rfl) rfl rfl (.assign rfl rfl) ?_
    refine WR.nil ?_
    have hn0 : l = [] := by rcases Nat.eq_zero_or_pos l.length with h | h; exact List.eq_nil_of_length_eq_zero h; have := hS.some_ h; simp_all
    subst hn0
    refine WA.nilrow 314 3 ?_
    exact WA.ret1 rfl rfl (.refl _) ⟨_, _, rfl, rfl⟩
  · have f4 := h2
    try simp only [decide_eq_true_eq, decide_eq_false_iff_not, Bool.not_eq_true', Bool.not_eq_false', Int.not_lt, Int.not_le] at f4
    refine WA.skip ?_
    refine WA.seq ?_
    refine WA.region ?_
    refine WR.dw (G0 rfl) rfl rfl (.buildSlice (k := 3) (e := 314) (vs := []) rfl rfl rfl (fun _ => by kernel_rfl) rfl) ?_
    rintro _ _ ⟨b6, rfl, rfl⟩
    refine WR.asrow (k := 3) 0 0 rfl rfl (by simp [maxLen]) ?_
    refine WR.val (G0 rfl) rfl rfl (.move rfl rfl) ?_
    refine WR.dw (G0 rfl) rfl rfl (.append 0 rfl ST_309.1 ZT_314 rfl (by decide) rfl rfl rfl (fun _ hw => hw.slf0 hS) (one_flat one_ec _) (by omega) (by omega)) ?_
    rintro _ _ ⟨A7, c8, rfl, rfl⟩
    refine WR.val (G0 rfl) rfl rfl (.assign rfl rfl) ?_
    refine WR.nil ?_
    refine WA.roweq 0 rfl l.length (l.flatMap ec) (by simp) (by simp) ?_
    exact WA.ret1 rfl rfl (.refl _) ⟨_, _, by simp, rfl⟩
set_option maxRecDepth 20000 in
/-- redpencil/omap.over[redpencil/api.Dot,[]redpencil/api.Node]$1 -/
theorem over1F (St : List Ent → List En → Prop) (l : List Ent) (E : Option Addr) (c b : Nat) (yv : Value) (T0 : List En) (w : World) (hl : l.length ≤ 1000000) (h0 : St [] T0) (hY : ∀ (pre : List Ent) (x : Ent) (post : List Ent) (T : List En) (W : World), l = pre ++ x :: post → St pre T → Cv Tryz.prog yv [dv x.k, .slice x.A x.n x.c] T W (fun u hs => u = .bool true ∧ St (pre ++ [x]) hs)) : Ct Tryz.prog 289 #[yv, .pointer (some ⟨b, 0, none⟩)] (En.blk b [.slice E l.length c] 309 :: En.row E l.length c 314 3 (l.flatMap ec) :: T0) w (fun u hs => ∃ T, hs = En.blk b [.slice E l.length c] 309 :: En.row E l.length c 314 3 (l.flatMap ec) :: T ∧ St l T) := by
  refine Ct.intro Tryz.func289 rfl Tryz.ntmps289 rfl ?_
  refine WA.seq ?_
  refine WA.region ?_
  refine WR.val (G0 rfl) rfl rfl (.load1 rfl NA_309 rfl (fun _ hw => hw.rd_blk (k := 1) 0 rfl rfl)) ?_
  refine WR.val (G0 rfl) rfl rfl (.len rfl ST_309.1 rfl) ?_
  refine WR.val (G0 rfl) rfl rfl (.move rfl rfl) ?_
  refine WR.nil ?_
  refine WA.block ?_
  refine WA.loopT (γ := Nat × List En) [(0, _), (5, _), (6, _)] (fun q => [(7, .int .i64 (q.1 : Int))]) (fun q => (En.blk b [.slice E l.length c] 309 :: En.row E l.length c 314 3 (l.flatMap ec) :: q.2)) (fun q => q.1 ≤ l.length ∧ St (l.take q.1) q.2) (fun q => l.length - q.1) (0, T0) (.cons rfl (.cons rfl (.cons rfl (.nil _)))) (.cons rfl (.nil _)) (.refl _) ⟨by simp, h0⟩ ?_
  intro q hk
  obtain ⟨hk, hSt⟩ := hk
  refine WA.seq ?_
  refine WA.region ?_
  refine WR.val (G0 rfl) rfl rfl (.lss rfl rfl rfl) ?_
  refine WR.nil ?_
  refine WA.seq ?_
  refine WA.cond rfl (fun h2 => ?_) (fun h2 => ?_)
  · have f3 := h2
    try simp only [decide_eq_true_eq, decide_eq_false_iff_not, Bool.not_eq_true', Bool.not_eq_false', Int.not_lt, Int.not_le] at f3
    refine WA.skip ?_
    refine WA.seq ?_
    refine WA.block ?_
    refine WA.seq ?_
    refine WA.region ?_
    refine WR.val (G0 rfl) rfl rfl (.ix rfl ST_309 rfl rfl (by omega) (by omega) (fun _ hw hn => (hw.slf_row 1 rfl).some_ hn)) ?_
    refine WR.val (G0 rfl) rfl rfl (.loadK (vs := [_, _, _]) rfl AG_314 rfl (fun _ hw => rdE (hw.slf_row 1 rfl) (by omega) (by omega))) ?_
    refine WR.dw (G0 rfl) rfl rfl (.alloc (vs := [_, _, _]) rfl ZT_314 rfl) ?_
    rintro _ _ ⟨b5, rfl, rfl⟩
    refine WR.dw0 (G0 rfl) rfl (.store (i := 0) rfl AG_314.2 rfl rfl [_, _, _] rfl rfl (by intro u hu; simp at hu; rcases hu with rfl | rfl | rfl <;> rfl) rfl rfl) ?_
    rintro _ _ ⟨rfl, rfl⟩
    refine WR.nil ?_
    refine WA.seq ?_
    refine WA.region ?_
    refine WR.val (G0 rfl) rfl rfl (.move rfl rfl) ?_
    refine WR.val (G0 rfl) rfl rfl (.fa rfl FA_314_0 rfl) ?_
    refine WR.val (G0 rfl) rfl rfl (.loadK (vs := [_, _]) rfl AG_39 rfl (fun _ hw => hw.rd_blk (k := 2) 0 rfl rfl)) ?_
    refine WR.val (G0 rfl) rfl rfl (.fa rfl FA_314_1 rfl) ?_
    refine WR.val (G0 rfl) rfl rfl (.load1 rfl NA_22 rfl (fun _ hw => hw.rd_blk (k := 1) 0 rfl rfl)) ?_
    refine WR.callY (G0 rfl) rfl rfl rfl rfl rfl (List.perm_append_comm (l₁ := [_, _, _]) (l₂ := q.2)) (fun w hw => hY (l.take q.1) (gx l (q.1 : Int)) (l.drop (q.1 + 1)) q.2 w (split_gx l (by omega)) hSt) ?_
    rintro _ T6 ⟨rfl, hT7⟩
    refine WR.perm' (List.perm_append_comm (l₁ := T6) (l₂ := [_, _, _])) ?_
    refine WR.val (G0 rfl) rfl rfl (.not rfl rfl) ?_
    refine WR.nil ?_
    refine WA.cond_f rfl rfl ?_
    refine WA.skip ?_
    refine WA.mark ?_
    refine WA.region ?_
    refine WR.val (G0 rfl) rfl rfl (.add rfl rfl rfl (by omega) (by omega)) ?_
    refine WR.val (G0 rfl) rfl rfl (.move rfl rfl) ?_
    refine WR.nil ?_
    exact WA.roundT (q.1 + 1, T6) (.cons rfl (.cons rfl (.cons rfl (.nil _)))) (.cons rfl (.nil _)) (.cons _ (.refl _)) ⟨by dsimp only; omega, by dsimp only; rw [take_gx l (by omega)]; exact hT7⟩ (by dsimp only; omega)
  · have f9 := h2
    try simp only [decide_eq_true_eq, decide_eq_false_iff_not, Bool.not_eq_true', Bool.not_eq_false', Int.not_lt, Int.not_le] at f9
    refine WA.exit rfl ?_
    rw [List.take_of_length_le (by omega)] at hSt
    exact WA.end0 rfl (.refl _) ⟨_, rfl, hSt⟩
set_option maxRecDepth 20000 in
/-- redpencil/omap.over[redpencil/api.Dot,[]redpencil/api.Node] -/
theorem overF (l : List Ent) (A : Option Addr) (cap : Nat) (w : World) (hE : SlE w A l) (hl : l.length ≤ 1000000) : Ct Tryz.prog 258 #[.slice A l.length cap] [] w (fun u hs => ∃ B c b, u = .func (.func 289) #[] #[.pointer (some ⟨b, 0, none⟩)] ∧ hs = [En.row B l.length c 314 3 (l.flatMap ec), En.blk b [.slice B l.length c] 309]) := by
  refine Ct.intro Tryz.func258 rfl Tryz.ntmps258 rfl ?_
  refine WA.seq ?_
  refine WA.region ?_
  refine WR.dw (G0 rfl) rfl rfl (.box (vs := [_]) rfl rfl rfl) ?_
  rintro _ _ ⟨b2, rfl, rfl⟩
  refine WR.val (G0 rfl) rfl rfl (.assign rfl rfl) ?_
  refine WR.nil ?_
  refine WA.seq ?_
  refine WA.region ?_
  refine WR.val (G0 rfl) rfl rfl (.load1 rfl NA_309 rfl (fun _ hw => hw.rd_blk (k := 1) 0 rfl rfl)) ?_
  refine WR.dw (G0 rfl) rfl rfl (.call0 (caps := []) rfl rfl rfl EN_288 (fun w hw => cloneFE _ _ _ _ (hw.slf0 hE) (by first | omega | (simp; omega)))) ?_
  rintro _ _ ⟨_, ⟨v4, v5, rfl, rfl⟩, rfl⟩
  refine WR.dw0 (G0 rfl) rfl (.store (i := 1) rfl NA_309.2 rfl rfl [_] rfl rfl (by intro u hu; simp at hu; subst hu; rfl) rfl rfl) ?_
  rintro _ _ ⟨rfl, rfl⟩
  refine WR.nil ?_
  refine WA.seq ?_
  refine WA.region ?_
  refine WR.val (G0 rfl) rfl rfl (.makeFunc1 rfl rfl) ?_
  refine WR.val (G0 rfl) rfl rfl (.assign rfl rfl) ?_
  refine WR.nil ?_
  exact WA.ret1 rfl rfl (.refl _) ⟨_, _, _, rfl, rfl⟩
set_option maxRecDepth 20000 in
/-- (*redpencil/omap.Map[redpencil/api.Dot, []redpencil/api.Node]).All -/
theorem mallF (w : World) (p : Nat) (A : Option Addr) (cap : Nat) (l : List Ent) (hM : Rd w ⟨p, 0, none⟩ [.func (.func 107) #[] #[], .slice A l.length cap]) (hE : SlE w A l) (hl : l.length ≤ 1000000) : Ct Tryz.prog 222 #[.pointer (some ⟨p, 0, none⟩)] [] w (fun u hs => ∃ B c b, u = .func (.func 289) #[] #[.pointer (some ⟨b, 0, none⟩)] ∧ hs = [En.row B l.length c 314 3 (l.flatMap ec), En.blk b [.slice B l.length c] 309]) := by
  refine Ct.intro Tryz.func222 rfl Tryz.ntmps222 rfl ?_
  refine WA.seq ?_
  refine WA.region ?_
  refine WR.val (G0 rfl) rfl rfl (.assign rfl rfl) ?_
  refine WR.nil ?_
  refine WA.seq ?_
  refine WA.seq ?_
  refine WA.region ?_
  refine WR.val (G0 rfl) rfl rfl (.move rfl rfl) ?_
  refine WR.dw (G0 rfl) rfl rfl (.callv (caps := []) rfl rfl rfl EN_256 (fun w hw => zeroMF _ p A cap l.length (hw.rdx (k := 2) hM rfl))) ?_
  rintro _ _ ⟨rfl, rfl⟩
  refine WR.nil ?_
  refine WA.cond_f rfl rfl ?_
  refine WA.skip ?_
  refine WA.seq ?_
  refine WA.region ?_
  refine WR.val (G0 rfl) rfl rfl (.move rfl rfl) ?_
  refine WR.val (G0 rfl) rfl rfl (.nilCheck rfl rfl) ?_
  refine WR.val (G0 rfl) rfl rfl (.fa rfl FA_311_1 rfl) ?_
  refine WR.val (G0 rfl) rfl rfl (.load1 rfl NA_309 rfl (fun _ hw => hw.rdx (k := 1) hM rfl)) ?_
  refine WR.dw (G0 rfl) rfl rfl (.call0 (caps := []) rfl rfl rfl EN_258 (fun w hw => overF _ _ _ _ (hw.slf0 hE) (by first | omega | (simp; omega)))) ?_
  rintro _ _ ⟨_, ⟨v3, v4, v5, rfl, rfl⟩, rfl⟩
  refine WR.val (G0 rfl) rfl rfl (.assign rfl rfl) ?_
  refine WR.nil ?_
  exact WA.ret1 rfl rfl (.refl _) ⟨_, _, _, rfl, rfl⟩
end Go.Proofs.YtpbillinpjccdaaGreat.Fg
