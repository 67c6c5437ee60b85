/- The law EditApplies answers true, whatever two states it is handed, and leaves them as they were. -/
import Derived.Test.YtpbillinpjccdaaGreatRows
import Derived.Test.YtpbillinpjccdaaGreatFr
import Derived.Test.YtpbillinpjccdaaGreatFs
import Derived.Test.YtpbillinpjccdaaGreatFt
import Derived.Test.YtpbillinpjccdaaGreatFu
import Derived.WalkKit
import Derived.ProofKit
import Derived.OpenShut
import Derived.ShutString
import Derived.ChangeOld
import Derived.Below
import Derived.SizedLaws
namespace Go.Proofs.YtpbillinpjccdaaGreat.editApplies
open Go.ChangeShapes Go.WideShapes Go.ChangeAt Go.RowKit Go.J Go.R
theorem own : ownKnob Tryz.prog.godebug = none := by kernel_rfl
set_option maxRecDepth 100000 in
theorem lifted (os : Os) (started : os.Started) (H : Type) (enc : TypeId × Value → H) :
    ReturnsInHanded {} Tryz.checked os 9 .any (Rows.editAppliesSpec.pre6 enc Tryz.prog Tryz.f9 Rows.editAppliesRow.domain false) (Rows.editAppliesSpec.post enc Tryz.prog Tryz.f9 false true false false) := by
  refine returnsInHanded_of_change_sized (C := Tryz.checked) own started (by kernel_rfl) Tryz.func9
    (ChangeSpec.witness6 (enc := enc) (C := Tryz.checked) false ⟨#[], #[.slice none 0 0, .slice none 0 0], []⟩ 8 (by kernel_rfl) (by kernel_rfl) (by kernel_rfl) (by kernel_rfl)) ?_
  intro W base args ds gs before hval0 hW hcnd hsz0 _
  have hval : ∀ (j : Nat) t v, Tryz.f9.params[j]? = some t → args[j]? = some v → Value.okWide Tryz.prog W .any base t v := hval0
  have hW' := hW
  obtain ⟨p, q, hA0, hV, rfl, hfz, hnd⟩ := hW
  have hA : DataW.TrodAll enc Tryz.prog W 0 (fun _ => true) true Tryz.f9.params.toList args.toList ds p := hA0
  rw [Tryz.params9] at hA hval
  obtain ⟨v0, vs0, d0, ds0, p0, q0, hargs, rfl, rfl, h0, r0⟩ := trodAll_cons hA
  obtain ⟨v1, vs1, d1, ds1, p1, q1, rfl, rfl, rfl, h1, r1⟩ := trodAll_cons r0
  obtain ⟨rfl, rfl, rfl⟩ := trodAll_nil r1
  obtain rfl : args = #[v0, v1] := by cases args; simp_all
  obtain ⟨rfl, rfl⟩ := trodVars_none hV
  obtain ⟨a0, len0, c0, rfl⟩ := okWide_slice Tryz.underlying23 (hval 0 23 v0 rfl rfl)
  have k0 := h0
  have lt0 : ∀ x ∈ p0, x.block < W.heap.size := by obtain ⟨m, hm⟩ := k0; exact DataW.trod_lt m _ _ _ hm
  obtain ⟨l0, e0, y0, s0⟩ := Fs.open_nodes h0
  subst e0
  obtain ⟨a1, len1, c1, rfl⟩ := okWide_slice Tryz.underlying23 (hval 1 23 v1 rfl rfl)
  have k1 := h1
  have lt1 : ∀ x ∈ p1, x.block < W.heap.size := by obtain ⟨m, hm⟩ := k1; exact DataW.trod_lt m _ _ _ hm
  obtain ⟨l1, e1, y1, s1⟩ := Fs.open_nodes h1
  subst e1
  clear hA0 hval0 hsz0
  refine (Fr.editAppliesF l0 l1 a0 a1 c0 c1 W s0 s1 y0 y1).to_below.mono fun e W' ⟨he, bel⟩ => ?_
  subst he
  exact ⟨_, rfl, _, _, _, [], _, [], hW', trodAll_mk1 (shut_bool Tryz.underlying4 _), (trodAll_cons_mk (Below.trod Ft.laidOut (by kernel_rfl) (of_decide_eq_true (by kernel_rfl)) k0 bel lt0) (trodAll_cons_mk (Below.trod Ft.laidOut (by kernel_rfl) (of_decide_eq_true (by kernel_rfl)) k1 bel lt1) trodAll_mk0)), rfl, bel.frame _, fun h => by cases h⟩
theorem k_named : Tryz.prog.funcNamed Rows.editAppliesRow.func = some 9 := by kernel_rfl
theorem k_wf : Rows.editAppliesRow.wf (OpenSpec.ofChange Rows.editAppliesSpec) = true := by kernel_rfl
theorem k_params : Tryz.f9.params.all (Tryz.prog.readableRec ·) = true := by kernel_rfl
theorem k_tie : namedTie Tryz.prog Rows.editAppliesRow.named Rows.editAppliesSpec.vars = true := by kernel_rfl
theorem k_s1 : (Rows.editAppliesRow.stops == []) = true := by kernel_rfl
theorem k_s2 : (Tryz.prog.stops == []) = true := by kernel_rfl
theorem k_s3 : (Rows.editAppliesRow.knobs == []) = true := by kernel_rfl
theorem k_s4 : (Tryz.prog.stopKnobs == []) = true := by kernel_rfl
theorem k_place : (Rows.editAppliesRow.inPlace == Tryz.prog.inPlace 9) = true := by kernel_rfl
theorem k_unf : (Rows.editAppliesRow.unfollowed == Tryz.prog.unfollowed 9) = true := by kernel_rfl
theorem k_rec : (Rows.editAppliesRow.recurses == Tryz.prog.recurses 9) = true := by kernel_rfl
theorem k_names : (Rows.editAppliesRow.named == Tryz.prog.varsNamed 9) = true := by kernel_rfl
theorem k_m1 : (Rows.editAppliesRow.maps == (Tryz.f9.params.toList ++ Rows.editAppliesSpec.plain.varTypes Tryz.prog).any (Tryz.prog.mapsRec ·)) = true := by kernel_rfl
theorem k_m2 : (Rows.editAppliesRow.ifaces == (Tryz.f9.params.toList ++ Rows.editAppliesSpec.plain.varTypes Tryz.prog).any (Tryz.prog.ifacesRec ·)) = true := by kernel_rfl
theorem k_m3 : (Rows.editAppliesRow.mapsOut == Tryz.prog.mapsAmong Tryz.f9.resultTypes.toList) = true := by kernel_rfl
theorem k_l1 : (Rows.editAppliesRow.loops == (Tryz.f9.params.toList ++ Rows.editAppliesSpec.plain.varTypes Tryz.prog).any (Tryz.prog.loopsFrom ·)) = true := by kernel_rfl
theorem k_l2 : (Rows.editAppliesRow.wideKeys == (Tryz.f9.params.toList ++ Rows.editAppliesSpec.plain.varTypes Tryz.prog ++ Tryz.f9.resultTypes.toList).any (Tryz.prog.wideKeysFrom ·)) = true := by kernel_rfl
theorem k_v1 : Rows.editAppliesSpec.vars.all (Tryz.prog.varReadable ·) = true := by kernel_rfl
theorem k_v2 : Tryz.f9.resultTypes.all (fun t => Tryz.prog.readableRec t && decide (t < Tryz.prog.types.size)) = true := by kernel_rfl
theorem k_v3 : (Rows.editAppliesRow.ifacesOut == Tryz.f9.resultTypes.toList.any (Tryz.prog.ifacesRec ·)) = true := by kernel_rfl
theorem k_v4 : (Rows.editAppliesRow.loopsOut == Tryz.f9.resultTypes.toList.any (Tryz.prog.loopsFrom ·)) = true := by kernel_rfl
theorem k_keys : (Rows.editAppliesRow.plainKeys == Tryz.prog.plainKeys) = true := by kernel_rfl
theorem k_short : Rows.editAppliesRow.shortTexts.isNone = true := by kernel_rfl
theorem k_kinds : Rows.editAppliesRow.domain.isEmpty = true ∧ (Rows.editAppliesRow.kinds == []) = true := ⟨by kernel_rfl, by kernel_rfl⟩
theorem k_pin : (Rows.editAppliesRow.pinned == Rows.editAppliesRow.pinnedBy) = true := by kernel_rfl
theorem k_veil : (Rows.editAppliesRow.veiled == (Tryz.f9.params.toList ++ Rows.editAppliesSpec.plain.varTypes Tryz.prog ++ Tryz.f9.resultTypes.toList).any (Tryz.prog.veiledRec ·)) = true := by kernel_rfl
theorem k_veil2 : Rows.editAppliesRow.veiledFits Tryz.prog Tryz.f9.params.toList (Tryz.f9.params.toList ++ Rows.editAppliesSpec.plain.varTypes Tryz.prog ++ Tryz.f9.resultTypes.toList) = true := by kernel_rfl
theorem closed : joinedFacts Tryz.prog 9 Tryz.f9 Rows.editAppliesSpec Rows.editAppliesRow = true :=
  Ft.joined k_wf Ft.laidOut Ft.rowed k_params k_tie k_s1 k_s2 k_s3 k_s4 k_place k_unf k_rec k_names k_m1 k_m2 k_m3 k_l1 k_l2 k_v1 k_v2 k_v3 k_v4 k_keys k_short Ft.heard Ft.enter Fu.lifted Fu.made k_kinds k_pin k_veil k_veil2
theorem over : Rows.editAppliesRow.holds Tryz.pinned (OpenSpec.ofChange Rows.editAppliesSpec) :=
  OpenClaim.holds_of_wide 9 Tryz.f9 rfl rfl rfl rfl rfl rfl rfl ⟨rfl, rfl, rfl, rfl, rfl⟩ rfl rfl rfl rfl rfl k_named Tryz.func9 closed
    (of_decide_eq_true (by kernel_rfl)) (by unfold Func.isWrapper; first | (rw [if_pos (by decide +kernel)]; kernel_rfl) | (rw [if_neg (by decide +kernel)]; exact ⟨rfl, rfl⟩))
    (fun os started H enc _ => lifted os started H enc)
theorem proved : Rows.EditAppliesSaid := over
#print axioms proved
end Go.Proofs.YtpbillinpjccdaaGreat.editApplies
namespace Go.Proofs.YtpbillinpjccdaaGreat
/-- The row, under a short name, for the claim. -/
theorem editApplies_holds : Rows.EditAppliesSaid := editApplies.proved
end Go.Proofs.YtpbillinpjccdaaGreat
