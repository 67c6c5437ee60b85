/- The law EditPlays answers true, whatever list of edits it is handed, and leaves it as it was. -/
import Derived.Test.YtpbillinpjccdaaGreatRows
import Derived.Test.YtpbillinpjccdaaGreatFxQ
import Derived.Test.YtpbillinpjccdaaGreatFsQ
import Derived.Test.YtpbillinpjccdaaGreatFtQ
import Derived.Test.YtpbillinpjccdaaGreatFuQ
import Derived.WalkKit
import Derived.ProofKit
import Derived.OpenShut
import Derived.ShutString
import Derived.ChangeOld
import Derived.Below
import Derived.SizedLaws
namespace Go.Proofs.YtpbillinpjccdaaGreat.editPlays
open Go.ChangeShapes Go.WideShapes Go.ChangeAt Go.RowKit Go.J Go.R
theorem own : ownKnob Tryz.prog.godebug = none := by kernel_rfl
set_option maxRecDepth 100000 in
theorem lifted (os : Os) (started : os.Started) (H : Type) (enc : TypeId × Value → H) :
    ReturnsInHanded {} Tryz.checked os 11 .any (Rows.editPlaysSpec.pre6 enc Tryz.prog Tryz.f11 Rows.editPlaysRow.domain false) (Rows.editPlaysSpec.post enc Tryz.prog Tryz.f11 false true false false) := by
  refine returnsInHanded_of_change_sized (C := Tryz.checked) own started (by kernel_rfl) Tryz.func11
    (ChangeSpec.witness6 (enc := enc) (C := Tryz.checked) false ⟨#[], #[.slice none 0 0], []⟩ 8 (by kernel_rfl) (by kernel_rfl) (by kernel_rfl) (by kernel_rfl)) ?_
  intro W base args ds gs before hval0 hW hcnd hsz0 _
  have hval : ∀ (j : Nat) t v, Tryz.f11.params[j]? = some t → args[j]? = some v → Value.okWide Tryz.prog W .any base t v := hval0
  have hW' := hW
  obtain ⟨p, q, hA0, hV, rfl, hfz, hnd⟩ := hW
  have hA : DataW.TrodAll enc Tryz.prog W 0 (fun _ => true) true Tryz.f11.params.toList args.toList ds p := hA0
  rw [Tryz.params11] at hA hval
  obtain ⟨v0, vs0, d0, ds0, p0, q0, hargs, rfl, rfl, h0, r0⟩ := trodAll_cons hA
  obtain ⟨rfl, rfl, rfl⟩ := trodAll_nil r0
  obtain rfl : args = #[v0] := by cases args; simp_all
  obtain ⟨rfl, rfl⟩ := trodVars_none hV
  obtain ⟨a0, len0, c0, rfl⟩ := okWide_slice Tryz.underlying84 (hval 0 84 v0 rfl rfl)
  have k0 := h0
  have lt0 : ∀ x ∈ p0, x.block < W.heap.size := by obtain ⟨m, hm⟩ := k0; exact DataW.trod_lt m _ _ _ hm
  obtain ⟨l0, e0, y0, s0, q0⟩ := Fs.open_acts h0
  subst e0
  clear hA0 hval0 hsz0
  refine (Fx.editPlaysF l0 a0 c0 W s0 q0).to_below.mono fun e W' ⟨he, bel⟩ => ?_
  subst he
  exact ⟨_, rfl, _, _, _, [], _, [], hW', trodAll_mk1 (shut_bool Tryz.underlying4 _), (trodAll_cons_mk (Below.trod Ft.laidOut (by kernel_rfl) (of_decide_eq_true (by kernel_rfl)) k0 bel lt0) trodAll_mk0), rfl, bel.frame _, fun h => by cases h⟩
theorem k_named : Tryz.prog.funcNamed Rows.editPlaysRow.func = some 11 := by kernel_rfl
theorem k_wf : Rows.editPlaysRow.wf (OpenSpec.ofChange Rows.editPlaysSpec) = true := by kernel_rfl
theorem k_params : Tryz.f11.params.all (Tryz.prog.readableRec ·) = true := by kernel_rfl
theorem k_tie : namedTie Tryz.prog Rows.editPlaysRow.named Rows.editPlaysSpec.vars = true := by kernel_rfl
theorem k_s1 : (Rows.editPlaysRow.stops == []) = true := by kernel_rfl
theorem k_s2 : (Tryz.prog.stops == []) = true := by kernel_rfl
theorem k_s3 : (Rows.editPlaysRow.knobs == []) = true := by kernel_rfl
theorem k_s4 : (Tryz.prog.stopKnobs == []) = true := by kernel_rfl
theorem k_place : (Rows.editPlaysRow.inPlace == Tryz.prog.inPlace 11) = true := by kernel_rfl
theorem k_unf : (Rows.editPlaysRow.unfollowed == Tryz.prog.unfollowed 11) = true := by kernel_rfl
theorem k_rec : (Rows.editPlaysRow.recurses == Tryz.prog.recurses 11) = true := by kernel_rfl
theorem k_names : (Rows.editPlaysRow.named == Tryz.prog.varsNamed 11) = true := by kernel_rfl
theorem k_m1 : (Rows.editPlaysRow.maps == (Tryz.f11.params.toList ++ Rows.editPlaysSpec.plain.varTypes Tryz.prog).any (Tryz.prog.mapsRec ·)) = true := by kernel_rfl
theorem k_m2 : (Rows.editPlaysRow.ifaces == (Tryz.f11.params.toList ++ Rows.editPlaysSpec.plain.varTypes Tryz.prog).any (Tryz.prog.ifacesRec ·)) = true := by kernel_rfl
theorem k_m3 : (Rows.editPlaysRow.mapsOut == Tryz.prog.mapsAmong Tryz.f11.resultTypes.toList) = true := by kernel_rfl
theorem k_l1 : (Rows.editPlaysRow.loops == (Tryz.f11.params.toList ++ Rows.editPlaysSpec.plain.varTypes Tryz.prog).any (Tryz.prog.loopsFrom ·)) = true := by kernel_rfl
theorem k_l2 : (Rows.editPlaysRow.wideKeys == (Tryz.f11.params.toList ++ Rows.editPlaysSpec.plain.varTypes Tryz.prog ++ Tryz.f11.resultTypes.toList).any (Tryz.prog.wideKeysFrom ·)) = true := by kernel_rfl
theorem k_v1 : Rows.editPlaysSpec.vars.all (Tryz.prog.varReadable ·) = true := by kernel_rfl
theorem k_v2 : Tryz.f11.resultTypes.all (fun t => Tryz.prog.readableRec t && decide (t < Tryz.prog.types.size)) = true := by kernel_rfl
theorem k_v3 : (Rows.editPlaysRow.ifacesOut == Tryz.f11.resultTypes.toList.any (Tryz.prog.ifacesRec ·)) = true := by kernel_rfl
theorem k_v4 : (Rows.editPlaysRow.loopsOut == Tryz.f11.resultTypes.toList.any (Tryz.prog.loopsFrom ·)) = true := by kernel_rfl
theorem k_keys : (Rows.editPlaysRow.plainKeys == Tryz.prog.plainKeys) = true := by kernel_rfl
theorem k_short : Rows.editPlaysRow.shortTexts.isNone = true := by kernel_rfl
theorem k_kinds : Rows.editPlaysRow.domain.isEmpty = true ∧ (Rows.editPlaysRow.kinds == []) = true := ⟨by kernel_rfl, by kernel_rfl⟩
theorem k_pin : (Rows.editPlaysRow.pinned == Rows.editPlaysRow.pinnedBy) = true := by kernel_rfl
theorem k_veil : (Rows.editPlaysRow.veiled == (Tryz.f11.params.toList ++ Rows.editPlaysSpec.plain.varTypes Tryz.prog ++ Tryz.f11.resultTypes.toList).any (Tryz.prog.veiledRec ·)) = true := by kernel_rfl
theorem k_veil2 : Rows.editPlaysRow.veiledFits Tryz.prog Tryz.f11.params.toList (Tryz.f11.params.toList ++ Rows.editPlaysSpec.plain.varTypes Tryz.prog ++ Tryz.f11.resultTypes.toList) = true := by kernel_rfl
theorem closed : joinedFacts Tryz.prog 11 Tryz.f11 Rows.editPlaysSpec Rows.editPlaysRow = true :=
  Ft.joined k_wf Ft.laidOut Ft.rowed k_params k_tie k_s1 k_s2 k_s3 k_s4 k_place k_unf k_rec k_names k_m1 k_m2 k_m3 k_l1 k_l2 k_v1 k_v2 k_v3 k_v4 k_keys k_short Ft.heard Ft.enter Fu.lifted Fu.made k_kinds k_pin k_veil k_veil2
theorem over : Rows.editPlaysRow.holds Tryz.pinned (OpenSpec.ofChange Rows.editPlaysSpec) :=
  OpenClaim.holds_of_wide 11 Tryz.f11 rfl rfl rfl rfl rfl rfl rfl ⟨rfl, rfl, rfl, rfl, rfl⟩ rfl rfl rfl rfl rfl k_named Tryz.func11 closed
    (of_decide_eq_true (by kernel_rfl)) (by unfold Func.isWrapper; first | (rw [if_pos (by decide +kernel)]; kernel_rfl) | (rw [if_neg (by decide +kernel)]; exact ⟨rfl, rfl⟩))
    (fun os started H enc _ => lifted os started H enc)
theorem proved : Rows.EditPlaysSaid := over
#print axioms proved
end Go.Proofs.YtpbillinpjccdaaGreat.editPlays
namespace Go.Proofs.YtpbillinpjccdaaGreat
/-- The row, under a short name, for the claim. -/
theorem editPlays_holds : Rows.EditPlaysSaid := editPlays.proved
end Go.Proofs.YtpbillinpjccdaaGreat
