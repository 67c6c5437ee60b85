/- The law EditLongs answers true, whatever number and rune it is handed. -/
import Derived.Test.YtpbillinpjccdaaGreatRows
import Derived.Test.YtpbillinpjccdaaGreatFv
import Derived.Test.YtpbillinpjccdaaGreatFs
import Derived.Test.YtpbillinpjccdaaGreatFt
import Derived.Test.YtpbillinpjccdaaGreatFu
import Derived.WalkKit
import Derived.ProofKit
import Derived.OpenShut
import Derived.ShutString
import Derived.ChangeOld
import Derived.Below
import Derived.SizedLaws
namespace Go.Proofs.YtpbillinpjccdaaGreat.editLongs
open Go.ChangeShapes Go.WideShapes Go.ChangeAt Go.RowKit Go.J Go.R
theorem own : ownKnob Tryz.prog.godebug = none := by kernel_rfl
set_option maxRecDepth 100000 in
theorem lifted (os : Os) (started : os.Started) (H : Type) (enc : TypeId × Value → H) :
    ReturnsInHanded {} Tryz.checked os 10 .any (Rows.editLongsSpec.pre6 enc Tryz.prog Tryz.f10 Rows.editLongsRow.domain false) (Rows.editLongsSpec.post enc Tryz.prog Tryz.f10 false true false false) := by
  refine returnsInHanded_of_change_sized (C := Tryz.checked) own started (by kernel_rfl) Tryz.func10
    (ChangeSpec.witness6 (enc := enc) (C := Tryz.checked) false ⟨#[], #[.int .i64 0, .int .i32 0], []⟩ 8 (by kernel_rfl) (by kernel_rfl) (by kernel_rfl) (by kernel_rfl)) ?_
  intro W base args ds gs before hval0 hW hcnd hsz0 _
  have hval : ∀ (j : Nat) t v, Tryz.f10.params[j]? = some t → args[j]? = some v → Value.okWide Tryz.prog W .any base t v := hval0
  have hW' := hW
  obtain ⟨p, q, hA0, hV, rfl, hfz, hnd⟩ := hW
  have hA : DataW.TrodAll enc Tryz.prog W 0 (fun _ => true) true Tryz.f10.params.toList args.toList ds p := hA0
  rw [Tryz.params10] at hA hval
  obtain ⟨v0, vs0, d0, ds0, p0, q0, hargs, rfl, rfl, h0, r0⟩ := trodAll_cons hA
  obtain ⟨v1, vs1, d1, ds1, p1, q1, rfl, rfl, rfl, h1, r1⟩ := trodAll_cons r0
  obtain ⟨rfl, rfl, rfl⟩ := trodAll_nil r1
  obtain rfl : args = #[v0, v1] := by cases args; simp_all
  obtain ⟨rfl, rfl⟩ := trodVars_none hV
  obtain ⟨l0, rfl, rfl, rfl, w0⟩ := open_int Tryz.underlying3 (hval 0 3 v0 rfl rfl) h0
  obtain ⟨l1, rfl, rfl, rfl, w1⟩ := open_int Tryz.underlying21 (hval 1 21 v1 rfl rfl) h1
  clear hA0 hval0 hsz0
  refine (Fv.editLongsF l0 l1 W).to_below.mono fun e W' ⟨he, bel⟩ => ?_
  subst he
  exact ⟨_, rfl, _, _, _, [], _, [], hW', trodAll_mk1 (shut_bool Tryz.underlying4 _), (trodAll_cons_mk (shut_int Tryz.underlying3 w0) (trodAll_cons_mk (shut_int Tryz.underlying21 w1) trodAll_mk0)), rfl, bel.frame _, fun h => by cases h⟩
theorem k_named : Tryz.prog.funcNamed Rows.editLongsRow.func = some 10 := by kernel_rfl
theorem k_wf : Rows.editLongsRow.wf (OpenSpec.ofChange Rows.editLongsSpec) = true := by kernel_rfl
theorem k_params : Tryz.f10.params.all (Tryz.prog.readableRec ·) = true := by kernel_rfl
theorem k_tie : namedTie Tryz.prog Rows.editLongsRow.named Rows.editLongsSpec.vars = true := by kernel_rfl
theorem k_s1 : (Rows.editLongsRow.stops == []) = true := by kernel_rfl
theorem k_s2 : (Tryz.prog.stops == []) = true := by kernel_rfl
theorem k_s3 : (Rows.editLongsRow.knobs == []) = true := by kernel_rfl
theorem k_s4 : (Tryz.prog.stopKnobs == []) = true := by kernel_rfl
theorem k_place : (Rows.editLongsRow.inPlace == Tryz.prog.inPlace 10) = true := by kernel_rfl
theorem k_unf : (Rows.editLongsRow.unfollowed == Tryz.prog.unfollowed 10) = true := by kernel_rfl
theorem k_rec : (Rows.editLongsRow.recurses == Tryz.prog.recurses 10) = true := by kernel_rfl
theorem k_names : (Rows.editLongsRow.named == Tryz.prog.varsNamed 10) = true := by kernel_rfl
theorem k_m1 : (Rows.editLongsRow.maps == (Tryz.f10.params.toList ++ Rows.editLongsSpec.plain.varTypes Tryz.prog).any (Tryz.prog.mapsRec ·)) = true := by kernel_rfl
theorem k_m2 : (Rows.editLongsRow.ifaces == (Tryz.f10.params.toList ++ Rows.editLongsSpec.plain.varTypes Tryz.prog).any (Tryz.prog.ifacesRec ·)) = true := by kernel_rfl
theorem k_m3 : (Rows.editLongsRow.mapsOut == Tryz.prog.mapsAmong Tryz.f10.resultTypes.toList) = true := by kernel_rfl
theorem k_l1 : (Rows.editLongsRow.loops == (Tryz.f10.params.toList ++ Rows.editLongsSpec.plain.varTypes Tryz.prog).any (Tryz.prog.loopsFrom ·)) = true := by kernel_rfl
theorem k_l2 : (Rows.editLongsRow.wideKeys == (Tryz.f10.params.toList ++ Rows.editLongsSpec.plain.varTypes Tryz.prog ++ Tryz.f10.resultTypes.toList).any (Tryz.prog.wideKeysFrom ·)) = true := by kernel_rfl
theorem k_v1 : Rows.editLongsSpec.vars.all (Tryz.prog.varReadable ·) = true := by kernel_rfl
theorem k_v2 : Tryz.f10.resultTypes.all (fun t => Tryz.prog.readableRec t && decide (t < Tryz.prog.types.size)) = true := by kernel_rfl
theorem k_v3 : (Rows.editLongsRow.ifacesOut == Tryz.f10.resultTypes.toList.any (Tryz.prog.ifacesRec ·)) = true := by kernel_rfl
theorem k_v4 : (Rows.editLongsRow.loopsOut == Tryz.f10.resultTypes.toList.any (Tryz.prog.loopsFrom ·)) = true := by kernel_rfl
theorem k_keys : (Rows.editLongsRow.plainKeys == Tryz.prog.plainKeys) = true := by kernel_rfl
theorem k_short : Rows.editLongsRow.shortTexts.isNone = true := by kernel_rfl
theorem k_kinds : Rows.editLongsRow.domain.isEmpty = true ∧ (Rows.editLongsRow.kinds == []) = true := ⟨by kernel_rfl, by kernel_rfl⟩
theorem k_pin : (Rows.editLongsRow.pinned == Rows.editLongsRow.pinnedBy) = true := by kernel_rfl
theorem k_veil : (Rows.editLongsRow.veiled == (Tryz.f10.params.toList ++ Rows.editLongsSpec.plain.varTypes Tryz.prog ++ Tryz.f10.resultTypes.toList).any (Tryz.prog.veiledRec ·)) = true := by kernel_rfl
theorem k_veil2 : Rows.editLongsRow.veiledFits Tryz.prog Tryz.f10.params.toList (Tryz.f10.params.toList ++ Rows.editLongsSpec.plain.varTypes Tryz.prog ++ Tryz.f10.resultTypes.toList) = true := by kernel_rfl
theorem closed : joinedFacts Tryz.prog 10 Tryz.f10 Rows.editLongsSpec Rows.editLongsRow = true :=
  Ft.joined k_wf Ft.laidOut Ft.rowed k_params k_tie k_s1 k_s2 k_s3 k_s4 k_place k_unf k_rec k_names k_m1 k_m2 k_m3 k_l1 k_l2 k_v1 k_v2 k_v3 k_v4 k_keys k_short Ft.heard Ft.enter Fu.lifted Fu.made k_kinds k_pin k_veil k_veil2
theorem over : Rows.editLongsRow.holds Tryz.pinned (OpenSpec.ofChange Rows.editLongsSpec) :=
  OpenClaim.holds_of_wide 10 Tryz.f10 rfl rfl rfl rfl rfl rfl rfl ⟨rfl, rfl, rfl, rfl, rfl⟩ rfl rfl rfl rfl rfl k_named Tryz.func10 closed
    (of_decide_eq_true (by kernel_rfl)) (by unfold Func.isWrapper; first | (rw [if_pos (by decide +kernel)]; kernel_rfl) | (rw [if_neg (by decide +kernel)]; exact ⟨rfl, rfl⟩))
    (fun os started H enc _ => lifted os started H enc)
theorem proved : Rows.EditLongsSaid := over
#print axioms proved
end Go.Proofs.YtpbillinpjccdaaGreat.editLongs
namespace Go.Proofs.YtpbillinpjccdaaGreat
/-- The row, under a short name, for the claim. -/
theorem editLongs_holds : Rows.EditLongsSaid := editLongs.proved
end Go.Proofs.YtpbillinpjccdaaGreat
