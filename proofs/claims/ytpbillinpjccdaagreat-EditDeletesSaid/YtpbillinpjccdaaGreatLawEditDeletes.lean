/- The law EditDeletes answers true, whatever state, place and number it is handed, and leaves them as they were. -/
import Derived.Test.YtpbillinpjccdaaGreatRows
import Derived.Test.YtpbillinpjccdaaGreatFr
import Derived.Test.YtpbillinpjccdaaGreatFs
import Derived.Test.YtpbillinpjccdaaGreatFt
import Derived.Test.YtpbillinpjccdaaGreatFu
import Derived.WalkKit
import Derived.ProofKit
import Derived.OpenShut
import Derived.ShutString
import Derived.ChangeOld
import Derived.Below
import Derived.SizedLaws
namespace Go.Proofs.YtpbillinpjccdaaGreat.editDeletes
open Go.ChangeShapes Go.WideShapes Go.ChangeAt Go.RowKit Go.J Go.R
theorem own : ownKnob Tryz.prog.godebug = none := by kernel_rfl
set_option maxRecDepth 100000 in
theorem lifted (os : Os) (started : os.Started) (H : Type) (enc : TypeId × Value → H) :
    ReturnsInHanded {} Tryz.checked os 7 .any (Rows.editDeletesSpec.pre6 enc Tryz.prog Tryz.f7 Rows.editDeletesRow.domain false) (Rows.editDeletesSpec.post enc Tryz.prog Tryz.f7 false true false false) := by
  refine returnsInHanded_of_change_sized (C := Tryz.checked) own started (by kernel_rfl) Tryz.func7
    (ChangeSpec.witness6 (enc := enc) (C := Tryz.checked) false ⟨#[], #[.slice none 0 0, .int .i64 0, .int .i64 0], []⟩ 8 (by kernel_rfl) (by kernel_rfl) (by kernel_rfl) (by kernel_rfl)) ?_
  intro W base args ds gs before hval0 hW hcnd hsz0 _
  have hval : ∀ (j : Nat) t v, Tryz.f7.params[j]? = some t → args[j]? = some v → Value.okWide Tryz.prog W .any base t v := hval0
  have hW' := hW
  obtain ⟨p, q, hA0, hV, rfl, hfz, hnd⟩ := hW
  have hA : DataW.TrodAll enc Tryz.prog W 0 (fun _ => true) true Tryz.f7.params.toList args.toList ds p := hA0
  rw [Tryz.params7] at hA hval
  obtain ⟨v0, vs0, d0, ds0, p0, q0, hargs, rfl, rfl, h0, r0⟩ := trodAll_cons hA
  obtain ⟨v1, vs1, d1, ds1, p1, q1, rfl, rfl, rfl, h1, r1⟩ := trodAll_cons r0
  obtain ⟨v2, vs2, d2, ds2, p2, q2, rfl, rfl, rfl, h2, r2⟩ := trodAll_cons r1
  obtain ⟨rfl, rfl, rfl⟩ := trodAll_nil r2
  obtain rfl : args = #[v0, v1, v2] := by cases args; simp_all
  obtain ⟨rfl, rfl⟩ := trodVars_none hV
  obtain ⟨a0, len0, c0, rfl⟩ := okWide_slice Tryz.underlying23 (hval 0 23 v0 rfl rfl)
  have k0 := h0
  have lt0 : ∀ x ∈ p0, x.block < W.heap.size := by obtain ⟨m, hm⟩ := k0; exact DataW.trod_lt m _ _ _ hm
  obtain ⟨l0, e0, y0, s0⟩ := Fs.open_nodes h0
  subst e0
  obtain ⟨l1, rfl, rfl, rfl, w1⟩ := open_int Tryz.underlying3 (hval 1 3 v1 rfl rfl) h1
  obtain ⟨l2, rfl, rfl, rfl, w2⟩ := open_int Tryz.underlying3 (hval 2 3 v2 rfl rfl) h2
  clear hA0 hval0 hsz0
  refine (Fr.editDeletesF l0 a0 c0 W s0 l1 l2).to_below.mono fun e W' ⟨he, bel⟩ => ?_
  subst he
  exact ⟨_, rfl, _, _, _, [], _, [], hW', trodAll_mk1 (shut_bool Tryz.underlying4 _), (trodAll_cons_mk (Below.trod Ft.laidOut (by kernel_rfl) (of_decide_eq_true (by kernel_rfl)) k0 bel lt0) (trodAll_cons_mk (shut_int Tryz.underlying3 w1) (trodAll_cons_mk (shut_int Tryz.underlying3 w2) trodAll_mk0))), rfl, bel.frame _, fun h => by cases h⟩
theorem k_named : Tryz.prog.funcNamed Rows.editDeletesRow.func = some 7 := by kernel_rfl
theorem k_wf : Rows.editDeletesRow.wf (OpenSpec.ofChange Rows.editDeletesSpec) = true := by kernel_rfl
theorem k_params : Tryz.f7.params.all (Tryz.prog.readableRec ·) = true := by kernel_rfl
theorem k_tie : namedTie Tryz.prog Rows.editDeletesRow.named Rows.editDeletesSpec.vars = true := by kernel_rfl
theorem k_s1 : (Rows.editDeletesRow.stops == []) = true := by kernel_rfl
theorem k_s2 : (Tryz.prog.stops == []) = true := by kernel_rfl
theorem k_s3 : (Rows.editDeletesRow.knobs == []) = true := by kernel_rfl
theorem k_s4 : (Tryz.prog.stopKnobs == []) = true := by kernel_rfl
theorem k_place : (Rows.editDeletesRow.inPlace == Tryz.prog.inPlace 7) = true := by kernel_rfl
theorem k_unf : (Rows.editDeletesRow.unfollowed == Tryz.prog.unfollowed 7) = true := by kernel_rfl
theorem k_rec : (Rows.editDeletesRow.recurses == Tryz.prog.recurses 7) = true := by kernel_rfl
theorem k_names : (Rows.editDeletesRow.named == Tryz.prog.varsNamed 7) = true := by kernel_rfl
theorem k_m1 : (Rows.editDeletesRow.maps == (Tryz.f7.params.toList ++ Rows.editDeletesSpec.plain.varTypes Tryz.prog).any (Tryz.prog.mapsRec ·)) = true := by kernel_rfl
theorem k_m2 : (Rows.editDeletesRow.ifaces == (Tryz.f7.params.toList ++ Rows.editDeletesSpec.plain.varTypes Tryz.prog).any (Tryz.prog.ifacesRec ·)) = true := by kernel_rfl
theorem k_m3 : (Rows.editDeletesRow.mapsOut == Tryz.prog.mapsAmong Tryz.f7.resultTypes.toList) = true := by kernel_rfl
theorem k_l1 : (Rows.editDeletesRow.loops == (Tryz.f7.params.toList ++ Rows.editDeletesSpec.plain.varTypes Tryz.prog).any (Tryz.prog.loopsFrom ·)) = true := by kernel_rfl
theorem k_l2 : (Rows.editDeletesRow.wideKeys == (Tryz.f7.params.toList ++ Rows.editDeletesSpec.plain.varTypes Tryz.prog ++ Tryz.f7.resultTypes.toList).any (Tryz.prog.wideKeysFrom ·)) = true := by kernel_rfl
theorem k_v1 : Rows.editDeletesSpec.vars.all (Tryz.prog.varReadable ·) = true := by kernel_rfl
theorem k_v2 : Tryz.f7.resultTypes.all (fun t => Tryz.prog.readableRec t && decide (t < Tryz.prog.types.size)) = true := by kernel_rfl
theorem k_v3 : (Rows.editDeletesRow.ifacesOut == Tryz.f7.resultTypes.toList.any (Tryz.prog.ifacesRec ·)) = true := by kernel_rfl
theorem k_v4 : (Rows.editDeletesRow.loopsOut == Tryz.f7.resultTypes.toList.any (Tryz.prog.loopsFrom ·)) = true := by kernel_rfl
theorem k_keys : (Rows.editDeletesRow.plainKeys == Tryz.prog.plainKeys) = true := by kernel_rfl
theorem k_short : Rows.editDeletesRow.shortTexts.isNone = true := by kernel_rfl
theorem k_kinds : Rows.editDeletesRow.domain.isEmpty = true ∧ (Rows.editDeletesRow.kinds == []) = true := ⟨by kernel_rfl, by kernel_rfl⟩
theorem k_pin : (Rows.editDeletesRow.pinned == Rows.editDeletesRow.pinnedBy) = true := by kernel_rfl
theorem k_veil : (Rows.editDeletesRow.veiled == (Tryz.f7.params.toList ++ Rows.editDeletesSpec.plain.varTypes Tryz.prog ++ Tryz.f7.resultTypes.toList).any (Tryz.prog.veiledRec ·)) = true := by kernel_rfl
theorem k_veil2 : Rows.editDeletesRow.veiledFits Tryz.prog Tryz.f7.params.toList (Tryz.f7.params.toList ++ Rows.editDeletesSpec.plain.varTypes Tryz.prog ++ Tryz.f7.resultTypes.toList) = true := by kernel_rfl
theorem closed : joinedFacts Tryz.prog 7 Tryz.f7 Rows.editDeletesSpec Rows.editDeletesRow = true :=
  Ft.joined k_wf Ft.laidOut Ft.rowed k_params k_tie k_s1 k_s2 k_s3 k_s4 k_place k_unf k_rec k_names k_m1 k_m2 k_m3 k_l1 k_l2 k_v1 k_v2 k_v3 k_v4 k_keys k_short Ft.heard Ft.enter Fu.lifted Fu.made k_kinds k_pin k_veil k_veil2
theorem over : Rows.editDeletesRow.holds Tryz.pinned (OpenSpec.ofChange Rows.editDeletesSpec) :=
  OpenClaim.holds_of_wide 7 Tryz.f7 rfl rfl rfl rfl rfl rfl rfl ⟨rfl, rfl, rfl, rfl, rfl⟩ rfl rfl rfl rfl rfl k_named Tryz.func7 closed
    (of_decide_eq_true (by kernel_rfl)) (by unfold Func.isWrapper; first | (rw [if_pos (by decide +kernel)]; kernel_rfl) | (rw [if_neg (by decide +kernel)]; exact ⟨rfl, rfl⟩))
    (fun os started H enc _ => lifted os started H enc)
theorem proved : Rows.EditDeletesSaid := over
#print axioms proved
end Go.Proofs.YtpbillinpjccdaaGreat.editDeletes
namespace Go.Proofs.YtpbillinpjccdaaGreat
/-- The row, under a short name, for the claim. -/
theorem editDeletes_holds : Rows.EditDeletesSaid := editDeletes.proved
end Go.Proofs.YtpbillinpjccdaaGreat
