/- The law EditInserts answers true, whatever state, dot, place and runes it is handed, and leaves them as they were. -/
import Derived.Test.YtpbillinpjccdaaGreatRows
import Derived.Test.YtpbillinpjccdaaGreatFr
import Derived.Test.YtpbillinpjccdaaGreatFs
import Derived.Test.YtpbillinpjccdaaGreatFt
import Derived.Test.YtpbillinpjccdaaGreatFu
import Derived.WalkKit
import Derived.ProofKit
import Derived.OpenShut
import Derived.ShutString
import Derived.ChangeOld
import Derived.Below
import Derived.SizedLaws
namespace Go.Proofs.YtpbillinpjccdaaGreat.editInserts
open Go.ChangeShapes Go.WideShapes Go.ChangeAt Go.RowKit Go.J Go.R
theorem own : ownKnob Tryz.prog.godebug = none := by kernel_rfl
set_option maxRecDepth 100000 in
theorem lifted (os : Os) (started : os.Started) (H : Type) (enc : TypeId × Value → H) :
    ReturnsInHanded {} Tryz.checked os 6 .any (Rows.editInsertsSpec.pre6 enc Tryz.prog Tryz.f6 Rows.editInsertsRow.domain false) (Rows.editInsertsSpec.post enc Tryz.prog Tryz.f6 false true false false) := by
  refine returnsInHanded_of_change_sized (C := Tryz.checked) own started (by kernel_rfl) Tryz.func6
    (ChangeSpec.witness6 (enc := enc) (C := Tryz.checked) false ⟨#[], #[.slice none 0 0, .agg #[.int .i64 0, .int .i64 0], .int .i64 0, .slice none 0 0], []⟩ 8 (by kernel_rfl) (by kernel_rfl) (by kernel_rfl) (by kernel_rfl)) ?_
  intro W base args ds gs before hval0 hW hcnd hsz0 _
  have hval : ∀ (j : Nat) t v, Tryz.f6.params[j]? = some t → args[j]? = some v → Value.okWide Tryz.prog W .any base t v := hval0
  have hW' := hW
  obtain ⟨p, q, hA0, hV, rfl, hfz, hnd⟩ := hW
  have hA : DataW.TrodAll enc Tryz.prog W 0 (fun _ => true) true Tryz.f6.params.toList args.toList ds p := hA0
  rw [Tryz.params6] at hA hval
  obtain ⟨v0, vs0, d0, ds0, p0, q0, hargs, rfl, rfl, h0, r0⟩ := trodAll_cons hA
  obtain ⟨v1, vs1, d1, ds1, p1, q1, rfl, rfl, rfl, h1, r1⟩ := trodAll_cons r0
  obtain ⟨v2, vs2, d2, ds2, p2, q2, rfl, rfl, rfl, h2, r2⟩ := trodAll_cons r1
  obtain ⟨v3, vs3, d3, ds3, p3, q3, rfl, rfl, rfl, h3, r3⟩ := trodAll_cons r2
  obtain ⟨rfl, rfl, rfl⟩ := trodAll_nil r3
  obtain rfl : args = #[v0, v1, v2, v3] := by cases args; simp_all
  obtain ⟨rfl, rfl⟩ := trodVars_none hV
  obtain ⟨a0, len0, c0, rfl⟩ := okWide_slice Tryz.underlying23 (hval 0 23 v0 rfl rfl)
  have k0 := h0
  have lt0 : ∀ x ∈ p0, x.block < W.heap.size := by obtain ⟨m, hm⟩ := k0; exact DataW.trod_lt m _ _ _ hm
  obtain ⟨l0, e0, y0, s0⟩ := Fs.open_nodes h0
  subst e0
  have k1 := h1
  have lt1 : ∀ x ∈ p1, x.block < W.heap.size := by obtain ⟨m, hm⟩ := k1; exact DataW.trod_lt m _ _ _ hm
  obtain ⟨l1, rfl, rfl⟩ := Fs.open_dot (hval 1 39 v1 rfl rfl) h1
  obtain ⟨l2, rfl, rfl, rfl, w2⟩ := open_int Tryz.underlying3 (hval 2 3 v2 rfl rfl) h2
  obtain ⟨a3, len3, c3, rfl⟩ := okWide_slice Tryz.underlying63 (hval 3 63 v3 rfl rfl)
  have k3 := h3
  have lt3 : ∀ x ∈ p3, x.block < W.heap.size := by obtain ⟨m, hm⟩ := k3; exact DataW.trod_lt m _ _ _ hm
  obtain ⟨l3, e3, y3, s3⟩ := Fs.open_runes h3
  subst e3
  clear hA0 hval0 hsz0
  refine (Fr.editInsertsF l0 a0 c0 W s0 l1 l2 l3 a3 c3 s3).to_below.mono fun e W' ⟨he, bel⟩ => ?_
  subst he
  exact ⟨_, rfl, _, _, _, [], _, [], hW', trodAll_mk1 (shut_bool Tryz.underlying4 _), (trodAll_cons_mk (Below.trod Ft.laidOut (by kernel_rfl) (of_decide_eq_true (by kernel_rfl)) k0 bel lt0) (trodAll_cons_mk (Below.trod Ft.laidOut (by kernel_rfl) (of_decide_eq_true (by kernel_rfl)) k1 bel lt1) (trodAll_cons_mk (shut_int Tryz.underlying3 w2) (trodAll_cons_mk (Below.trod Ft.laidOut (by kernel_rfl) (of_decide_eq_true (by kernel_rfl)) k3 bel lt3) trodAll_mk0)))), rfl, bel.frame _, fun h => by cases h⟩
theorem k_named : Tryz.prog.funcNamed Rows.editInsertsRow.func = some 6 := by kernel_rfl
theorem k_wf : Rows.editInsertsRow.wf (OpenSpec.ofChange Rows.editInsertsSpec) = true := by kernel_rfl
theorem k_params : Tryz.f6.params.all (Tryz.prog.readableRec ·) = true := by kernel_rfl
theorem k_tie : namedTie Tryz.prog Rows.editInsertsRow.named Rows.editInsertsSpec.vars = true := by kernel_rfl
theorem k_s1 : (Rows.editInsertsRow.stops == []) = true := by kernel_rfl
theorem k_s2 : (Tryz.prog.stops == []) = true := by kernel_rfl
theorem k_s3 : (Rows.editInsertsRow.knobs == []) = true := by kernel_rfl
theorem k_s4 : (Tryz.prog.stopKnobs == []) = true := by kernel_rfl
theorem k_place : (Rows.editInsertsRow.inPlace == Tryz.prog.inPlace 6) = true := by kernel_rfl
theorem k_unf : (Rows.editInsertsRow.unfollowed == Tryz.prog.unfollowed 6) = true := by kernel_rfl
theorem k_rec : (Rows.editInsertsRow.recurses == Tryz.prog.recurses 6) = true := by kernel_rfl
theorem k_names : (Rows.editInsertsRow.named == Tryz.prog.varsNamed 6) = true := by kernel_rfl
theorem k_m1 : (Rows.editInsertsRow.maps == (Tryz.f6.params.toList ++ Rows.editInsertsSpec.plain.varTypes Tryz.prog).any (Tryz.prog.mapsRec ·)) = true := by kernel_rfl
theorem k_m2 : (Rows.editInsertsRow.ifaces == (Tryz.f6.params.toList ++ Rows.editInsertsSpec.plain.varTypes Tryz.prog).any (Tryz.prog.ifacesRec ·)) = true := by kernel_rfl
theorem k_m3 : (Rows.editInsertsRow.mapsOut == Tryz.prog.mapsAmong Tryz.f6.resultTypes.toList) = true := by kernel_rfl
theorem k_l1 : (Rows.editInsertsRow.loops == (Tryz.f6.params.toList ++ Rows.editInsertsSpec.plain.varTypes Tryz.prog).any (Tryz.prog.loopsFrom ·)) = true := by kernel_rfl
theorem k_l2 : (Rows.editInsertsRow.wideKeys == (Tryz.f6.params.toList ++ Rows.editInsertsSpec.plain.varTypes Tryz.prog ++ Tryz.f6.resultTypes.toList).any (Tryz.prog.wideKeysFrom ·)) = true := by kernel_rfl
theorem k_v1 : Rows.editInsertsSpec.vars.all (Tryz.prog.varReadable ·) = true := by kernel_rfl
theorem k_v2 : Tryz.f6.resultTypes.all (fun t => Tryz.prog.readableRec t && decide (t < Tryz.prog.types.size)) = true := by kernel_rfl
theorem k_v3 : (Rows.editInsertsRow.ifacesOut == Tryz.f6.resultTypes.toList.any (Tryz.prog.ifacesRec ·)) = true := by kernel_rfl
theorem k_v4 : (Rows.editInsertsRow.loopsOut == Tryz.f6.resultTypes.toList.any (Tryz.prog.loopsFrom ·)) = true := by kernel_rfl
theorem k_keys : (Rows.editInsertsRow.plainKeys == Tryz.prog.plainKeys) = true := by kernel_rfl
theorem k_short : Rows.editInsertsRow.shortTexts.isNone = true := by kernel_rfl
theorem k_kinds : Rows.editInsertsRow.domain.isEmpty = true ∧ (Rows.editInsertsRow.kinds == []) = true := ⟨by kernel_rfl, by kernel_rfl⟩
theorem k_pin : (Rows.editInsertsRow.pinned == Rows.editInsertsRow.pinnedBy) = true := by kernel_rfl
theorem k_veil : (Rows.editInsertsRow.veiled == (Tryz.f6.params.toList ++ Rows.editInsertsSpec.plain.varTypes Tryz.prog ++ Tryz.f6.resultTypes.toList).any (Tryz.prog.veiledRec ·)) = true := by kernel_rfl
theorem k_veil2 : Rows.editInsertsRow.veiledFits Tryz.prog Tryz.f6.params.toList (Tryz.f6.params.toList ++ Rows.editInsertsSpec.plain.varTypes Tryz.prog ++ Tryz.f6.resultTypes.toList) = true := by kernel_rfl
theorem closed : joinedFacts Tryz.prog 6 Tryz.f6 Rows.editInsertsSpec Rows.editInsertsRow = true :=
  Ft.joined k_wf Ft.laidOut Ft.rowed k_params k_tie k_s1 k_s2 k_s3 k_s4 k_place k_unf k_rec k_names k_m1 k_m2 k_m3 k_l1 k_l2 k_v1 k_v2 k_v3 k_v4 k_keys k_short Ft.heard Ft.enter Fu.lifted Fu.made k_kinds k_pin k_veil k_veil2
theorem over : Rows.editInsertsRow.holds Tryz.pinned (OpenSpec.ofChange Rows.editInsertsSpec) :=
  OpenClaim.holds_of_wide 6 Tryz.f6 rfl rfl rfl rfl rfl rfl rfl ⟨rfl, rfl, rfl, rfl, rfl⟩ rfl rfl rfl rfl rfl k_named Tryz.func6 closed
    (of_decide_eq_true (by kernel_rfl)) (by unfold Func.isWrapper; first | (rw [if_pos (by decide +kernel)]; kernel_rfl) | (rw [if_neg (by decide +kernel)]; exact ⟨rfl, rfl⟩))
    (fun os started H enc _ => lifted os started H enc)
theorem proved : Rows.EditInsertsSaid := over
#print axioms proved
end Go.Proofs.YtpbillinpjccdaaGreat.editInserts
namespace Go.Proofs.YtpbillinpjccdaaGreat
/-- The row, under a short name, for the claim. -/
theorem editInserts_holds : Rows.EditInsertsSaid := editInserts.proved
end Go.Proofs.YtpbillinpjccdaaGreat
