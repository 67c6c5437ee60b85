/- How an argument that was handed in reads: rows of nodes, of runes, a dot. -/
import Derived.Test.YtpbillinpjccdaaGreatRm
import Derived.Test.YtpbillinpjccdaaGreatChecked
import Derived.ProofKit
import Derived.Deep.Slices
set_option linter.unusedVariables false
set_option linter.unusedSimpArgs false
set_option linter.unusedSectionVars false
namespace Go.Proofs.YtpbillinpjccdaaGreat.Fs
open Go.ChangeShapes Go.WideShapes Go.ChangeAt Go.RowKit Go.J Go.R
section
variable {H : Type} {enc : TypeId × Value → H} {W : World} {sp : Nat → Bool}

theorem open_row {α : Type} {P : Program} {t e : TypeId} {encα : α → List Value} {k : Nat} (hlen : ∀ x, (encα x).length = k) (ht : P.underlying t = some (.slice e)) (hk : P.cellsOf e = k)
    (one : ∀ (fuel : Nat) (cs : List Value) (x : DataW H × List MemPlace), DataW.trod enc P W 0 sp true fuel e cs = some x → ∃ y : α, cs = encα y)
    {a : Option Addr} {len cap : Nat} {d : DataW H} {ps : List MemPlace} (h : DataW.Trod enc P W 0 sp true t (.slice a len cap) d ps) :
    ∃ l : List α, l.length = len ∧ len ≤ cap ∧ SlF W k a len (l.flatMap encα) := by
  obtain ⟨fuel, hf⟩ := h
  rcases Deep.open_slice ht hf with ⟨hcs, _⟩ | ⟨x, l, c, m, n, D, Pl, hcs, _, hl, hm, hmm, _, hx⟩
  · simp [Value.cells] at hcs
    obtain ⟨rfl, rfl, rfl⟩ := hcs
    exact ⟨[], rfl, Nat.le_refl _, SlF.nil _ _ _⟩
  · simp [Value.cells] at hcs
    obtain ⟨rfl, rfl, rfl⟩ := hcs
    have hlm : len ≤ m := by rw [hmm]; split <;> omega
    have each : ∀ i, i < len → ∃ y : α, W.cells? 0 (x.add (i * k)) k = some (encα y) := fun i hi => by
      obtain ⟨cs', h1, h2⟩ := hx i (by omega)
      rw [hk] at h1
      obtain ⟨y, rfl⟩ := one _ _ _ h2
      exact ⟨y, h1⟩
    clear hx
    by_cases h0 : len = 0
    · subst h0
      exact ⟨[], rfl, hl, SlF.nil _ _ _⟩
    · have : Inhabited α := ⟨(each 0 (by omega)).choose⟩
      obtain ⟨f, hf⟩ := Deep.choose_lt each
      refine ⟨(List.range len).map f, by simp, hl, ?_⟩
      refine ⟨?_, by omega, fun _ => ⟨x, rfl, ?_⟩⟩
      · rw [flat_len hlen]; simp
      · intro j v hv
        have hjl : j < len * k := by
          have := (List.getElem?_eq_some_iff.1 hv).1
          rw [flat_len hlen] at this
          simpa using this
        have hk0 : 0 < k := by
          rcases Nat.eq_zero_or_pos k with h | h
          · rw [h] at hjl; omega
          · exact h
        have hq : j / k < len := (Nat.div_lt_iff_lt_mul hk0).2 hjl
        have hr : j % k < k := Nat.mod_lt _ hk0
        have hj : j / k * k + j % k = j := by rw [Nat.mul_comm]; exact Nat.div_add_mod j k
        have hc := (World.cells?_some (hf _ hq)).2.2 (j % k) hr
        rw [Addr.add_add, hj] at hc
        rw [hc]
        have hfl := flat_at hlen ((List.range len).map f) (j / k) (by simpa using hq)
        have e1 : ((List.range len).map f)[j / k]'(by simpa using hq) = f (j / k) := by simp
        rw [e1] at hfl
        rw [← hfl, List.getElem?_take, if_pos hr, List.getElem?_drop, hj]
        exact hv
set_option maxRecDepth 100000 in
theorem one_dot {fuel : Nat} {cs : List Value} {x : DataW H × List MemPlace} (h : DataW.trod enc Tryz.prog W 0 sp true fuel 39 cs = some x) : ∃ y : R.Dot, cs = dc y ∧ x.2 = [] := by
  obtain ⟨xs, n, _, hx, hl, hxs, hf⟩ := DataW.trod_struct Tryz.underlying39 h
  match xs, hxs with
  | [y0, y1], _ =>
    have h0 : DataW.trod enc Tryz.prog W 0 sp true n 3 ((cs.drop 0).take (Tryz.prog.cellsOf 3)) = some y0 := hf 0 _ rfl
    have h1 : DataW.trod enc Tryz.prog W 0 sp true n 3 ((cs.drop 1).take (Tryz.prog.cellsOf 3)) = some y1 := hf 1 _ rfl
    obtain ⟨n0, c0, z0, _⟩ := DataW.trod_int Tryz.underlying3 h0
    obtain ⟨n1, c1, z1, _⟩ := DataW.trod_int Tryz.underlying3 h1
    subst z0 z1
    rw [show Tryz.prog.cellsOf 3 = 1 from by kernel_rfl] at c0 c1
    rw [show Tryz.prog.cellsOf 39 = 2 from by kernel_rfl] at hl
    match cs, hl with
    | [v0, v1], _ =>
      simp at c0 c1
      subst c0 c1
      exact ⟨⟨n0, n1⟩, rfl, by rw [hx]; rfl⟩
set_option maxRecDepth 100000 in
theorem one_node {fuel : Nat} {cs : List Value} {x : DataW H × List MemPlace} (h : DataW.trod enc Tryz.prog W 0 sp true fuel 42 cs = some x) : ∃ y : R.Nd, cs = nc y := by
  obtain ⟨xs, n, _, hx, hl, hxs, hf⟩ := DataW.trod_struct Tryz.underlying42 h
  match xs, hxs with
  | [y0, y1, y2, y3], _ =>
    have h0 : DataW.trod enc Tryz.prog W 0 sp true n 39 ((cs.drop 0).take (Tryz.prog.cellsOf 39)) = some y0 := hf 0 _ rfl
    have h1 : DataW.trod enc Tryz.prog W 0 sp true n 39 ((cs.drop 2).take (Tryz.prog.cellsOf 39)) = some y1 := hf 1 _ rfl
    have h2 : DataW.trod enc Tryz.prog W 0 sp true n 3 ((cs.drop 4).take (Tryz.prog.cellsOf 3)) = some y2 := hf 2 _ rfl
    have h3 : DataW.trod enc Tryz.prog W 0 sp true n 21 ((cs.drop 5).take (Tryz.prog.cellsOf 21)) = some y3 := hf 3 _ rfl
    obtain ⟨n0, c0, _⟩ := one_dot h0
    obtain ⟨n1, c1, _⟩ := one_dot h1
    obtain ⟨n2, c2, z2, _⟩ := DataW.trod_int Tryz.underlying3 h2
    obtain ⟨n3, c3, z3, _⟩ := DataW.trod_int Tryz.underlying21 h3
    rw [show Tryz.prog.cellsOf 3 = 1 from by kernel_rfl] at c2
    rw [show Tryz.prog.cellsOf 21 = 1 from by kernel_rfl] at c3
    rw [show Tryz.prog.cellsOf 39 = 2 from by kernel_rfl] at c0 c1
    rw [show Tryz.prog.cellsOf 42 = 6 from by kernel_rfl] at hl
    match cs, hl with
    | [v0, v1, v2, v3, v4, v5], _ =>
      simp at c0 c1 c2 c3
      obtain ⟨rfl, rfl⟩ := c0
      obtain ⟨rfl, rfl⟩ := c1
      subst c2 c3
      exact ⟨⟨n0, n1, n2, n3⟩, rfl⟩
theorem one_rune {fuel : Nat} {cs : List Value} {x : DataW H × List MemPlace} (h : DataW.trod enc Tryz.prog W 0 sp true fuel 21 cs = some x) : ∃ y : Int, cs = rc y := by
  obtain ⟨n, rfl, _⟩ := DataW.trod_int Tryz.underlying21 h
  exact ⟨n, rfl⟩
theorem open_nodes {a : Option Addr} {len cap : Nat} {d : DataW H} {ps : List MemPlace} (h : DataW.Trod enc Tryz.prog W 0 sp true 23 (.slice a len cap) d ps) : ∃ l : List Nd, l.length = len ∧ len ≤ cap ∧ SlF W 6 a len (l.flatMap nc) :=
  open_row (encα := nc) (k := 6) (fun _ => rfl) Tryz.underlying23 (by kernel_rfl) (fun _ _ _ h => one_node h) h
theorem open_runes {a : Option Addr} {len cap : Nat} {d : DataW H} {ps : List MemPlace} (h : DataW.Trod enc Tryz.prog W 0 sp true 63 (.slice a len cap) d ps) : ∃ l : List Int, l.length = len ∧ len ≤ cap ∧ SlF W 1 a len (l.flatMap rc) :=
  open_row (encα := rc) (k := 1) (fun _ => rfl) Tryz.underlying63 (by kernel_rfl) (fun _ _ _ h => one_rune h) h
set_option maxRecDepth 100000 in
theorem open_dot {r : Reach} {b0 : Nat} {v : Value} {d : DataW H} {ps : List MemPlace} (hval : Value.okWide Tryz.prog W r b0 39 v) (h : DataW.Trod enc Tryz.prog W 0 sp true 39 v d ps) : ∃ y : R.Dot, v = dv y ∧ ps = [] := by
  obtain ⟨cs, rfl, _⟩ := okWide_struct Tryz.underlying39 hval
  obtain ⟨fuel, hf⟩ := h
  obtain ⟨y, hy, hp⟩ := one_dot hf
  refine ⟨y, ?_, hp⟩
  rw [show (Value.agg cs).cells = cs from rfl] at hy
  cases cs
  simp at hy
  subst hy
  rfl
end
end Go.Proofs.YtpbillinpjccdaaGreat.Fs
