/- How an argument that was handed in reads: rows of nodes, of runes, a dot. -/
import Derived.Test.YtpbillinpjccdaaGreatRpQ
import Derived.Test.YtpbillinpjccdaaGreatChecked
import Derived.ProofKit
import Derived.Deep.Slices
set_option linter.unusedVariables false
set_option linter.unusedSimpArgs false
set_option linter.unusedSectionVars false
namespace Go.Proofs.YtpbillinpjccdaaGreat.Fs
open Go.ChangeShapes Go.WideShapes Go.ChangeAt Go.RowKit Go.J Go.R
section
variable {H : Type} {enc : TypeId × Value → H} {W : World} {sp : Nat → Bool}
theorem open_rowc {α : Type} {P : Program} {t e : TypeId} {encα : α → List Value} {k : Nat} {Q : α → Prop} (hlen : ∀ x, (encα x).length = k) (ht : P.underlying t = some (.slice e)) (hk : P.cellsOf e = k)
    (one : ∀ (fuel : Nat) (cs : List Value) (x : DataW H × List MemPlace), DataW.trod enc P W 0 sp true fuel e cs = some x → ∃ y : α, cs = encα y ∧ Q y)
    {fuel : Nat} {cs : List Value} {x : DataW H × List MemPlace} (hf : DataW.trod enc P W 0 sp true fuel t cs = some x) :
    ∃ (a : Option Addr) (cap : Nat) (l : List α), cs = [.slice a l.length cap] ∧ l.length ≤ cap ∧ SlF W k a l.length (l.flatMap encα) ∧ ∀ y ∈ l, Q y := by
  rcases Deep.open_slice ht hf with ⟨hcs, _⟩ | ⟨x, l, c, m, n, D, Pl, hcs, _, hl, hm, hmm, _, hx⟩
  · exact ⟨none, 0, [], hcs, Nat.le_refl _, SlF.nil _ _ _, fun y hy => absurd hy (by simp)⟩
  · subst hcs
    have hlm : l ≤ m := by rw [hmm]; split <;> omega
    have each : ∀ i, i < l → ∃ y : α, W.cells? 0 (x.add (i * k)) k = some (encα y) ∧ Q y := fun i hi => by
      obtain ⟨cs', h1, h2⟩ := hx i (by omega)
      rw [hk] at h1
      obtain ⟨y, rfl, hq⟩ := one _ _ _ h2
      exact ⟨y, h1, hq⟩
    clear hx
    by_cases h0 : l = 0
    · subst h0
      exact ⟨some x, c, [], rfl, hl, SlF.nil _ _ _, fun y hy => absurd hy (by simp)⟩
    · have : Inhabited α := ⟨(each 0 (by omega)).choose⟩
      obtain ⟨f, hf⟩ := Deep.choose_lt each
      refine ⟨some x, c, (List.range l).map f, by simp, by simpa using hl, ?_, ?_⟩
      case refine_2 =>
        intro y hy
        obtain ⟨i, hi, rfl⟩ := List.mem_map.1 hy
        exact (hf i (List.mem_range.1 hi)).2
      refine ⟨?_, by simp; omega, fun _ => ⟨x, rfl, ?_⟩⟩
      · rw [flat_len hlen]
      · intro j v hv
        have hjl : j < l * k := by
          have := (List.getElem?_eq_some_iff.1 hv).1
          rw [flat_len hlen] at this
          simpa using this
        have hk0 : 0 < k := by
          rcases Nat.eq_zero_or_pos k with h | h
          · rw [h] at hjl; omega
          · exact h
        have hq : j / k < l := (Nat.div_lt_iff_lt_mul hk0).2 hjl
        have hr : j % k < k := Nat.mod_lt _ hk0
        have hj : j / k * k + j % k = j := by rw [Nat.mul_comm]; exact Nat.div_add_mod j k
        have hc := (World.cells?_some (hf _ hq).1).2.2 (j % k) hr
        rw [Addr.add_add, hj] at hc
        rw [hc]
        have hfl := flat_at hlen ((List.range l).map f) (j / k) (by simpa using hq)
        have e1 : ((List.range l).map f)[j / k]'(by simpa using hq) = f (j / k) := by simp
        rw [e1] at hfl
        rw [← hfl, List.getElem?_take, if_pos hr, List.getElem?_drop, hj]
        exact hv
theorem open_row {α : Type} {P : Program} {t e : TypeId} {encα : α → List Value} {k : Nat} {Q : α → Prop} (hlen : ∀ x, (encα x).length = k) (ht : P.underlying t = some (.slice e)) (hk : P.cellsOf e = k)
    (one : ∀ (fuel : Nat) (cs : List Value) (x : DataW H × List MemPlace), DataW.trod enc P W 0 sp true fuel e cs = some x → ∃ y : α, cs = encα y ∧ Q y)
    {a : Option Addr} {len cap : Nat} {d : DataW H} {ps : List MemPlace} (h : DataW.Trod enc P W 0 sp true t (.slice a len cap) d ps) :
    ∃ l : List α, l.length = len ∧ len ≤ cap ∧ SlF W k a len (l.flatMap encα) ∧ ∀ y ∈ l, Q y := by
  obtain ⟨fuel, hf⟩ := h
  obtain ⟨a', cap', l, hcs, h1, h2, h3⟩ := open_rowc hlen ht hk one hf
  simp [Value.cells] at hcs
  obtain ⟨rfl, rfl, rfl⟩ := hcs
  exact ⟨l, rfl, h1, h2, h3⟩
set_option maxRecDepth 100000 in
theorem one_dot {fuel : Nat} {cs : List Value} {x : DataW H × List MemPlace} (h : DataW.trod enc Tryz.prog W 0 sp true fuel 39 cs = some x) : ∃ y : R.Dot, cs = dc y ∧ x.2 = [] := by
  obtain ⟨xs, n, _, hx, hl, hxs, hf⟩ := DataW.trod_struct Tryz.underlying39 h
  match xs, hxs with
  | [y0, y1], _ =>
    have h0 : DataW.trod enc Tryz.prog W 0 sp true n 3 ((cs.drop 0).take (Tryz.prog.cellsOf 3)) = some y0 := hf 0 _ rfl
    have h1 : DataW.trod enc Tryz.prog W 0 sp true n 3 ((cs.drop 1).take (Tryz.prog.cellsOf 3)) = some y1 := hf 1 _ rfl
    obtain ⟨n0, c0, z0, _⟩ := DataW.trod_int Tryz.underlying3 h0
    obtain ⟨n1, c1, z1, _⟩ := DataW.trod_int Tryz.underlying3 h1
    subst z0 z1
    rw [show Tryz.prog.cellsOf 3 = 1 from by kernel_rfl] at c0 c1
    rw [show Tryz.prog.cellsOf 39 = 2 from by kernel_rfl] at hl
    match cs, hl with
    | [v0, v1], _ =>
      simp at c0 c1
      subst c0 c1
      exact ⟨⟨n0, n1⟩, rfl, by rw [hx]; rfl⟩
set_option maxRecDepth 100000 in
theorem one_node {fuel : Nat} {cs : List Value} {x : DataW H × List MemPlace} (h : DataW.trod enc Tryz.prog W 0 sp true fuel 42 cs = some x) : ∃ y : R.Nd, cs = nc y := by
  obtain ⟨xs, n, _, hx, hl, hxs, hf⟩ := DataW.trod_struct Tryz.underlying42 h
  match xs, hxs with
  | [y0, y1, y2, y3], _ =>
    have h0 : DataW.trod enc Tryz.prog W 0 sp true n 39 ((cs.drop 0).take (Tryz.prog.cellsOf 39)) = some y0 := hf 0 _ rfl
    have h1 : DataW.trod enc Tryz.prog W 0 sp true n 39 ((cs.drop 2).take (Tryz.prog.cellsOf 39)) = some y1 := hf 1 _ rfl
    have h2 : DataW.trod enc Tryz.prog W 0 sp true n 3 ((cs.drop 4).take (Tryz.prog.cellsOf 3)) = some y2 := hf 2 _ rfl
    have h3 : DataW.trod enc Tryz.prog W 0 sp true n 21 ((cs.drop 5).take (Tryz.prog.cellsOf 21)) = some y3 := hf 3 _ rfl
    obtain ⟨n0, c0, _⟩ := one_dot h0
    obtain ⟨n1, c1, _⟩ := one_dot h1
    obtain ⟨n2, c2, z2, _⟩ := DataW.trod_int Tryz.underlying3 h2
    obtain ⟨n3, c3, z3, _⟩ := DataW.trod_int Tryz.underlying21 h3
    rw [show Tryz.prog.cellsOf 3 = 1 from by kernel_rfl] at c2
    rw [show Tryz.prog.cellsOf 21 = 1 from by kernel_rfl] at c3
    rw [show Tryz.prog.cellsOf 39 = 2 from by kernel_rfl] at c0 c1
    rw [show Tryz.prog.cellsOf 42 = 6 from by kernel_rfl] at hl
    match cs, hl with
    | [v0, v1, v2, v3, v4, v5], _ =>
      simp at c0 c1 c2 c3
      obtain ⟨rfl, rfl⟩ := c0
      obtain ⟨rfl, rfl⟩ := c1
      subst c2 c3
      exact ⟨⟨n0, n1, n2, n3⟩, rfl⟩
theorem one_rune {fuel : Nat} {cs : List Value} {x : DataW H × List MemPlace} (h : DataW.trod enc Tryz.prog W 0 sp true fuel 21 cs = some x) : ∃ y : Int, cs = rc y := by
  obtain ⟨n, rfl, _⟩ := DataW.trod_int Tryz.underlying21 h
  exact ⟨n, rfl⟩
theorem open_nodes {a : Option Addr} {len cap : Nat} {d : DataW H} {ps : List MemPlace} (h : DataW.Trod enc Tryz.prog W 0 sp true 23 (.slice a len cap) d ps) : ∃ l : List Nd, l.length = len ∧ len ≤ cap ∧ SlF W 6 a len (l.flatMap nc) :=
  let ⟨l, h1, h2, h3, _⟩ := open_row (encα := nc) (k := 6) (Q := fun _ => True) (fun _ => rfl) Tryz.underlying23 (by kernel_rfl) (fun _ _ _ h => let ⟨y, hy⟩ := one_node h; ⟨y, hy, trivial⟩) h
  ⟨l, h1, h2, h3⟩
theorem wf_u8 {n : Int} (h : (Lit.int .u8 n).wf = true) : 0 ≤ n ∧ n ≤ 255 := by
  have h1 : IntKind.u8.min = 0 := rfl
  have h2 : IntKind.u8.max = 255 := rfl
  simp [Lit.wf, h1, h2] at h
  omega
set_option maxRecDepth 100000 in
theorem one_act {fuel : Nat} {cs : List Value} {x : DataW H × List MemPlace} (h : DataW.trod enc Tryz.prog W 0 sp true fuel 88 cs = some x) : ∃ y : R.Ac, cs = ac y ∧ AcOk W y := by
  obtain ⟨xs, n, _, hx, hl, hxs, hf⟩ := DataW.trod_struct Tryz.underlying88 h
  match xs, hxs with
  | [y0, y1, y2], _ =>
    have h0 : DataW.trod enc Tryz.prog W 0 sp true n 5 ((cs.drop 0).take (Tryz.prog.cellsOf 5)) = some y0 := hf 0 _ rfl
    have h1 : DataW.trod enc Tryz.prog W 0 sp true n 5 ((cs.drop 1).take (Tryz.prog.cellsOf 5)) = some y1 := hf 1 _ rfl
    have h2 : DataW.trod enc Tryz.prog W 0 sp true n 63 ((cs.drop 2).take (Tryz.prog.cellsOf 63)) = some y2 := hf 2 _ rfl
    obtain ⟨n0, c0, z0, w0⟩ := DataW.trod_int Tryz.underlying5 h0
    obtain ⟨n1, c1, z1, w1⟩ := DataW.trod_int Tryz.underlying5 h1
    obtain ⟨a, cap, l, c2, h3, h4, _⟩ := open_rowc (encα := rc) (k := 1) (Q := fun _ => True) (fun _ => rfl) Tryz.underlying63 (by kernel_rfl) (fun _ _ _ h => let ⟨y, hy⟩ := one_rune h; ⟨y, hy, trivial⟩) h2
    rw [show Tryz.prog.cellsOf 5 = 1 from by kernel_rfl] at c0 c1
    rw [show Tryz.prog.cellsOf 63 = 1 from by kernel_rfl] at c2
    rw [show Tryz.prog.cellsOf 88 = 3 from by kernel_rfl] at hl
    match cs, hl with
    | [v0, v1, v2], _ =>
      simp at c0 c1 c2
      subst c0 c1 c2
      exact ⟨⟨n0, n1, a, cap, l⟩, rfl, h4, (wf_u8 w0).1, (wf_u8 w0).2, (wf_u8 w1).1, (wf_u8 w1).2⟩
theorem open_acts {a : Option Addr} {len cap : Nat} {d : DataW H} {ps : List MemPlace} (h : DataW.Trod enc Tryz.prog W 0 sp true 84 (.slice a len cap) d ps) : ∃ l : List R.Ac, l.length = len ∧ len ≤ cap ∧ SlF W 3 a len (l.flatMap ac) ∧ ∀ x ∈ l, AcOk W x :=
  open_row (encα := ac) (k := 3) (fun _ => rfl) Tryz.underlying84 (by kernel_rfl) (fun _ _ _ h => one_act h) h
set_option maxRecDepth 100000 in
theorem open_act {r : Reach} {b0 : Nat} {v : Value} {d : DataW H} {ps : List MemPlace} (hval : Value.okWide Tryz.prog W r b0 88 v) (h : DataW.Trod enc Tryz.prog W 0 sp true 88 v d ps) : ∃ y : R.Ac, v = av y ∧ AcOk W y := by
  obtain ⟨cs, rfl, _⟩ := okWide_struct Tryz.underlying88 hval
  obtain ⟨fuel, hf⟩ := h
  obtain ⟨y, hy, hp⟩ := one_act hf
  refine ⟨y, ?_, hp⟩
  rw [show (Value.agg cs).cells = cs from rfl] at hy
  cases cs
  simp at hy
  subst hy
  rfl
end
end Go.Proofs.YtpbillinpjccdaaGreat.Fs
