/- A new slice of a given length. It speaks of no program. -/
import Derived.Test.YtpbillinpjccdaaGreatRa
import Derived.Laws.MakeOwn
set_option linter.unusedVariables false
set_option linter.unusedSimpArgs false
set_option linter.unusedSectionVars false
namespace Go.J
open Go.RowKit Go.R
theorem rep_flat {α : Type} {enc : α → List Value} (y : α) : ∀ n : Nat, (List.replicate n y).flatMap enc = (List.replicate n (enc y)).flatten
  | 0 => rfl
  | n + 1 => by simp only [List.replicate_succ, List.flatMap_cons, List.flatten_cons, rep_flat y n]
theorem rep_get {α : Type} (vs : List α) {k : Nat} (hk : vs.length = k) (h0 : 0 < k) : ∀ (n j : Nat), j < n * k → ((List.replicate n vs).flatten)[j]? = vs[j % k]?
  | 0, j, h => by simp at h
  | n + 1, j, h => by
    rw [List.replicate_succ, List.flatten_cons]
    by_cases hj : j < k
    · rw [List.getElem?_append_left (by omega), Nat.mod_eq_of_lt hj]
    · rw [List.getElem?_append_right (by omega), hk, rep_get vs hk h0 n (j - k) (by rw [Nat.add_mul] at h; omega)]
      rw [Nat.mod_eq_sub_mod (by omega : k ≤ j)]
theorem made_list {z : Value} {vs : List Value} {n k : Nat} (hv : z.cells = vs.toArray) (hk : vs.length = k) (h0 : 0 < k) : madeCells z.cells (n * k) = ((List.replicate n vs).flatten).toArray := by
  apply Array.ext'
  apply List.ext_getElem?
  intro j
  have hl : ((List.replicate n vs).flatten).length = n * k := by simp [hk]
  rw [List.toList_toArray]
  by_cases hj : j < n * k
  · rw [rep_get vs hk h0 n j hj]
    have hm : j % k < k := Nat.mod_lt _ h0
    unfold madeCells
    rw [hv]
    simp [hk, hj, List.getElem?_eq_getElem (show j % k < vs.length by omega)]
  · have hl2 : (madeCells z.cells (n * k)).toList.length = n * k := by simp [madeCells]
    rw [List.getElem?_eq_none (by rw [hl2]; exact Nat.le_of_not_lt hj), List.getElem?_eq_none (by rw [hl]; exact Nat.le_of_not_lt hj)]
section
variable {P : Program} {w0 : World} {M : List Nat} {N : Fm} {s : List (Nat × Value)} {h : List En} {o : Oper}
theorem Ex.rem {x y : Operand} {t t' : TypeId} {k : IntKind} {p q : Int} (hop : o.op = .binOp .rem t x y t') (hx : ev s x = some (.int k p)) (hy : ev s y = some (.int k q)) (h0 : 0 ≤ p) (hq : 0 < q) :
    Ex P w0 M N s h o (.int k (p % q)) := fun a w ha _ => by
  have h1 : ¬ q = 0 := by omega
  simp [execOp, hop, ha.eval hx, ha.eval hy, eqGuard_at_int, binOp_rem, Op.intDiv, h1, Int.tmod_eq_emod_of_nonneg h0]
theorem Dw.make {α : Type} (enc : α → List Value) (y : α) {t e k b n : Nat} {x x' : Operand} {z : Value} (hop : o.op = .makeSlice t x x') (hx : ev s x = some (.int .i64 (n : Int))) (hy : ev s x' = some (.int .i64 (n : Int))) (ht : P.underlying t = some (.slice e)) (hz : ZT P e z k b) (hv : z.cells = (enc y).toArray)
    (hk : (enc y).length = k) (h0 : 0 < k) (hm : n ≤ 1000000) (hb : b ≤ 1000) :
    Dw P w0 M N s h o (fun u h' => ∃ q, u = .slice (some ⟨q, 0, none⟩) (List.replicate n y).length n ∧ h' = En.row (some ⟨q, 0, none⟩) (List.replicate n y).length n e k ((List.replicate n y).flatMap enc) :: h) := .of_run fun a w ha hw => by
  obtain ⟨i, hi, hi1, hi2, hi3⟩ := hz.parts
  have hbn : b * n ≤ 1000 * 1000000 := Nat.mul_le_mul hb hm
  have hr := run_make (P := P) w t e i z ht hi hi1 .i64 .i64 (n : Int) (n : Int) (by omega) (Int.le_refl _) (by rw [hi3, ← Int.natCast_mul]; omega) (by omega)
  rw [hi2] at hr
  simp only [Int.toNat_natCast] at hr
  rw [made_list hv hk h0] at hr
  have hw2 := (hw.alloc ((List.replicate n (enc y)).flatten) e).asrow (n := n) (k := k) 0 rfl (by simp [hk]) (by simp [maxLen]; omega)
  refine ⟨_, _, w.alloc (.cells ((List.replicate n (enc y)).flatten).toArray e), .inl ?_, ?_, w.heap.size, rfl, rfl⟩
  · rw [List.length_replicate]
    simp [execOp, hop, ha.eval hx, ha.eval hy, hr]
  · rw [List.length_replicate, rep_flat]
    exact hw2
end
end Go.J
