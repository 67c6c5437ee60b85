/- Plain laws: what the references return. It speaks of no program. -/
import Derived.Test.YtpbillinpjccdaaGreatRlQ
set_option linter.unusedVariables false
set_option linter.unusedSimpArgs false
set_option linter.unusedSectionVars false
namespace Go.R
open Go.J
theorem putL_app_r : ∀ (vs a b : List Value) (off : Nat), putL (a ++ b) (a.length + off) vs = a ++ putL b off vs
  | [], _, _, _ => rfl
  | v :: vs, a, b, off => by
    have ih := putL_app_r vs a (b.set off v) (off + 1)
    simp only [putL]
    rw [List.set_append_right _ _ (by omega), show a.length + off - a.length = off by omega, show a.length + off + 1 = a.length + (off + 1) by omega]
    exact ih
/-- Some cells of an element are written. -/
theorem putL_field {α : Type} {enc : α → List Value} {k : Nat} (he : ∀ x, (enc x).length = k) (l : List α) (i off : Nat) (vs : List Value) (y : α) (hi : i < l.length) (hl : off + vs.length ≤ k) (hy : putL (enc l[i]) off vs = enc y) :
    putL (l.flatMap enc) (i * k + off) vs = (l.set i y).flatMap enc := by
  have e : l = l.take i ++ (l[i] :: l.drop (i + 1)) := by rw [← List.drop_eq_getElem_cons hi, List.take_append_drop]
  have hlen : ((l.take i).flatMap enc).length = i * k := by rw [flat_len he, List.length_take, Nat.min_eq_left (by omega)]
  have e2 : l.flatMap enc = (l.take i).flatMap enc ++ (enc l[i] ++ (l.drop (i + 1)).flatMap enc) := by
    conv => lhs; rw [e]
    simp only [List.flatMap_append, List.flatMap_cons]
  have e3 : (l.set i y).flatMap enc = (l.take i).flatMap enc ++ (enc y ++ (l.drop (i + 1)).flatMap enc) := by
    rw [List.set_eq_take_append_cons_drop, if_pos hi]
    simp only [List.flatMap_append, List.flatMap_cons]
  rw [e2, e3, ← hlen, putL_app_r, putL_take vs (enc l[i]) _ off (by rw [he]; exact hl), hy]
theorem slF_drop {α : Type} {enc : α → List Value} {q : Nat} (he : ∀ x, (enc x).length = q) {w : World} {A : Option Addr} {l : List α} {c : Nat} (h : SlF w q A l.length (l.flatMap enc)) {k : Nat} (hk : k ≤ l.length) (hc : l.length ≤ c) : SlF w q (cutA A c k q) (l.length - k) ((l.drop k).flatMap enc) := by
  have h1 := SlF.cut (cap := c) h (l := k) (m := l.length) hk (Nat.le_refl _) hc
  rw [flat_drop he, List.take_of_length_le (by rw [flat_len he, List.length_drop]; exact Nat.le_refl _)] at h1
  exact h1
theorem slF_pre {α : Type} {enc : α → List Value} {q : Nat} (he : ∀ x, (enc x).length = q) {w : World} {A : Option Addr} {l : List α} (h : SlF w q A l.length (l.flatMap enc)) {k : Nat} (hk : k ≤ l.length) : SlF w q A k ((l.take k).flatMap enc) := by
  have h1 := SlF.pre h hk
  rw [flat_take he] at h1
  exact h1
theorem slN_drop {w : World} {A : Option Addr} {l : List Nd} {c : Nat} (h : SlN w A l) {k : Nat} (hk : k ≤ l.length) (hc : l.length ≤ c) : SlF w 6 (cutA A c k 6) (l.length - k) ((l.drop k).flatMap nc) := slF_drop (enc := nc) (q := 6) (fun _ => rfl) h hk hc
theorem slN_pre {w : World} {A : Option Addr} {l : List Nd} (h : SlN w A l) {k : Nat} (hk : k ≤ l.length) : SlF w 6 A k ((l.take k).flatMap nc) := slF_pre (enc := nc) (q := 6) (fun _ => rfl) h hk
theorem alive_take {l : List Nd} {k : Nat} (h : k < l.length) : alive (l.take (k + 1)) = alive (l.take k) ++ if (gx l (k : Int)).x ≠ 0 then [gx l (k : Int)] else [] := by
  unfold alive
  rw [filter_take _ l h]
  simp
def okAt (l : List Nd) (i : Nat) : Prop := nvalid (gx l (i : Int)) = true ∧ (0 < i → dlt (gx l ((i : Int) - 1)).d (gx l (i : Int)).d)
theorem storeOk_iff {l : List Nd} : storeOk l = true ↔ ∀ i, i < l.length → okAt l i := by
  simp only [storeOk, Bool.and_eq_true, List.all_eq_true, decide_eq_true_eq]
  constructor
  · rintro ⟨h1, h2⟩ i hi
    refine ⟨h1 _ (gx_mem (by omega) (by omega)), fun h0 => ?_⟩
    have := sd_gx h2 (i := i - 1) (j := i) (by omega) hi
    rw [show ((i - 1 : Nat) : Int) = (i : Int) - 1 by omega] at this
    exact this
  · intro h
    refine ⟨fun n hn => ?_, sorted_of_steps fun i h0 hi => (h i hi).2 h0⟩
    obtain ⟨i, hi, rfl⟩ := List.getElem_of_mem hn
    have := (h i hi).1
    rwa [gx_nat l i hi] at this
theorem storeOk_not {l : List Nd} {i : Nat} (hi : i < l.length) (h : ¬ okAt l i) : storeOk l = false := by
  cases hs : storeOk l with
  | false => rfl
  | true => exact absurd (storeOk_iff.1 hs i hi) h
theorem fnd_take {l : List Nd} {d : Dot} {k : Nat} (hk : k < l.length) (hn : ∀ j : Nat, j < k → ¬ (gx l (j : Int)).d = d) (h : (gx l (k : Int)).d = d) : fnd l d = k :=
  idx_take _ l k hk (fun j hj => decide_eq_false (hn j hj)) (decide_eq_true h)
theorem fnd_none {l : List Nd} {d : Dot} (hn : ∀ j : Nat, j < l.length → ¬ (gx l (j : Int)).d = d) : fnd l d = -1 := idx_none _ l (fun j hj => decide_eq_false (hn j hj))
/-- The reference's agreement. -/
def agP (b : List Nd) (n : Nd) : Bool := decide (fnd b n.d < 0) || (jmg n (gx b (fnd b n.d))).2
def agreeJ (a b : List Nd) : Bool := a.all (agP b)
theorem all_take {α : Type} [Inhabited α] (p : α → Bool) (l : List α) {k : Nat} (h : k < l.length) : (l.take (k + 1)).all p = ((l.take k).all p && p (gx l (k : Int))) := by
  rw [take_gx l h, List.all_append]
  simp
theorem all_false {α : Type} [Inhabited α] {p : α → Bool} {l : List α} {k : Nat} (h : k < l.length) (hp : p (gx l (k : Int)) = false) : l.all p = false := by
  rw [List.all_eq_false]
  exact ⟨gx l (k : Int), gx_mem (by omega) (by omega), by simp [hp]⟩
theorem tw_take {α : Type} [Inhabited α] {p : α → Bool} {l : List α} {i : Nat} (h : i ≤ l.length) (h1 : ∀ j : Nat, j < i → p (gx l (j : Int)) = true) (h2 : i < l.length → p (gx l (i : Int)) = false) : l.take i = l.takeWhile p ∧ l.drop i = l.dropWhile p := by
  have hl := takeWhile_len p l i h h1 h2
  have e := List.takeWhile_append_dropWhile (p := p) (l := l)
  have e1 : l.take i = l.takeWhile p := by
    conv => lhs; rw [← e]
    rw [← hl, List.take_left']
    rfl
  refine ⟨e1, ?_⟩
  have e2 : l.take i ++ l.drop i = l.takeWhile p ++ l.dropWhile p := by rw [List.take_append_drop, e]
  rw [e1] at e2
  exact List.append_cancel_left e2
def pput (a : List Nd) (n : Nd) : List Nd := a.takeWhile (befD n.d) ++ n :: a.dropWhile (befD n.d)
def gjn (a b : List Nd) : List Nd := b.foldl gput a
theorem list_ext_gx {α : Type} [Inhabited α] {a b : List α} (hl : a.length = b.length) (h : ∀ j : Nat, j < a.length → gx a (j : Int) = gx b (j : Int)) : a = b := by
  apply List.ext_getElem hl
  intro i h1 h2
  have := h i h1
  rwa [gx_nat a i h1, gx_nat b i h2] at this
theorem kins_len (out : List Nd) (n : Nd) : (kins out n).length = out.length + 1 := by
  have := (kins_perm out n).length_eq
  simpa using this
theorem maxTime_valid {l : List Nd} (h : storeOk l = true) : maxTime l ≤ 4611686018427387904 := by
  have key : ∀ (l : List Nd) (m : Int), m ≤ 4611686018427387904 → (∀ n ∈ l, n.t ≤ 4611686018427387904) → l.foldl (fun m n => max m n.t) m ≤ 4611686018427387904 := by
    intro l
    induction l with
    | nil => intro m hm _; exact hm
    | cons x l ih =>
      intro m hm hl
      have := hl x (List.mem_cons_self ..)
      exact ih _ (by dsimp only; omega) fun n hn => hl n (List.mem_cons_of_mem _ hn)
  refine key l 0 (by omega) fun n hn => ?_
  have := storeOk_all h n hn
  simp only [nvalid, decide_eq_true_eq] at this
  exact this.2.2.2.2.1
def wellP (l : List Nd) (n : Nd) : Bool := droot n.p || (decide (0 ≤ fnd l n.p) && decide ((gx l (fnd l n.p)).t < n.t))
theorem well_def (l : List Nd) : well l = (storeOk l && l.all (wellP l)) := rfl
/-- The killed nodes, put one by one, and the chain behind them. -/
def cutN (s : List Nd) (a n : Int) : List Nd := (((visN s).drop a.toNat).take n.toNat).map kill
theorem delete_replace {s : List Nd} {a n : Int} : replaceR s ⟨1, 1⟩ a n [] = deleteR s a n := by
  unfold replaceR deleteR
  by_cases hw : well s = true
  · rw [if_neg (by simp [hw, dvalid])]
    split
    · rfl
    · by_cases hn : 10000 < n
      · rw [if_pos (.inl hn), if_pos hn]
      · have hm := maxTime_valid (well_store hw)
        have h0 := maxTime_nonneg s
        rw [if_neg (by simp; omega), if_neg hn, if_neg (by simp), if_neg (by simp; omega), if_neg (by simp [busy])]
        rfl
  · have hw' : well s = false := by simpa using hw
    rw [if_pos (.inl hw')]
    have e : spanR s a n = 2 := by unfold spanR; rw [if_pos hw']
    rw [e]
    simp
end Go.R
