/- Plain laws of lists: searching, killing. It speaks of no program. -/
import Derived.Test.YtpbillinpjccdaaGreatRaQ
set_option linter.unusedVariables false
set_option linter.unusedSimpArgs false
set_option linter.unusedSectionVars false
namespace Go.R
open Go.J
theorem gx_cons {α : Type} [Inhabited α] (x : α) (l : List α) (k : Nat) : gx (x :: l) ((k + 1 : Nat) : Int) = gx l (k : Int) := by
  simp [gx, List.getD_eq_getElem?_getD]
theorem takeWhile_len {α : Type} [Inhabited α] (p : α → Bool) : ∀ (l : List α) (i : Nat), i ≤ l.length → (∀ j : Nat, j < i → p (gx l (j : Int)) = true) → (i < l.length → p (gx l (i : Int)) = false) → (l.takeWhile p).length = i
  | [], i, h, _, _ => by simp at h; simp [h]
  | x :: l, 0, _, _, h2 => by
    have : p x = false := h2 (by simp)
    simp [this]
  | x :: l, i + 1, h, h1, h2 => by
    have h0 : p x = true := h1 0 (by omega)
    have ih := takeWhile_len p l i (by simpa using h) (fun j hj => by have := h1 (j + 1) (by omega); rwa [gx_cons] at this) (fun hi => by have := h2 (by simpa using hi); rwa [gx_cons] at this)
    simp [h0, ih]
/-- The lower bound: how many first elements are less. -/
def lbn {α : Type} (c : α → Int) (l : List α) : Nat := (l.takeWhile (fun x => decide (c x < 0))).length
def bsf {α : Type} [Inhabited α] (c : α → Int) (l : List α) : Bool := decide (lbn c l < l.length ∧ c (gx l (lbn c l : Int)) = 0)
theorem lbn_eq {α : Type} [Inhabited α] {c : α → Int} {l : List α} {i : Nat} (h : i ≤ l.length) (h1 : ∀ j : Nat, j < i → c (gx l (j : Int)) < 0) (h2 : ∀ j : Nat, i ≤ j → j < l.length → ¬ c (gx l (j : Int)) < 0) : lbn c l = i :=
  takeWhile_len _ l i h (fun j hj => by simpa using h1 j hj) (fun hi => by simpa using h2 i (Nat.le_refl _) hi)
theorem lbn_le {α : Type} {c : α → Int} {l : List α} : lbn c l ≤ l.length := (List.takeWhile_prefix _).length_le
/-- What is less comes first. -/
def Mono {α : Type} [Inhabited α] (c : α → Int) (l : List α) : Prop := ∀ i j : Nat, i ≤ j → j < l.length → c (gx l (j : Int)) < 0 → c (gx l (i : Int)) < 0
theorem mono_sorted {α : Type} [Inhabited α] {f : α → Dot} {l : List α} (hs : Sorted (l.map f)) (d : Dot) : Mono (fun x => dcmp (f x) d) l := fun i j hij hj h => by
  rw [dcmp_neg] at *
  rcases Nat.lt_or_ge i j with h1 | h1
  · rw [gx_nat l i (by omega)] at *
    rw [gx_nat l j hj] at h
    have := List.pairwise_iff_getElem.1 hs i j (by simp; omega) (by simpa using hj) h1
    simp only [List.getElem_map] at this
    exact dlt_trans this h
  · have : i = j := by omega
    subst this
    exact h
theorem lbn_spec {α : Type} [Inhabited α] (c : α → Int) : ∀ l : List α, (∀ j : Nat, j < lbn c l → c (gx l (j : Int)) < 0) ∧ (lbn c l < l.length → ¬ c (gx l (lbn c l : Int)) < 0)
  | [] => by simp [lbn]
  | x :: l => by
    obtain ⟨h1, h2⟩ := lbn_spec c l
    by_cases h : c x < 0
    · have e : lbn c (x :: l) = lbn c l + 1 := by simp [lbn, h]
      rw [e]
      refine ⟨fun j hj => ?_, fun hl => ?_⟩
      · cases j with
        | zero => exact h
        | succ j => rw [gx_cons]; exact h1 j (by omega)
      · rw [gx_cons]
        exact h2 (by simpa using hl)
    · have e : lbn c (x :: l) = 0 := by simp [lbn, h]
      rw [e]
      exact ⟨fun j hj => by omega, fun _ => h⟩
theorem bsf_sorted {α : Type} [Inhabited α] {f : α → Dot} {l : List α} (hs : Sorted (l.map f)) (d : Dot) : bsf (fun x => dcmp (f x) d) l = decide (d ∈ l.map f) := by
  have hm := mono_sorted hs d
  obtain ⟨hlb, hub⟩ := lbn_spec (fun x => dcmp (f x) d) l
  rw [Bool.eq_iff_iff]
  simp only [bsf, decide_eq_true_eq]
  constructor
  · rintro ⟨h1, h2⟩
    rw [dcmp_zero] at h2
    exact List.mem_map.2 ⟨_, gx_mem (by omega) (by omega), h2⟩
  · intro h
    obtain ⟨x, hx, rfl⟩ := List.mem_map.1 h
    obtain ⟨k, hk, rfl⟩ := List.getElem_of_mem hx
    have hk1 : ¬ k < lbn (fun x => dcmp (f x) (f l[k])) l := fun h1 => by
      have := hlb k h1
      rw [gx_nat l k hk, dcmp_neg] at this
      exact dlt_irrefl _ this
    have hl : lbn (fun x => dcmp (f x) (f l[k])) l < l.length := by omega
    refine ⟨hl, ?_⟩
    rcases Nat.lt_or_ge (lbn (fun x => dcmp (f x) (f l[k])) l) k with h1 | h1
    · exfalso
      refine hub hl ?_
      rw [gx_nat l _ hl, dcmp_neg]
      have := List.pairwise_iff_getElem.1 hs _ k (by simpa using hl) (by simpa using hk) h1
      simpa using this
    · have : lbn (fun x => dcmp (f x) (f l[k])) l = k := by omega
      rw [this, gx_nat l k hk, dcmp_zero]
theorem lt_snoc {P : Nat → Prop} {k : Nat} (h : ∀ j, j < k → P j) (hk : P k) : ∀ j, j < k + 1 → P j := fun j hj => by
  rcases Nat.lt_or_ge j k with h1 | h1
  · exact h j h1
  · obtain rfl : j = k := by omega
    exact hk
theorem take_map_gx {α β : Type} [Inhabited α] (f : α → β) (l : List α) {k : Nat} (h : k < l.length) : (l.map f).take (k + 1) = (l.map f).take k ++ [f (gx l (k : Int))] := by
  rw [← List.map_take, take_gx l h, List.map_append, List.map_take]
  rfl
theorem sorted_take_one (l : List Dot) : Sorted (l.take 1) := by
  cases l with
  | nil => exact List.Pairwise.nil
  | cons x l => exact List.pairwise_singleton _ _
theorem maxTime_take (l : List Nd) {k : Nat} (h : k < l.length) : maxTime (l.take (k + 1)) = max (maxTime (l.take k)) (gx l (k : Int)).t := by
  rw [take_gx l h]
  simp [maxTime, List.foldl_append]
theorem any_not_all (l : List Nd) : (!l.any (fun n => !nvalid n)) = l.all nvalid := by simp [List.all_eq_not_any_not]
def storeTime (l : List Nd) : Int × Int := if storeOk l = true then (maxTime l, 0) else (0, 2)
/-! ### killing -/
def killOne (d : Dot) (l : List Nd) : List Nd := l.map fun n => if n.d = d then kill n else n
def killL : List Nd → List Dot → Option (List Nd)
  | l, [] => some l
  | l, d :: ds => if d ∈ l.map Nd.d then killL (killOne d l) ds else none
def killR (l : List Nd) (ds : List Dot) : List Nd × Int :=
  if storeOk l = false ∨ ds.any (fun d => !dvalid d) = true then ([], 2) else match killL l ds with
    | some m => (m, 0)
    | none => ([], 9)
theorem killOne_d (d : Dot) (l : List Nd) : (killOne d l).map Nd.d = l.map Nd.d := by
  simp only [killOne, List.map_map]
  apply List.map_congr_left
  intro n _
  simp only [Function.comp]
  split <;> rfl
theorem killOne_len (d : Dot) (l : List Nd) : (killOne d l).length = l.length := by simp [killOne]
theorem sorted_inj {l : List Nd} (hs : Sorted (l.map Nd.d)) {i j : Nat} (hi : i < l.length) (hj : j < l.length) (h : l[i].d = l[j].d) : i = j := by
  have key : ∀ a b (ha : a < l.length) (hb : b < l.length), a < b → dlt l[a].d l[b].d := fun a b ha hb hab => by
    have := List.pairwise_iff_getElem.1 hs a b (by simpa using ha) (by simpa using hb) hab
    simpa using this
  rcases Nat.lt_trichotomy i j with h1 | h1 | h1
  · have := key i j hi hj h1
    rw [h] at this
    exact absurd this (dlt_irrefl _)
  · exact h1
  · have := key j i hj hi h1
    rw [h] at this
    exact absurd this (dlt_irrefl _)
theorem set_killOne {l : List Nd} (hs : Sorted (l.map Nd.d)) {d : Dot} {i : Nat} (hi : i < l.length) (h : (gx l (i : Int)).d = d) : l.set i (kill (gx l (i : Int))) = killOne d l := by
  rw [gx_nat l i hi] at *
  apply List.ext_getElem
  · simp [killOne]
  · intro j h1 h2
    simp only [killOne, List.getElem_map, List.getElem_set]
    have hj : j < l.length := by simpa using h1
    split
    · rename_i e
      subst e
      rw [if_pos h]
    · rename_i e
      rw [if_neg (fun e2 => e (sorted_inj hs hi hj (by rw [h, e2])))]
/-- What a binary search has found. -/
theorem found_lbn {l : List Nd} (hs : Sorted (l.map Nd.d)) {d : Dot} (h : d ∈ l.map Nd.d) : lbn (fun n => dcmp n.d d) l < l.length ∧ (gx l (lbn (fun n => dcmp n.d d) l : Int)).d = d := by
  have h1 := bsf_sorted (f := Nd.d) hs d
  rw [decide_eq_true h] at h1
  simp only [bsf, decide_eq_true_eq] at h1
  exact ⟨h1.1, dcmp_zero.1 h1.2⟩
theorem SlF.cast' {w : World} {k : Nat} {A : Option Addr} {n n' : Nat} {xs : List Value} (h : SlF w k A n xs) (e : n = n') : SlF w k A n' xs := e ▸ h
theorem storeOk_sorted {l : List Nd} (h : storeOk l = true) : Sorted (l.map Nd.d) := by
  simp only [storeOk, Bool.and_eq_true, decide_eq_true_eq] at h
  exact h.2
/-! ### sorting -/
def ins {α : Type} (lt : α → α → Bool) (x : α) : List α → List α
  | [] => [x]
  | y :: l => if lt x y then x :: y :: l else y :: ins lt x l
def isort {α : Type} (lt : α → α → Bool) : List α → List α
  | [] => []
  | x :: l => ins lt x (isort lt l)
theorem ins_perm {α : Type} (lt : α → α → Bool) (x : α) : ∀ l : List α, (ins lt x l).Perm (x :: l)
  | [] => .refl _
  | y :: l => by
    simp only [ins]
    split
    · exact .refl _
    · exact ((ins_perm lt x l).cons y).trans (.swap _ _ _)
theorem isort_perm {α : Type} (lt : α → α → Bool) : ∀ l : List α, (isort lt l).Perm l
  | [] => .refl _
  | x :: l => (ins_perm lt x _).trans ((isort_perm lt l).cons x)
theorem ins_sorted {α : Type} {lt : α → α → Bool} (ht : ∀ x y z, lt x y = true → lt y z = true → lt x z = true) (ha : ∀ x y, lt x y = true → lt y x = false) (htt : ∀ x y z, lt y x = false → lt z y = false → lt z x = false) (x : α) : ∀ {l : List α}, l.Pairwise (fun a b => lt b a = false) → (ins lt x l).Pairwise (fun a b => lt b a = false)
  | [], _ => List.pairwise_singleton _ _
  | y :: l, h => by
    obtain ⟨h1, h2⟩ := List.pairwise_cons.1 h
    simp only [ins]
    split
    · rename_i hxy
      refine List.pairwise_cons.2 ⟨fun z hz => ?_, h⟩
      rcases List.mem_cons.1 hz with rfl | hz
      · exact ha _ _ hxy
      · exact htt x y z (ha _ _ hxy) (h1 z hz)
    · rename_i hxy
      refine List.pairwise_cons.2 ⟨fun z hz => ?_, ins_sorted ht ha htt x h2⟩
      rcases List.mem_cons.1 ((ins_perm lt x l).mem_iff.1 hz) with rfl | hz
      · simpa using hxy
      · exact h1 z hz
theorem isort_sorted {α : Type} {lt : α → α → Bool} (ht : ∀ x y z, lt x y = true → lt y z = true → lt x z = true) (ha : ∀ x y, lt x y = true → lt y x = false) (htt : ∀ x y z, lt y x = false → lt z y = false → lt z x = false) : ∀ l : List α, (isort lt l).Pairwise (fun a b => lt b a = false)
  | [] => .nil
  | x :: l => ins_sorted ht ha htt x (isort_sorted ht ha htt l)
/-- Two sorted lists of the same elements, of which no two are alike to the order, are one. -/
theorem sorted_unique {α : Type} {r : α → α → Prop} : ∀ {l m : List α}, l.Perm m → l.Pairwise r → m.Pairwise r → (∀ x ∈ l, ∀ y ∈ l, r x y → r y x → x = y) → l = m
  | [], m, hp, _, _, _ => (List.nil_perm.1 hp).symm
  | x :: l, [], hp, _, _, _ => absurd hp.length_eq (by simp)
  | x :: l, y :: m, hp, h1, h2, ha => by
    obtain ⟨a1, a2⟩ := List.pairwise_cons.1 h1
    obtain ⟨b1, b2⟩ := List.pairwise_cons.1 h2
    have hxy : x = y := by
      have hx : x ∈ y :: m := hp.mem_iff.1 (List.mem_cons_self ..)
      have hy : y ∈ x :: l := hp.mem_iff.2 (List.mem_cons_self ..)
      rcases List.mem_cons.1 hx with e | hx
      · exact e
      · rcases List.mem_cons.1 hy with e | hy
        · exact e.symm
        · exact ha x (List.mem_cons_self ..) y (List.mem_cons_of_mem _ hy) (a1 y hy) (b1 x hx)
    subst hxy
    congr 1
    exact sorted_unique (List.Perm.cons_inv hp) a2 b2 (fun u hu v hv => ha u (List.mem_cons_of_mem _ hu) v (List.mem_cons_of_mem _ hv))
def dltb (a b : Dot) : Bool := decide (dlt a b)
def dset (l : List Dot) : List Dot := isort dltb l
theorem dset_eq {l m : List Dot} (hp : m.Perm l) (hs : m.Pairwise (fun x y => ¬ dcmp y x < 0)) : m = dset l := by
  have h2 : (dset l).Pairwise (fun x y => ¬ dcmp y x < 0) := by
    refine (isort_sorted (lt := dltb) ?_ ?_ ?_ l).imp ?_
    · intro x y z h1 h2
      simp only [dltb, decide_eq_true_eq] at *
      exact dlt_trans h1 h2
    · intro x y h1
      simp only [dltb, decide_eq_true_eq, decide_eq_false_iff_not] at *
      exact dlt_asymm h1
    · intro x y z h1 h2
      simp only [dltb, decide_eq_false_iff_not] at *
      unfold dlt at *
      omega
    · intro x y h1
      simp only [dltb, decide_eq_false_iff_not] at h1
      rw [dcmp_neg]
      exact h1
  refine sorted_unique (hp.trans (isort_perm dltb l).symm) hs h2 (fun x _ y _ h1 h2 => ?_)
  rw [dcmp_neg] at h1 h2
  exact dlt_total h2 h1
theorem dset_sorted {l : List Dot} (hn : l.Nodup) : Sorted (dset l) := by
  have h1 := isort_sorted (lt := dltb) (fun x y z h1 h2 => by simp only [dltb, decide_eq_true_eq] at *; exact dlt_trans h1 h2) (fun x y h1 => by simp only [dltb, decide_eq_true_eq, decide_eq_false_iff_not] at *; exact dlt_asymm h1)
    (fun x y z h1 h2 => by simp only [dltb, decide_eq_false_iff_not] at *; unfold dlt at *; omega) l
  have h2 : (dset l).Nodup := (isort_perm dltb l).nodup_iff.2 hn
  exact List.Pairwise.imp₂ (fun a b h1 h2 => by
    simp only [dltb, decide_eq_false_iff_not] at h1
    by_cases h3 : dlt a b
    · exact h3
    · exact absurd (dlt_total h3 h1) h2) h1 h2
theorem dset_perm (l : List Dot) : (dset l).Perm l := isort_perm dltb l
/-! ### deleting -/
theorem flat_take {α : Type} {enc : α → List Value} {k : Nat} (he : ∀ x, (enc x).length = k) : ∀ (l : List α) (i : Nat), (l.flatMap enc).take (i * k) = (l.take i).flatMap enc
  | [], _ => by simp
  | _ :: _, 0 => by simp
  | x :: l, i + 1 => by
    have e : (i + 1) * k = (enc x).length + i * k := by rw [he, Nat.add_mul]; omega
    simp only [List.flatMap_cons, List.take_succ_cons]
    rw [e, List.take_append, List.take_of_length_le (by omega), Nat.add_sub_cancel_left, flat_take he l i]
theorem flat_drop {α : Type} {enc : α → List Value} {k : Nat} (he : ∀ x, (enc x).length = k) : ∀ (l : List α) (i : Nat), (l.flatMap enc).drop (i * k) = (l.drop i).flatMap enc
  | [], _ => by simp
  | _ :: _, 0 => by simp
  | x :: l, i + 1 => by
    have e : (i + 1) * k = (enc x).length + i * k := by rw [he, Nat.add_mul]; omega
    simp only [List.flatMap_cons, List.drop_succ_cons]
    rw [e, List.drop_append, List.drop_of_length_le (by omega), List.nil_append, Nat.add_sub_cancel_left, flat_drop he l i]
theorem split_gx {α : Type} [Inhabited α] (l : List α) {k : Nat} (h : k < l.length) : l = l.take k ++ gx l (k : Int) :: l.drop (k + 1) := by
  conv => lhs; rw [← List.take_append_drop k l]
  rw [drop_gx l h]
theorem idx_filter {α : Type} (p : α → Bool) : ∀ l : List α, 0 ≤ idx p l → (l.take (idx p l + 1).toNat).filter (fun x => !p x) = l.take (idx p l).toNat
  | [], h => by simp [idx] at h
  | x :: l, h => by
    have ih := idx_filter p l
    by_cases hx : p x = true
    · simp [idx, hx]
    · by_cases h0 : idx p l < 0
      · simp [idx, hx, h0] at h
      · have e : idx p (x :: l) = idx p l + 1 := by simp [idx, hx, h0]
        rw [e, show (idx p l + 1 + 1).toNat = (idx p l + 1).toNat + 1 by omega, show (idx p l + 1).toNat = (idx p l).toNat + 1 by omega]
        rw [show (idx p l + 1).toNat = (idx p l).toNat + 1 by omega] at ih
        simp only [List.take_succ_cons, List.filter_cons, hx]
        simp [ih (by omega)]
theorem filter_none {α : Type} (p : α → Bool) {l : List α} (h : l.any p = false) : l.filter (fun x => !p x) = l := by
  rw [List.filter_eq_self]
  intro x hx
  rw [List.any_eq_false] at h
  simpa using h x hx
/-- Between two rounds of deleting: i have been kept of the first j; c is what the row holds. -/
structure Del {α : Type} (p : α → Bool) (l : List α) (i j : Int) (c : List α) : Prop where
  lo : 0 ≤ i
  lt : i < j
  hi : j ≤ l.length
  len : c.length = l.length
  kept : c.take i.toNat = (l.take j.toNat).filter (fun x => !p x)
  rest : c.drop j.toNat = l.drop j.toNat
section
variable {α : Type} [Inhabited α] {p : α → Bool} {l c : List α} {i j : Int}
theorem Del.start (h : 0 ≤ idx p l) : Del p l (idx p l) (idx p l + 1) l :=
  ⟨h, by omega, by have := (idx_bd p l).2; omega, rfl, (idx_filter p l h).symm, rfl⟩
theorem Del.gx (h : Del p l i j c) (hj : j < l.length) : gx c j = gx l j := by
  have h1 := h.rest
  have hl := h.len
  obtain ⟨k, rfl⟩ := Int.eq_ofNat_of_zero_le (show 0 ≤ j by have := h.lo; have := h.lt; omega)
  have hk : k < l.length := by omega
  rw [gx_nat l k hk, gx_nat c k (by omega)]
  have h2 : (c.drop k)[0]? = (l.drop k)[0]? := by
    have : (Int.ofNat k).toNat = k := rfl
    simp only [Int.toNat_natCast] at h1
    rw [h1]
  rw [List.getElem?_drop, List.getElem?_drop, Nat.add_zero, List.getElem?_eq_getElem hk, List.getElem?_eq_getElem (by omega)] at h2
  exact Option.some.inj h2
theorem Del.keep (h : Del p l i j c) (hj : j < l.length) (hp : p (R.gx c j) = false) : Del p l (i + 1) (j + 1) (c.set i.toNat (R.gx c j)) := by
  have hlo := h.lo
  have hlt := h.lt
  have hhi := h.hi
  have hlen := h.len
  refine ⟨by omega, by omega, by omega, by simp [h.len], ?_, ?_⟩
  · have e1 : (i + 1).toNat = i.toNat + 1 := by omega
    have e2 : (j + 1).toNat = j.toNat + 1 := by omega
    have hj2 : ((j.toNat : Nat) : Int) = j := by omega
    rw [e1, e2, take_gx l (by omega), List.filter_append, ← h.kept, hj2, ← h.gx hj]
    have e3 : [R.gx c j].filter (fun x => !p x) = [R.gx c j] := by simp [hp]
    rw [e3, List.take_succ_eq_append_getElem (by simp; omega), List.take_set_of_le (Nat.le_refl _)]
    simp
  · have e2 : (j + 1).toNat = j.toNat + 1 := by omega
    rw [e2, List.drop_set_of_lt (by omega), ← List.drop_drop, ← List.drop_drop, h.rest]
theorem Del.skip (h : Del p l i j c) (hj : j < l.length) (hp : p (R.gx c j) = true) : Del p l i (j + 1) c := by
  have hlo := h.lo
  have hlt := h.lt
  have hlen := h.len
  refine ⟨by omega, by omega, by omega, h.len, ?_, ?_⟩
  · have e2 : (j + 1).toNat = j.toNat + 1 := by omega
    have hj2 : ((j.toNat : Nat) : Int) = j := by omega
    rw [e2, take_gx l (by omega), List.filter_append, ← h.kept, hj2, ← h.gx hj]
    simp [hp]
  · have e2 : (j + 1).toNat = j.toNat + 1 := by omega
    rw [e2, ← List.drop_drop, ← List.drop_drop, h.rest]
theorem Del.done (h : Del p l i j c) (hj : ¬ j < l.length) : c.take i.toNat = l.filter (fun x => !p x) := by
  have hhi := h.hi
  rw [h.kept, List.take_of_length_le (by omega)]
theorem Del.len_done (h : Del p l i j c) (hj : ¬ j < l.length) : i.toNat = (l.filter (fun x => !p x)).length := by
  rw [← h.done hj, List.length_take, h.len]
  have := h.lo
  have := h.lt
  have := h.hi
  omega
end
end Go.R
