/- Plain laws: children as the reference orders them, flaws, well-formed lists, visible nodes. It speaks of no program. -/
import Derived.Test.YtpbillinpjccdaaGreatReQ
import Derived.Test.YtpbillinpjccdaaGreatRfQ
set_option linter.unusedVariables false
set_option linter.unusedSimpArgs false
set_option linter.unusedSectionVars false
namespace Go.R
open Go.J
/-! ### children, as the reference has them -/
def kins (out : List Nd) (n : Nd) : List Nd := out.takeWhile (fun m => nfirst m n) ++ n :: out.dropWhile (fun m => nfirst m n)
theorem takeWhile_all {α : Type} {p : α → Bool} : ∀ {l : List α} {x : α}, x ∈ l.takeWhile p → p x = true
  | [], _, h => by cases h
  | y :: l, x, h => by
    rw [List.takeWhile_cons] at h
    split at h
    · rename_i hy
      rcases List.mem_cons.1 h with rfl | h
      · exact hy
      · exact takeWhile_all h
    · cases h
theorem dropWhile_head {α : Type} {p : α → Bool} : ∀ {l : List α} {x : α} {r : List α}, l.dropWhile p = x :: r → p x = false
  | [], _, _, h => by cases h
  | y :: l, x, r, h => by
    rw [List.dropWhile_cons] at h
    split at h
    · exact dropWhile_head h
    · rename_i hy
      injection h with h1 h2
      subst h1
      simpa using hy
theorem kins_perm (out : List Nd) (n : Nd) : (kins out n).Perm (n :: out) := by
  unfold kins
  refine List.perm_middle.trans ?_
  rw [List.takeWhile_append_dropWhile]
theorem kins_nsorted {out : List Nd} (h : nsorted out) (n : Nd) : nsorted (kins out n) := by
  unfold kins nsorted
  have hsub := List.takeWhile_append_dropWhile (p := fun m => nfirst m n) (l := out)
  have h' : (out.takeWhile (fun m => nfirst m n) ++ out.dropWhile (fun m => nfirst m n)).Pairwise (fun a b => nfirst b a = false) := by rw [hsub]; exact h
  obtain ⟨h1, h2, h3⟩ := List.pairwise_append.1 h'
  have hd : ∀ x ∈ out.dropWhile (fun m => nfirst m n), nfirst x n = false := by
    intro x hx
    cases hq : out.dropWhile (fun m => nfirst m n) with
    | nil => rw [hq] at hx; cases hx
    | cons y r =>
      have hy := dropWhile_head hq
      rw [hq] at hx h2
      rcases List.mem_cons.1 hx with rfl | hx
      · exact hy
      · exact nfirst_ntrans hy ((List.pairwise_cons.1 h2).1 x hx)
  refine List.pairwise_append.2 ⟨h1, List.pairwise_cons.2 ⟨hd, h2⟩, fun a ha b hb => ?_⟩
  rcases List.mem_cons.1 hb with rfl | hb
  · exact nfirst_asymm (takeWhile_all (p := fun m => nfirst m b) ha)
  · exact h3 a ha b hb
theorem foldl_kins : ∀ (l : List Nd) {out : List Nd}, nsorted out → nsorted (l.foldl kins out) ∧ (l.foldl kins out).Perm (l ++ out)
  | [], out, h => ⟨h, .refl _⟩
  | n :: l, out, h => by
    obtain ⟨h1, h2⟩ := foldl_kins l (kins_nsorted h n)
    refine ⟨h1, h2.trans ?_⟩
    exact ((kins_perm out n).append_left l).trans (by rw [List.cons_append]; exact List.perm_middle)
def kidsJ (l : List Nd) (d : Dot) : List Nd := (l.filter fun n => decide (n.p = d)).foldl kins []
theorem kidsJ_eq {l : List Nd} (h : DD l) (d : Dot) : kidsJ l d = kids l d := by
  obtain ⟨h1, h2⟩ := foldl_kins (l.filter fun n => decide (n.p = d)) (out := []) List.Pairwise.nil
  exact isort_unique (h.filter _) (by simpa [kidsJ] using h2) h1
theorem kidsJ_take (l : List Nd) (d : Dot) {k : Nat} (h : k < l.length) : kidsJ (l.take (k + 1)) d = if (gx l (k : Int)).p = d then kins (kidsJ (l.take k) d) (gx l (k : Int)) else kidsJ (l.take k) d := by
  unfold kidsJ
  rw [take_gx l h, List.filter_append, List.foldl_append]
  split
  · rename_i e
    simp [e]
  · rename_i e
    simp [e]
theorem kidsJ_len (l : List Nd) (d : Dot) : (kidsJ l d).length ≤ l.length := by
  have h2 := (foldl_kins (l.filter fun n => decide (n.p = d)) (out := []) List.Pairwise.nil).2.length_eq
  simp only [List.append_nil] at h2
  unfold kidsJ
  rw [h2]
  exact List.length_filter_le _ _
/-! ### flaws -/
def fnd (l : List Nd) (d : Dot) : Int := idx (fun n => decide (n.d = d)) l
/-- The flaw of the node with an index. -/
def flawN (l : List Nd) (i : Nat) : Int :=
  if nvalid (gx l i) = false then 1
  else if 0 < i ∧ ¬ dlt (gx l ((i : Int) - 1)).d (gx l i).d then 2
  else if droot (gx l i).p = true then 0
  else if fnd l (gx l i).p < 0 then 3
  else if (gx l i).t ≤ (gx l (fnd l (gx l i).p)).t then 4
  else 0
def faultsTo (l : List Nd) (k : Nat) : List (Int × Int) := ((List.range k).map fun i : Nat => ((i : Int), flawN l i)).filter fun p => decide (p.2 ≠ 0)
def faults (l : List Nd) : List (Int × Int) := faultsTo l l.length
def well (l : List Nd) : Bool := storeOk l && l.all fun n => droot n.p || (decide (0 ≤ fnd l n.p) && decide ((gx l (fnd l n.p)).t < n.t))
theorem faultsTo_succ (l : List Nd) (k : Nat) : faultsTo l (k + 1) = faultsTo l k ++ if flawN l k = 0 then [] else [((k : Int), flawN l k)] := by
  unfold faultsTo
  rw [List.range_succ, List.map_append, List.filter_append]
  split <;> rename_i h <;> simp [h]
theorem faultsTo_len (l : List Nd) (k : Nat) : (faultsTo l k).length ≤ k := by
  unfold faultsTo
  refine Nat.le_trans (List.length_filter_le _ _) ?_
  simp
theorem faultsTo_nil {l : List Nd} {k : Nat} : faultsTo l k = [] ↔ ∀ i, i < k → flawN l i = 0 := by
  unfold faultsTo
  rw [List.filter_eq_nil_iff]
  constructor
  · intro h i hi
    have := h (((i : Nat) : Int), flawN l i) (List.mem_map.2 ⟨i, List.mem_range.2 hi, rfl⟩)
    simpa using this
  · intro h p hp
    obtain ⟨i, hi, rfl⟩ := List.mem_map.1 hp
    simp [h i (List.mem_range.1 hi)]
theorem sorted_of_steps {l : List Nd} (h : ∀ i : Nat, 0 < i → i < l.length → dlt (gx l ((i : Int) - 1)).d (gx l i).d) : Sd l := by
  have key : ∀ k, k ≤ l.length → Sd (l.take k) := by
    intro k
    induction k with
    | zero => intro _; simp [Sd, Sorted]
    | succ k ih =>
      intro hk
      have h0 := ih (by omega)
      have hlt : k < l.length := by omega
      rw [take_gx l hlt]
      unfold Sd Sorted
      rw [List.map_append]
      refine List.pairwise_append.2 ⟨h0, by simp, fun x hx y hy => ?_⟩
      obtain rfl : y = (gx l (k : Int)).d := by simpa using hy
      rcases Nat.eq_zero_or_pos k with h9 | h9
      · subst h9; simp at hx
      · obtain ⟨j, rfl⟩ : ∃ j, k = j + 1 := ⟨k - 1, by omega⟩
        have hs := h (j + 1) (by omega) hlt
        rw [show ((j + 1 : Nat) : Int) - 1 = (j : Int) by omega] at hs
        rw [take_gx l (by omega), List.map_append] at hx
        rcases List.mem_append.1 hx with hx | hx
        · have h0' := h0
          rw [take_gx l (by omega)] at h0'
          unfold Sd Sorted at h0'
          rw [List.map_append] at h0'
          exact dlt_trans ((List.pairwise_append.1 h0').2.2 x hx _ (by simp)) hs
        · obtain rfl : x = (gx l (j : Int)).d := by simpa using hx
          exact hs
  have := key l.length (Nat.le_refl _)
  rwa [List.take_length] at this
theorem sd_gx {l : List Nd} (h : Sd l) {i j : Nat} (hij : i < j) (hj : j < l.length) : dlt (gx l (i : Int)).d (gx l (j : Int)).d := by
  rw [gx_nat l i (by omega), gx_nat l j hj]
  have := List.pairwise_iff_getElem.1 h i j (by simp; omega) (by simpa using hj) hij
  simpa using this
theorem well_iff {l : List Nd} : well l = decide (faults l = []) := by
  rw [Bool.eq_iff_iff, decide_eq_true_eq]
  unfold faults
  rw [faultsTo_nil]
  simp only [well, storeOk, Bool.and_eq_true, List.all_eq_true, decide_eq_true_eq, Bool.or_eq_true]
  constructor
  · rintro ⟨⟨hv, hs⟩, hp⟩ i hi
    have hm : gx l (i : Int) ∈ l := gx_mem (by omega) (by omega)
    have h1 := hv _ hm
    have h2 := hp _ hm
    unfold flawN
    rw [if_neg (by simp [h1])]
    have h3 : ¬ (0 < i ∧ ¬ dlt (gx l ((i : Int) - 1)).d (gx l i).d) := by
      rintro ⟨h4, h5⟩
      have := sd_gx hs (i := i - 1) (j := i) (by omega) hi
      rw [show ((i - 1 : Nat) : Int) = (i : Int) - 1 by omega] at this
      exact h5 this
    rw [if_neg h3]
    split
    · rfl
    · rename_i h6
      rcases h2 with h2 | h2
      · exact absurd h2 h6
      · rw [if_neg (by omega), if_neg (by omega)]
  · intro h
    have hv : ∀ n ∈ l, nvalid n = true := by
      intro n hn
      obtain ⟨i, hi, rfl⟩ := List.getElem_of_mem hn
      have := h i hi
      unfold flawN at this
      rw [gx_nat l i hi] at this
      by_cases hq : nvalid l[i] = false
      · rw [if_pos hq] at this; cases this
      · simpa using hq
    refine ⟨⟨hv, sorted_of_steps fun i h0 hi => ?_⟩, fun n hn => ?_⟩
    · have := h i hi
      unfold flawN at this
      rw [if_neg (by simp [hv _ (gx_mem (l := l) (i := (i : Int)) (by omega) (by omega))])] at this
      by_cases hq : dlt (gx l ((i : Int) - 1)).d (gx l i).d
      · exact hq
      · rw [if_pos ⟨h0, hq⟩] at this; cases this
    · obtain ⟨i, hi, rfl⟩ := List.getElem_of_mem hn
      have := h i hi
      unfold flawN at this
      rw [gx_nat l i hi] at this
      rw [if_neg (by simp [hv _ hn])] at this
      by_cases h3 : droot l[i].p = true
      · exact .inl h3
      · refine .inr ?_
        split at this
        · cases this
        · by_cases h4 : fnd l l[i].p < 0
          · rw [if_pos h4] at this; cases this
          · rw [if_neg h4] at this
            by_cases h5 : l[i].t ≤ (gx l (fnd l l[i].p)).t
            · rw [if_pos h5] at this; cases this
            · omega
theorem well_store {l : List Nd} (h : well l = true) : storeOk l = true := by
  simp only [well, Bool.and_eq_true] at h
  exact h.1
/-! ### visible nodes -/
def alive (l : List Nd) : List Nd := l.filter fun n => decide (n.x ≠ 0)
def visN (l : List Nd) : List Nd := alive (order l)
def runesOf (l : List Nd) : List Int := (visN l).map Nd.x
/-- 'walk.Order', 'index.visible', 'index.Runes'. -/
def orderR (l : List Nd) : List Nd × Int := if storeOk l = true then (order l, 0) else ([], 2)
theorem order_len {l : List Nd} (h : storeOk l = true) : (order l).length ≤ l.length := by
  have key : ∀ (f : Nat) (st : List Nd), (ordF l f st).length ≤ f := by
    intro f
    induction f with
    | zero => intro st; simp [ordF]
    | succ f ih =>
      intro st
      cases st with
      | nil => simp [ordF]
      | cons n st => simp only [ordF, List.length_cons]; have := ih (kids l n.d ++ st); omega
  exact key _ _
theorem visN_len {l : List Nd} (h : storeOk l = true) : (visN l).length ≤ l.length := Nat.le_trans (List.length_filter_le _ _) (order_len h)
end Go.R
