/- Plain laws: what the functions of edits return. It speaks of no program. -/
import Derived.Test.YtpbillinpjccdaaGreatRiQ
import Derived.Test.YtpbillinpjccdaaGreatRkQ
set_option linter.unusedVariables false
set_option linter.unusedSimpArgs false
set_option linter.unusedSectionVars false
namespace Go.R
open Go.J
def spanR (s : List Nd) (a n : Int) : Int :=
  if well s = false then 2 else if (visR s).2 ≠ 0 then (visR s).2 else if a < 0 then 3 else if n < 0 then 3 else if ((visR s).1.length : Int) < a then 3 else if ((visR s).1.length : Int) - a < n then 3 else 0
def latest (s : List Nd) : Int := (storeTime s).1
theorem latest_ok {s : List Nd} (h : storeOk s = true) : latest s = maxTime s := by simp [latest, storeTime, h]
/-- The dots of the visible nodes from an index on. -/
def cutK (s : List Nd) (a n : Int) : List Dot := (((visN s).drop a.toNat).take n.toNat).map Nd.d
def deleteR (s : List Nd) (a n : Int) : List Nd × Int :=
  if spanR s a n ≠ 0 then ([], spanR s a n) else if 10000 < n then ([], 5) else (goneF s (cutK s a n), 0)
def busy (s : List Nd) (d : Dot) (l : List Int) : Bool := (List.range l.length).any fun i => decide ((⟨d.r, d.c + (i : Int)⟩ : Dot) ∈ s.map Nd.d)
def parR (s : List Nd) (a : Int) : Dot := if a = 0 then rt else (gx (visN s) (a - 1)).d
def chainR (s : List Nd) (d : Dot) (a : Int) (l : List Int) : List Nd × Int := if busy s d l = true then ([], 11) else (chainF d (parR s a) (maxTime s + 1) l, 0)
def replaceR (s : List Nd) (d : Dot) (a n : Int) (l : List Int) : List Nd × Int :=
  if well s = false ∨ dvalid d = false then ([], 2)
  else if spanR s a n ≠ 0 then ([], spanR s a n)
  else if 10000 < n ∨ 10000 < l.length then ([], 5)
  else if l.any (fun x => !rvalid x) = true then ([], 13)
  else if 4294967295 - (l.length : Int) + 1 < d.c ∨ 4611686018427387904 - (l.length : Int) < maxTime s then ([], 14)
  else if busy s d l = true then ([], 11)
  else (deltaF s (cutK s a n) (parR s a) d l, 0)
def applyR (s delta : List Nd) : List Nd × List Int × Int := if (joinR s delta).2 ≠ 0 then ([], [], (joinR s delta).2) else ((joinR s delta).1, runesOf (joinR s delta).1, 0)
theorem visR_ok {s : List Nd} (h : storeOk s = true) : visR s = (visN s, 0) := if_pos h
theorem spanR_zero {s : List Nd} {a n : Int} (h : spanR s a n = 0) : well s = true ∧ 0 ≤ a ∧ 0 ≤ n ∧ a ≤ (visN s).length ∧ n ≤ ((visN s).length : Int) - a := by
  unfold spanR at h
  split at h
  · cases h
  · rename_i hw
    have hw' : well s = true := by simpa using hw
    rw [visR_ok (well_store hw')] at h
    refine ⟨hw', ?_⟩
    repeat' split at h
    all_goals first | omega | (exfalso; omega) | simp_all
theorem spanR_cases (s : List Nd) (a n : Int) (hw : well s = true) : spanR s a n = if 0 ≤ a ∧ 0 ≤ n ∧ a ≤ (visN s).length ∧ n ≤ ((visN s).length : Int) - a then 0 else 3 := by
  unfold spanR
  rw [if_neg (by simp [hw]), visR_ok (well_store hw), if_neg (by simp)]
  dsimp only
  repeat' split
  all_goals first | rfl | omega
theorem visN_mem {s : List Nd} (h : storeOk s = true) {n : Nd} (hn : n ∈ visN s) : n ∈ s ∧ n.x ≠ 0 ∧ n ∈ order s := by
  unfold visN alive at hn
  obtain ⟨h1, h2⟩ := List.mem_filter.1 hn
  exact ⟨order_mem h h1, by simpa using h2, h1⟩
theorem cutK_sub {s : List Nd} (h : storeOk s = true) (a n : Int) : ∀ d ∈ cutK s a n, ∃ m ∈ s, m.d = d := fun d hd => by
  obtain ⟨m, hm, e⟩ := List.mem_map.1 hd
  exact ⟨m, (visN_mem h (List.mem_of_mem_drop (List.mem_of_mem_take hm))).1, e⟩
theorem visN_dd {s : List Nd} (h : storeOk s = true) : DD (visN s) := (order_dd h).filter _
theorem cutK_nodup {s : List Nd} (h : storeOk s = true) (a n : Int) : (cutK s a n).Nodup :=
  List.Nodup.sublist (List.Sublist.map _ ((List.take_sublist _ _).trans (List.drop_sublist _ _))) (visN_dd h)
theorem cutK_len {s : List Nd} (h : storeOk s = true) (a n : Int) : (cutK s a n).length ≤ s.length := by
  unfold cutK
  rw [List.length_map, List.length_take, List.length_drop]
  have := visN_len h
  omega
theorem killL_ok : ∀ (K : List Dot) (l : List Nd), (∀ d ∈ K, d ∈ l.map Nd.d) → killL l K = some (l.map (killK K))
  | [], l, _ => by
    have : l.map (killK []) = l := by
      conv => rhs; rw [← List.map_id l]
      apply List.map_congr_left
      intro n _
      simp [killK]
    rw [killL, this]
  | d :: K, l, h => by
    rw [killL, if_pos (h d (List.mem_cons_self ..)), killL_ok K (killOne d l) (fun e he => by rw [killOne_d]; exact h e (List.mem_cons_of_mem _ he))]
    congr 1
    unfold killOne
    rw [List.map_map]
    apply List.map_congr_left
    intro n _
    simp only [Function.comp]
    by_cases h1 : n.d = d
    · rw [if_pos h1]
      have e1 : killK K (kill n) = kill n := by
        unfold killK
        split <;> rfl
      rw [e1]
      unfold killK
      rw [if_pos (by simp [h1])]
    · rw [if_neg h1]
      unfold killK
      by_cases h2 : n.d ∈ K
      · rw [if_pos h2, if_pos (List.mem_cons_of_mem _ h2)]
      · rw [if_neg h2, if_neg (by simp [h1, h2])]
theorem killR_ok {s : List Nd} (h : storeOk s = true) {K : List Dot} (hK : ∀ d ∈ K, ∃ m ∈ s, m.d = d) : killR s K = (s.map (killK K), 0) := by
  have h1 : K.any (fun d => !dvalid d) = false := by
    rw [List.any_eq_false]
    intro d hd
    obtain ⟨m, hm, rfl⟩ := hK d hd
    have := storeOk_all h m hm
    simp only [nvalid, decide_eq_true_eq] at this
    simp [this.1]
  unfold killR
  rw [if_neg (by simp [h, h1]), killL_ok K s (fun d hd => by obtain ⟨m, hm, e⟩ := hK d hd; exact List.mem_map.2 ⟨m, hm, e⟩)]
theorem goneF_eq (s : List Nd) (K : List Dot) : (s.map (killK K)).filter (fun n => decide (n.d ∈ K)) = goneF s K := by
  unfold goneF
  rw [List.filter_map]
  have e : ((fun n : Nd => decide (n.d ∈ K)) ∘ killK K) = fun n => decide (n.d ∈ K) := by
    funext n
    simp [Function.comp, killK_d]
  rw [e]
  apply List.map_congr_left
  intro n hn
  have h1 := (List.mem_filter.1 hn).2
  unfold killK
  rw [if_pos (by simpa using h1)]
theorem goneF_nil (s : List Nd) : goneF s [] = [] := by simp [goneF]
theorem cutK_zero (s : List Nd) (a : Int) : cutK s a 0 = [] := by simp [cutK]
theorem dotsR_ok {s : List Nd} {a n : Int} (h : spanR s a n = 0) : dotsR s a (a + n) = (cutK s a n, 0) := by
  obtain ⟨h1, h2, h3, h4, h5⟩ := spanR_zero h
  unfold dotsR
  rw [visR_ok (well_store h1)]
  simp only [ne_eq, not_true_eq_false, if_false]
  rw [if_neg (by omega), if_neg (by omega), if_neg (by omega)]
  unfold cutK
  rw [show (a + n).toNat - a.toNat = n.toNat by omega]
theorem leftR_ok {s : List Nd} (h : storeOk s = true) {a : Int} (h0 : 0 ≤ a) (h1 : a ≤ (visN s).length) : leftR s a = (parR s a, 0) := by
  unfold leftR parR
  rw [visR_ok h]
  simp only [ne_eq, not_true_eq_false, if_false]
  rw [if_neg (by omega), if_neg (by omega)]
  split <;> rfl
theorem parR_par {s : List Nd} (h : storeOk s = true) {a : Int} (h0 : 0 ≤ a) (h1 : a ≤ (visN s).length) : parR s a = rt ∨ ∃ n ∈ s, n.d = parR s a := by
  unfold parR
  split
  · exact .inl rfl
  · exact .inr ⟨_, (visN_mem h (gx_mem (by omega) (by omega))).1, rfl⟩
theorem busy_false {s : List Nd} {d : Dot} {l : List Int} (h : busy s d l = false) : ∀ n ∈ s, ∀ i : Nat, i < l.length → n.d ≠ ⟨d.r, d.c + i⟩ := fun n hn i hi e => by
  unfold busy at h
  rw [List.any_eq_false] at h
  have := h i (List.mem_range.2 hi)
  simp only [decide_eq_true_eq] at this
  exact this (List.mem_map.2 ⟨n, hn, e⟩)
theorem busy_iff {s : List Nd} {d : Dot} {l : List Int} {k : Nat} (hk : k < l.length) (h : (⟨d.r, d.c + (k : Int)⟩ : Dot) ∈ s.map Nd.d) : busy s d l = true := by
  unfold busy
  rw [List.any_eq_true]
  exact ⟨k, List.mem_range.2 hk, decide_eq_true h⟩
theorem busy_none {s : List Nd} {d : Dot} {l : List Int} (h : ∀ i, i < l.length → ¬ (⟨d.r, d.c + (i : Int)⟩ : Dot) ∈ s.map Nd.d) : busy s d l = false := by
  unfold busy
  rw [List.any_eq_false]
  intro i hi
  simpa using h i (List.mem_range.1 hi)
/-- What the guards of an edit come to. -/
theorem replace_ed {s : List Nd} {d : Dot} {a n : Int} {l : List Int} (hd : dvalid d = true) (hs : spanR s a n = 0) (hr : ¬ l.any (fun x => !rvalid x) = true) (hc : ¬ (4294967295 - (l.length : Int) + 1 < d.c ∨ 4611686018427387904 - (l.length : Int) < maxTime s)) (hb : busy s d l = false) :
    Ed s (cutK s a n) (parR s a) d l := by
  obtain ⟨h1, h2, h3, h4, h5⟩ := spanR_zero hs
  refine ⟨h1, hd, by omega, by omega, ?_, busy_false hb, parR_par (well_store h1) h2 h4⟩
  intro x hx
  by_cases hq : rvalid x = true
  · exact hq
  · exact absurd (List.any_eq_true.2 ⟨x, hx, by simpa using hq⟩) hr
theorem Ed.join {s : List Nd} {K : List Dot} {p d : Dot} {l : List Int} (h : Ed s K p d l) : joinR (goneF s K) (chainF d p (maxTime s + 1) l) = (deltaF s K p d l, 0) := by
  have h1 : storeOk (goneF s K) = true := by
    simp only [storeOk, Bool.and_eq_true, List.all_eq_true, decide_eq_true_eq]
    refine ⟨fun n hn => ?_, goneF_sd h.sd K⟩
    obtain ⟨m, hm, rfl⟩ := List.mem_map.1 hn
    exact nvalid_kill (storeOk_all (well_store h.well) m (List.mem_filter.1 hm).1)
  have h2 : storeOk (chainF d p (maxTime s + 1) l) = true := by
    simp only [storeOk, Bool.and_eq_true, List.all_eq_true, decide_eq_true_eq]
    exact ⟨h.chain_valid, chainF_sd l d p _⟩
  unfold joinR
  rw [if_neg (by simp [h1, h2]), if_pos h.agree1]
  rfl
theorem jn_ok {a b : List Nd} (ha : storeOk a = true) (hb : storeOk b = true) (h : agree a b = true) : storeOk (jn a b) = true := by
  have sa := storeOk_sorted ha
  have sb := storeOk_sorted hb
  simp only [storeOk, Bool.and_eq_true, List.all_eq_true, decide_eq_true_eq]
  refine ⟨fun n hn => ?_, jn_sd sa sb h⟩
  have h1 := (jn_mem sa sb h n).1 hn
  cases hx : get a n.d with
  | none =>
    rw [hx] at h1
    cases hy : get b n.d with
    | none => rw [hy] at h1; cases h1
    | some y =>
      rw [hy] at h1
      simp only [comb, Option.some.injEq] at h1
      subst h1
      exact storeOk_all hb _ (get_some hy).1
  | some x =>
    rw [hx] at h1
    have hxa := (get_some hx).1
    cases hy : get b n.d with
    | none =>
      rw [hy] at h1
      simp only [comb, Option.some.injEq] at h1
      subst h1
      exact storeOk_all ha _ hxa
    | some y =>
      rw [hy] at h1
      simp only [comb, Option.some.injEq] at h1
      have hj : (jmg x y).2 = true := agree_iff.1 h x hxa y (get_some hy).1 ((get_some hx).2.trans (get_some hy).2.symm)
      rw [jmg_eq hj] at h1
      subst h1
      have hv := storeOk_all ha x hxa
      simp only [nvalid, decide_eq_true_eq] at hv ⊢
      refine ⟨hv.1, hv.2.1, hv.2.2.1, hv.2.2.2.1, hv.2.2.2.2.1, ?_⟩
      split
      · exact .inl rfl
      · exact hv.2.2.2.2.2
theorem joinR_ok {a b : List Nd} (h : (joinR a b).2 = 0) : storeOk (joinR a b).1 = true := by
  unfold joinR at *
  split at h
  · cases h
  · rename_i h1
    simp only [not_or, Bool.not_eq_false] at h1
    split at h
    · rename_i h2
      rw [if_neg (by simp [h1]), if_pos h2]
      exact jn_ok h1.1 h1.2 h2
    · cases h
theorem firstE_zero : ∀ {l : List Int}, firstE l = 0 ↔ ∀ e ∈ l, e = 0
  | [] => by simp [firstE]
  | e :: l => by
    simp only [firstE, List.mem_cons, forall_eq_or_imp]
    split
    · rename_i h
      rw [firstE_zero]
      simp [h]
    · rename_i h
      simp [h]
theorem mono_id {l : List Dot} (hs : Sorted l) (d : Dot) : Mono (fun x => dcmp x d) l := mono_sorted (f := id) (by simpa using hs) d
theorem bsf_id {l : List Dot} (hs : Sorted l) (d : Dot) : bsf (fun x => dcmp x d) l = decide (d ∈ l) := by
  have := bsf_sorted (f := id) (l := l) (by simpa using hs) d
  simpa using this
theorem dset_mem {l : List Dot} {d : Dot} : d ∈ dset l ↔ d ∈ l := (dset_perm l).mem_iff
theorem filter_take {α : Type} [Inhabited α] (p : α → Bool) (l : List α) {k : Nat} (h : k < l.length) : (l.take (k + 1)).filter p = (l.take k).filter p ++ if p (gx l (k : Int)) = true then [gx l (k : Int)] else [] := by
  rw [take_gx l h, List.filter_append]
  split <;> rename_i h1 <;> simp [h1]
theorem chain_take {d p : Dot} {t : Int} {l : List Int} {k : Nat} (h : k < l.length) : (chainF d p t l).take (k + 1) = (chainF d p t l).take k ++ [chainN d p t l k] := by
  have h1 : k < (chainF d p t l).length := by rw [chainF_len]; exact h
  have h2 := chainF_get l d p t k h
  rw [List.getElem?_eq_getElem h1] at h2
  rw [List.take_succ_eq_append_getElem h1, Option.some.inj h2]
section
variable {s : List Nd} {d : Dot} {a n : Int} {l : List Int} {b1 b3 b5 : Bool}
theorem latest_nonneg (s : List Nd) : 0 ≤ latest s := by
  unfold latest storeTime
  split
  · exact maxTime_nonneg s
  · exact Int.le_refl _
theorem goneF_len (s : List Nd) (K : List Dot) : (goneF s K).length ≤ s.length := by
  unfold goneF
  rw [List.length_map]
  exact List.length_filter_le _ _
theorem replace_facts (h : firstE [whenE b1 2, spanR s a n, whenE b3 5, whenE (l.any (fun x => !rvalid x)) 13, whenE b5 14] = 0) (h1 : b1 = (!well s || !dvalid d)) (h3 : b3 = (decide (10000 < n) || decide (10000 < (l.length : Int))))
    (h5 : b5 = (decide (4294967295 - (l.length : Int) + 1 < d.c) || decide (4611686018427387904 - (l.length : Int) < latest s))) :
    spanR s a n = 0 ∧ dvalid d = true ∧ ¬ (10000 < n ∨ 10000 < l.length) ∧ ¬ l.any (fun x => !rvalid x) = true ∧ ¬ (4294967295 - (l.length : Int) + 1 < d.c ∨ 4611686018427387904 - (l.length : Int) < maxTime s) := by
  have hz := firstE_zero.1 h
  simp only [List.mem_cons, List.not_mem_nil, or_false, forall_eq_or_imp, forall_eq] at hz
  obtain ⟨z1, z2, z3, z4, z5⟩ := hz
  have k1 : b1 = false := by cases b1; rfl; simp [whenE] at z1
  have k3 : b3 = false := by cases b3; rfl; simp [whenE] at z3
  have k5 : b5 = false := by cases b5; rfl; simp [whenE] at z5
  rw [k1] at h1
  rw [k3] at h3
  rw [k5] at h5
  have hw := (spanR_zero z2).1
  rw [latest_ok (well_store hw)] at h5
  have e1 := h1.symm
  have e3 := h3.symm
  have e5 := h5.symm
  simp only [Bool.or_eq_false_iff, decide_eq_false_iff_not, Bool.not_eq_false'] at e1 e3 e5
  refine ⟨z2, e1.2, by omega, ?_, by omega⟩
  intro hq
  rw [hq] at z4
  simp [whenE] at z4
theorem replace_err (h : ¬ firstE [whenE b1 2, spanR s a n, whenE b3 5, whenE (l.any (fun x => !rvalid x)) 13, whenE b5 14] = 0) (h1 : b1 = (!well s || !dvalid d)) (h3 : b3 = (decide (10000 < n) || decide (10000 < (l.length : Int))))
    (h5 : b5 = (decide (4294967295 - (l.length : Int) + 1 < d.c) || decide (4611686018427387904 - (l.length : Int) < latest s))) :
    replaceR s d a n l = ([], firstE [whenE b1 2, spanR s a n, whenE b3 5, whenE (l.any (fun x => !rvalid x)) 13, whenE b5 14]) := by
  unfold replaceR
  cases b1 with
  | true =>
    have e1 := h1.symm
    simp only [Bool.or_eq_true, Bool.not_eq_true'] at e1
    rw [if_pos e1]
    simp [firstE, whenE]
  | false =>
    have e1 := h1.symm
    simp only [Bool.or_eq_false_iff, Bool.not_eq_false'] at e1
    rw [if_neg (by simp [e1])]
    by_cases hz : spanR s a n = 0
    · rw [if_neg (by simp [hz])]
      have hw := (spanR_zero hz).1
      rw [latest_ok (well_store hw)] at h5
      cases b3 with
      | true =>
        have e3 := h3.symm
        simp only [Bool.or_eq_true, decide_eq_true_eq] at e3
        rw [if_pos (by omega)]
        simp [firstE, whenE, hz]
      | false =>
        have e3 := h3.symm
        simp only [Bool.or_eq_false_iff, decide_eq_false_iff_not] at e3
        rw [if_neg (by omega)]
        cases ha : l.any (fun x => !rvalid x) with
        | true =>
          rw [if_pos rfl]
          simp [firstE, whenE, hz]
        | false =>
          rw [if_neg (by simp)]
          cases b5 with
          | true =>
            have e5 := h5.symm
            simp only [Bool.or_eq_true, decide_eq_true_eq] at e5
            rw [if_pos e5]
            simp [firstE, whenE, hz]
          | false =>
            exact absurd (by simp [firstE, whenE, hz, ha]) h
    · rw [if_pos hz]
      simp [firstE, whenE, hz]
end
theorem jn_len : ∀ (b a : List Nd), (jn a b).length ≤ a.length + b.length
  | [], a => by simp [jn_nil]
  | n :: b, a => by
    rw [jn_cons]
    have h1 : ∀ a : List Nd, (put1 a n).length ≤ a.length + 1 := by
      intro a
      induction a with
      | nil => simp [put1]
      | cons m a ih =>
        simp only [put1]
        split
        · simp
        · split <;> simp <;> omega
    have := jn_len b (put1 a n)
    have := h1 a
    simp only [List.length_cons]
    omega
theorem deleteR_len (s : List Nd) (a n : Int) : (deleteR s a n).1.length ≤ s.length := by
  unfold deleteR
  split
  · simp
  · split
    · simp
    · exact goneF_len _ _
theorem replaceR_len (s : List Nd) (d : Dot) (a n : Int) (l : List Int) : (replaceR s d a n l).1.length ≤ s.length + l.length := by
  unfold replaceR
  repeat' split
  all_goals first | (simp; done) | skip
  unfold deltaF
  have h1 := jn_len (chainF d (parR s a) (maxTime s + 1) l) (goneF s (cutK s a n))
  have h2 := goneF_len s (cutK s a n)
  rw [chainF_len] at h1
  dsimp only
  omega
theorem joinR_len (a b : List Nd) : (joinR a b).1.length ≤ a.length + b.length := by
  have key : ∀ (b a : List Nd), (jn a b).length ≤ a.length + b.length := by
    intro b
    induction b with
    | nil => intro a; simp [jn_nil]
    | cons n b ih =>
      intro a
      rw [jn_cons]
      have h1 : ∀ a : List Nd, (put1 a n).length ≤ a.length + 1 := by
        intro a
        induction a with
        | nil => simp [put1]
        | cons m a ih => simp only [put1]; split; · simp
                         · split <;> simp <;> omega
      have := ih (put1 a n)
      have := h1 a
      simp only [List.length_cons]
      omega
  unfold joinR
  split
  · simp
  · split
    · exact key b a
    · simp
end Go.R
