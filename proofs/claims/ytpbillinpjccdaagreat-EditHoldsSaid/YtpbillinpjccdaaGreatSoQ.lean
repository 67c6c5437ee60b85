/- Sorting: the shelf's contract of slices.SortFunc, in the words of the calculus. It speaks of no program. -/
import Derived.Test.YtpbillinpjccdaaGreatRaQ
import Derived.Shelf.SlSortCmp.NoneTotal
set_option linter.unusedVariables false
set_option linter.unusedSimpArgs false
set_option linter.unusedSectionVars false
namespace Go.J
open Go.RowKit Go.R Go.Sort Go.Shelf Go.Proofs
theorem flatK_list {α : Type} [Inhabited α] {enc : α → List Value} {k : Nat} (hk : ∀ x, (enc x).length = k) (d : Array α) : (flatK enc k d).toList = d.toList.flatMap enc := by
  apply List.ext_getElem?
  intro t
  by_cases ht : t < d.size * k
  · have k0 : 0 < k := by rcases Nat.eq_zero_or_pos k with h | h; · subst h; simp at ht
                          · exact h
    have hq : t / k < d.size := (Nat.div_lt_iff_lt_mul k0).2 ht
    have hm : t % k < k := Nat.mod_lt t k0
    have e1 : (flatK enc k d).toList[t]? = some ((enc d[t / k]!)[t % k]!) := by
      have h1 := get_flatK enc k d t ht
      have hs : t < (flatK enc k d).size := by rw [size_flatK]; exact ht
      rw [getElem!_pos _ t hs] at h1
      rw [Array.getElem?_toList, Array.getElem?_eq_getElem hs, h1]
    have e2 := flat_at (enc := enc) (k := k) hk d.toList (t / k) (by simpa using hq)
    have e3 : (((d.toList.flatMap enc).drop (t / k * k)).take k)[t % k]? = (d.toList.flatMap enc)[t]? := by
      rw [List.getElem?_take, if_pos hm, List.getElem?_drop]
      congr 1
      exact Nat.div_add_mod' t k
    rw [e1, ← e3, e2]
    have hlen : t % k < (enc d.toList[t / k]).length := by rw [hk]; exact hm
    rw [List.getElem?_eq_getElem hlen]
    have e4 : d[t / k]! = d.toList[t / k] := by rw [getElem!_pos d _ hq]; simp
    rw [e4, getElem!_pos (enc d.toList[t / k]) (t % k) hlen]
  · rw [List.getElem?_eq_none, List.getElem?_eq_none]
    · rw [flat_len hk]; simpa using ht
    · simpa using ht
/-- A world of which nothing has turned below its size, but for the draws. -/
theorem Hold.grow_eq {w w' : World} {h : List En} (hw : Hold w [] h w') : ∃ q os, w' = grow (w.drewN q) os := by
  refine ⟨w'.drawn - w.drawn, (w'.heap.toList.drop w.heap.size).toArray, ?_⟩
  have hh : w'.heap = w.heap ++ (w'.heap.toList.drop w.heap.size).toArray := by
    apply Array.ext_getElem?
    intro i
    rcases Nat.lt_or_ge i w.heap.size with h1 | h1
    · rw [Array.getElem?_append_left h1]
      exact hw.old i h1 (by simp)
    · rw [Array.getElem?_append_right h1]
      simp only [List.getElem?_toArray, List.getElem?_drop]
      rw [show w.heap.size + (i - w.heap.size) = i by omega]
      simp
  have h1 := hw.os
  have h2 := hw.tape
  have h3 := hw.output
  have h4 := hw.drawn
  cases w'
  cases w
  simp only at h1 h2 h3 h4 hh
  simp only [grow, World.drewN, World.mk.injEq]
  exact ⟨hh, h2, by omega, h1, h3⟩
section
variable {P : Program} {ρ : Ren} {α : Type} [Inhabited α]
theorem sortW {enc : α → List Value} {k : Nat} (hk : ∀ x, (enc x).length = k) {w : World} {g cap E m : Nat} {os : Array Obj} {l : List α} {d : Array α} {cur : Array Value} (hg : w.heap[g]? = some (.cells cur E (0, 0))) (hn : l.length ≤ cap) (hcap : cap ≤ maxLen) (hcs : cur.size = cap * k) (hd : d.size = l.length) :
    Hold w [g] [En.row (some ⟨g, 0, none⟩) d.toList.length cap E k (d.toList.flatMap enc)] (sortWorldK enc k w g 0 m d os) := by
  have hlt : g < w.heap.size := (Array.getElem?_eq_some_iff.1 hg).1
  have hheap : (sortWorldK enc k w g 0 m d os).heap = w.heap.modify g (onCells (putCells id 0 (flatK enc k d))) ++ os := rfl
  have hgg : (sortWorldK enc k w g 0 m d os).heap[g]? = some (.cells (putCells id 0 (flatK enc k d) cur) E (0, 0)) := by
    rw [hheap, Array.getElem?_append_left (by simpa using hlt), Array.getElem?_modify, if_pos rfl, hg]
    rfl
  have hsz : (putCells id 0 (flatK enc k d) cur).size = cap * k := by simp [putCells, hcs]
  have hle : d.size * k ≤ cap * k := Nat.mul_le_mul_right k (by omega)
  refine ⟨rfl, rfl, rfl, Nat.le_add_right _ _, ?_, ?_, ?_, ?_, by simp⟩
  · rw [hheap]
    simp
  · intro j hj hjm
    rw [hheap, Array.getElem?_append_left (by simpa using hj), Array.getElem?_modify, if_neg (fun e => hjm (by simp [e]))]
  · intro en hen
    obtain rfl : en = _ := by simpa using hen
    refine ⟨_, hgg, by rw [flat_len hk, Array.length_toList], .inr ⟨g, _, rfl, rfl, by simpa using (by omega : d.size ≤ cap), hcap, hsz, ?_⟩⟩
    rw [← flatK_list hk]
    apply List.ext_getElem?
    intro t
    rw [List.getElem?_take]
    split
    · rename_i ht
      have h1 : t < (flatK enc k d).size := by simpa using ht
      have h2 : t < cur.size := by omega
      simp only [Array.getElem?_toList, putCells, Array.getElem?_mapIdx, Array.getElem?_eq_getElem h2, Option.map_some, Array.getElem?_eq_getElem h1]
      rw [if_pos ⟨Nat.zero_le _, by simpa using h1⟩]
      have e9 := getElem!_pos (flatK enc k d) t h1
      simpa using e9
    · rename_i ht
      symm
      rw [List.getElem?_eq_none]
      simpa using ht
  · intro en hen b hb
    obtain rfl : en = _ := by simpa using hen
    have : b = g := by simpa [En.row, eq_comm] using hb
    exact .inl (by simp [this])
/-- **slices.SortFunc on a row of the call's own.** -/
theorem sortCt (L : SlLaysF0.n6 P ρ) (k : Nat) (aE : ∀ w, (isAgg (ρ.t 24)).run P w = .ok true w) (zE : ∀ w, (Go.sizeOf (ρ.t 24)).run P w = .ok k w) (enc : α → List Value) (hk : ∀ x, (enc x).length = k) (h1 : ∀ x, ∀ v ∈ enc x, v.oneCell' = true) (cf : α → α → Int) (hO : SWO (ltOf cf)) (g : Nat)
    (eg : ∀ args w, (callFunc g args).run P w = .ok (.enter g args) w) (hcmp : ∀ x y W, Ct P g #[.agg (enc x).toArray, .agg (enc y).toArray] [] W (fun u hs => u = .int .i64 (cf x y) ∧ hs = [])) (l : List α) (A : Option Addr) (cap E : Nat) (hl : l.length ≤ 1000000) (w : World) :
    Ct P (ρ.f 6) #[.slice A l.length cap, .func (.func g) #[] #[]] [En.row A l.length cap E k (l.flatMap enc)] w (fun u hs => u = .tuple #[] ∧ ∃ l' : List α, l'.Perm l ∧ l'.Pairwise (fun x y => ¬ cf y x < 0) ∧ hs = [En.row A l'.length cap E k (l'.flatMap enc)]) := by
  intro hw
  have hent := hw.ents _ (List.mem_cons_self ..)
  obtain ⟨hx, hr⟩ := row_own hent
  rcases hr with ⟨e, hn0⟩ | ⟨b, cap', cur, e1, _, hg, h3, h4, h5, h6⟩
  · have hl0 : l = [] := List.eq_nil_of_length_eq_zero hn0
    subst hl0
    refine (AnyF.slices_SortFunc_none L A cap (.func (.func g) #[] #[]) w).mono fun e w' ⟨he, hww⟩ => ?_
    subst hww
    exact ⟨_, [_], he, hw, rfl, [], .refl _, .nil, rfl⟩
  · injection e1 with e1 e2 e3
    subst e1
    subst e3
    have hlt : b < w.heap.size := (Array.getElem?_eq_some_iff.1 hg).1
    have hH : HoldsK enc k w b 0 l.toArray := by
      intro j hj
      have hj' : j < l.length * k := by simpa using hj
      have hle : l.length * k ≤ cap * k := Nat.mul_le_mul_right k h3
      have hjc : j < cur.size := by omega
      have e4 : cur[j] = (flatK enc k l.toArray)[j]! := by
        have h7 : cur.toList[j]? = (l.flatMap enc)[j]? := by
          rw [← h6, List.getElem?_take, if_pos hj']
        have h8 := flatK_list hk l.toArray
        rw [show l.toArray.toList = l from by simp] at h8
        rw [← h8] at h7
        simp only [Array.getElem?_toList, Array.getElem?_eq_getElem hjc, Array.getElem?_eq_getElem hj, Option.some.injEq] at h7
        rw [h7, getElem!_pos _ j hj]
      constructor
      · simp [World.cell?, hg, hjc, e4]
      · simp [World.frozen?, hg]
    have hC : CmpLays P g #[] enc k cf b 0 l.toArray.size w := fun m os dk hs x y =>
      (hcmp x y _ (Hold.nil _ _)).mono fun e w' ⟨v, hs', he, hh, hv, hhs⟩ => ⟨by rw [he, hv], Hold.grow_eq hh⟩
    refine (AnyQ.slices_SortFunc L k aE zE enc hk h1 cf hO g #[] b 0 cap l.toArray w eg hC hH hlt (by simp; omega)).mono fun e w' ⟨he, d', n, os, hp, hs, hww⟩ => ?_
    have hd : d'.size = l.length := by simpa using hp.1
    have hperm : d'.toList.Perm l := by
      have h7 := hp.2.2
      simp only [List.size_toArray] at h7
      rw [← hd] at h7
      have h8 : (l.toArray.extract 0 d'.size).toList = l := by rw [hd]; simp
      rw [h8] at h7
      simpa using h7
    refine ⟨.tuple #[], [En.row (some ⟨b, 0, none⟩) d'.toList.length cap E k (d'.toList.flatMap enc)], he, ?_, rfl, d'.toList, hperm, ?_, rfl⟩
    · rw [hww]
      exact sortW hk hg h3 h4 (by simpa using h5) hd
    · refine List.pairwise_iff_getElem.2 fun i j hi hj hij => ?_
      have h7 := hs i j (Nat.zero_le _) hij (by simpa [hd] using hj)
      rw [getElem!_pos d' i (by simpa using hi), getElem!_pos d' j (by simpa using hj)] at h7
      simpa [ltOf] using h7
end
theorem swo_dcmp : SWO (ltOf dcmp) where
  irrefl x := by simp only [ltOf, decide_eq_false_iff_not, dcmp_neg]; exact dlt_irrefl x
  trans x y z h1 h2 := by simp only [ltOf, decide_eq_true_eq, dcmp_neg] at *; exact dlt_trans h1 h2
  ntrans x y z h1 h2 := by simp only [ltOf, decide_eq_false_iff_not, dcmp_neg] at *; unfold dlt at *; omega
end Go.J
