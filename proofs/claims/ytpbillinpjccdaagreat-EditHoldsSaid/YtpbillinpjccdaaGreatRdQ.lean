/- Plain laws: families of nodes, the order of a tree. It speaks of no program. -/
import Derived.Test.YtpbillinpjccdaaGreatRcQ
set_option linter.unusedVariables false
set_option linter.unusedSimpArgs false
set_option linter.unusedSectionVars false
namespace Go.R
open Go.J
theorem nfirst_trans {a b c : Nd} (h : nfirst a b = true) (k : nfirst b c = true) : nfirst a c = true := by
  simp only [nfirst, decide_eq_true_eq] at h k ⊢
  unfold dlt at *
  omega
theorem nfirst_asymm {a b : Nd} (h : nfirst a b = true) : nfirst b a = false := by
  simp only [nfirst, decide_eq_true_eq, decide_eq_false_iff_not] at h ⊢
  unfold dlt at *
  omega
theorem nfirst_ntrans {a b c : Nd} (h : nfirst b a = false) (k : nfirst c b = false) : nfirst c a = false := by
  simp only [nfirst, decide_eq_false_iff_not] at h k ⊢
  unfold dlt at *
  omega
theorem nfirst_total {a b : Nd} (h : nfirst a b = false) (k : nfirst b a = false) : a.d = b.d := by
  simp only [nfirst, decide_eq_false_iff_not] at h k
  unfold dlt at *
  rw [Dot.eq_iff]
  omega
/-- The children of a dot, in their order. -/
def kids (l : List Nd) (d : Dot) : List Nd := isort nfirst (l.filter fun n => decide (n.p = d))
def nsorted (l : List Nd) : Prop := l.Pairwise fun a b => nfirst b a = false
theorem isort_nsorted (l : List Nd) : nsorted (isort nfirst l) := isort_sorted (lt := nfirst) (fun _ _ _ h k => nfirst_trans h k) (fun _ _ h => nfirst_asymm h) (fun _ _ _ h k => nfirst_ntrans h k) l
/-- No two nodes have one dot. -/
def DD (l : List Nd) : Prop := (l.map Nd.d).Nodup
theorem DD.inj {l : List Nd} (h : DD l) {a b : Nd} (ha : a ∈ l) (hb : b ∈ l) (e : a.d = b.d) : a = b := by
  obtain ⟨i, hi, rfl⟩ := List.getElem_of_mem ha
  obtain ⟨j, hj, rfl⟩ := List.getElem_of_mem hb
  have hij : i = j := by
    have := (List.getElem_inj (xs := l.map Nd.d) (i := i) (j := j) (h₀ := by simpa using hi) (h₁ := by simpa using hj) h).1 (by simpa using e)
    exact this
  subst hij
  rfl
theorem DD.of_sorted {l : List Nd} (h : Sorted (l.map Nd.d)) : DD l := h.imp fun {a b} hab e => by
  subst e
  exact dlt_irrefl _ hab
theorem DD.filter {l : List Nd} (h : DD l) (q : Nd → Bool) : DD (l.filter q) := List.Nodup.sublist (List.Sublist.map _ List.filter_sublist) h
theorem isort_unique {l m : List Nd} (h : DD l) (hp : m.Perm l) (hs : nsorted m) : m = isort nfirst l :=
  sorted_unique (hp.trans (isort_perm nfirst l).symm) hs (isort_nsorted l) fun x hx y hy h1 h2 => h.inj (hp.mem_iff.1 hx) (hp.mem_iff.1 hy) (nfirst_total h2 h1)
theorem kids_mem {l : List Nd} {d : Dot} {n : Nd} : n ∈ kids l d ↔ n ∈ l ∧ n.p = d := by
  rw [kids, (isort_perm nfirst _).mem_iff, List.mem_filter]
  simp
/-! ### families -/
structure Fam where
  k : Dot
  A : Option Addr
  c : Nat
  ns : List Nd
instance : Inhabited Fam := ⟨⟨default, none, 0, []⟩⟩
def Fam.ent (f : Fam) : Ent := ⟨f.k, f.A, f.ns.length, f.c⟩
abbrev Fam.row (N : Nat) (f : Fam) : En := En.row f.A f.ns.length f.c N 6 (f.ns.flatMap nc)
abbrev ents (fs : List Fam) : List Ent := fs.map Fam.ent
theorem gx_map {α β : Type} [Inhabited α] [Inhabited β] (f : α → β) (l : List α) {i : Nat} (h : i < l.length) : gx (l.map f) (i : Int) = f (gx l (i : Int)) := by
  rw [gx_nat _ i (by simpa using h), gx_nat l i h, List.getElem_map]
/-- What lies under a key. -/
def under (fs : List Fam) (d : Dot) : List Nd := if mhas (ents fs) d = true then (gx fs (mpos (ents fs) d : Int)).ns else []
/-- The families of the first nodes. -/
structure Fo (l : List Nd) (fs : List Fam) : Prop where
  sorted : ksorted (ents fs)
  ns : ∀ f ∈ fs, f.ns = l.filter fun n => decide (n.p = f.k)
  ne : ∀ f ∈ fs, f.ns ≠ []
  all : ∀ n ∈ l, n.p ∈ fs.map Fam.k
theorem Fo.nil : Fo [] [] := ⟨List.Pairwise.nil, by simp, by simp, by simp⟩
theorem ents_k (fs : List Fam) : (ents fs).map Ent.k = fs.map Fam.k := by simp [ents, Fam.ent, Function.comp]
theorem mhas_iff {l : List Ent} (hs : ksorted l) (d : Dot) : mhas l d = decide (d ∈ l.map Ent.k) := bsf_sorted (f := Ent.k) hs d
theorem Fo.under {l : List Nd} {fs : List Fam} (h : Fo l fs) (d : Dot) : under fs d = l.filter fun n => decide (n.p = d) := by
  unfold R.under
  rw [mhas_iff h.sorted]
  split
  · rename_i hd
    have hd' : mhas (ents fs) d = true := by rw [mhas_iff h.sorted]; exact hd
    obtain ⟨h1, h2⟩ := mhas_lt hd'
    have h1' : mpos (ents fs) d < fs.length := by simpa using h1
    rw [gx_map Fam.ent fs h1'] at h2
    rw [h.ns _ (gx_mem (by omega) (by omega))]
    congr 1
    funext n
    rw [show (gx fs (mpos (ents fs) d : Int)).k = d from h2]
  · rename_i hd
    have hd' : d ∉ fs.map Fam.k := by rw [← ents_k]; simpa using hd
    symm
    rw [List.filter_eq_nil_iff]
    intro n hn hp
    exact hd' (by have := h.all n hn; simpa [show n.p = d by simpa using hp] using this)
/-- The families behind a 'Set'. -/
def fput (fs : List Fam) (f : Fam) : List Fam := if mhas (ents fs) f.k = true then fs.set (mpos (ents fs) f.k) f else fs.take (mpos (ents fs) f.k) ++ f :: fs.drop (mpos (ents fs) f.k)
theorem fput_ents (fs : List Fam) (f : Fam) : ents (fput fs f) = mput (ents fs) f.ent := by
  unfold fput mput
  have e : f.ent.k = f.k := rfl
  rw [e]
  split
  · simp [ents, List.map_set]
  · simp [ents, List.map_take, List.map_drop]
theorem mem_fput {fs : List Fam} {f g : Fam} (h : g ∈ fput fs f) : g = f ∨ g ∈ fs := by
  unfold fput at h
  split at h
  · rcases List.mem_or_eq_of_mem_set h with h | h
    · exact .inr h
    · exact .inl h
  · rcases List.mem_append.1 h with h | h
    · exact .inr (List.mem_of_mem_take h)
    · rcases List.mem_cons.1 h with h | h
      · exact .inl h
      · exact .inr (List.mem_of_mem_drop h)
theorem Fo.put {l : List Nd} {fs : List Fam} (h : Fo l fs) (n : Nd) (A : Option Addr) (c : Nat) : Fo (l ++ [n]) (fput fs ⟨n.p, A, c, R.under fs n.p ++ [n]⟩) := by
  have hk := fput_ents fs ⟨n.p, A, c, R.under fs n.p ++ [n]⟩
  have hs : ksorted (ents (fput fs ⟨n.p, A, c, R.under fs n.p ++ [n]⟩)) := by rw [hk]; exact mput_sorted h.sorted _
  have hkeys : ∀ d, d ∈ (fput fs ⟨n.p, A, c, R.under fs n.p ++ [n]⟩).map Fam.k ↔ d = n.p ∨ d ∈ fs.map Fam.k := by
    intro d
    unfold fput
    split
    · rename_i hm
      obtain ⟨h1, h2⟩ := mhas_lt hm
      have h1' : mpos (ents fs) n.p < fs.length := by simpa using h1
      rw [gx_map Fam.ent fs h1', gx_nat fs _ h1'] at h2
      have h2' : (fs[mpos (ents fs) n.p]).k = n.p := h2
      constructor
      · intro hd
        obtain ⟨g, hg, rfl⟩ := List.mem_map.1 hd
        rcases List.mem_or_eq_of_mem_set hg with hg | rfl
        · exact .inr (List.mem_map_of_mem hg)
        · exact .inl rfl
      · intro hd
        have hd' : d ∈ fs.map Fam.k := by
          rcases hd with rfl | hd
          · rw [← h2']
            exact List.mem_map_of_mem (List.getElem_mem _)
          · exact hd
        obtain ⟨g, hg, rfl⟩ := List.mem_map.1 hd'
        obtain ⟨j, hj, rfl⟩ := List.getElem_of_mem hg
        by_cases e : j = mpos (ents fs) n.p
        · subst e
          exact List.mem_map.2 ⟨⟨n.p, A, c, R.under fs n.p ++ [n]⟩, List.mem_iff_getElem.2 ⟨mpos (ents fs) n.p, by simpa using h1', by simp⟩, h2'.symm⟩
        · exact List.mem_map.2 ⟨fs[j], List.mem_iff_getElem.2 ⟨j, by simpa using hj, by simp [List.getElem_set, Ne.symm e]⟩, rfl⟩
    · simp only [List.map_append, List.map_cons, List.mem_append, List.mem_cons]
      constructor
      · rintro (hd | hd | hd)
        · obtain ⟨g, hg, rfl⟩ := List.mem_map.1 hd
          exact .inr (List.mem_map_of_mem (List.mem_of_mem_take hg))
        · exact .inl hd
        · obtain ⟨g, hg, rfl⟩ := List.mem_map.1 hd
          exact .inr (List.mem_map_of_mem (List.mem_of_mem_drop hg))
      · rintro (hd | hd)
        · exact .inr (.inl hd)
        · rw [← List.take_append_drop (mpos (ents fs) n.p) fs, List.map_append, List.mem_append] at hd
          rcases hd with hd | hd
          · exact .inl hd
          · exact .inr (.inr hd)
  refine ⟨hs, ?_, ?_, ?_⟩
  · intro g hg
    rcases mem_fput hg with rfl | hg'
    · simp only [h.under, List.filter_append]
      simp
    · by_cases e : g.k = n.p
      · -- the key is there once
        have hin : g = ⟨n.p, A, c, R.under fs n.p ++ [n]⟩ := by
          have hf : (⟨n.p, A, c, R.under fs n.p ++ [n]⟩ : Fam) ∈ fput fs ⟨n.p, A, c, R.under fs n.p ++ [n]⟩ := by
            unfold fput
            split
            · rename_i hm
              have h1 := (mhas_lt hm).1
              exact List.mem_iff_getElem.2 ⟨mpos (ents fs) n.p, by simpa using h1, by simp⟩
            · exact List.mem_append_right _ (List.mem_cons_self ..)
          obtain ⟨i, hi, rfl⟩ := List.getElem_of_mem hg
          obtain ⟨j, hj, e2⟩ := List.getElem_of_mem hf
          have hij : i = j := by
            have hpw := List.pairwise_iff_getElem.1 hs
            rcases Nat.lt_trichotomy i j with h9 | h9 | h9
            · have := hpw i j (by simpa using hi) (by simpa using hj) h9
              simp only [List.getElem_map, e2, Fam.ent] at this
              rw [e] at this
              exact absurd this (dlt_irrefl _)
            · exact h9
            · have := hpw j i (by simpa using hj) (by simpa using hi) h9
              simp only [List.getElem_map, e2, Fam.ent] at this
              rw [e] at this
              exact absurd this (dlt_irrefl _)
          subst hij
          exact e2
        rw [hin]
        simp only [h.under, List.filter_append]
        simp
      · rw [h.ns g hg', List.filter_append]
        simp [Ne.symm e]
  · intro g hg
    rcases mem_fput hg with rfl | hg'
    · simp
    · exact h.ne g hg'
  · intro m hm
    rw [hkeys]
    rcases List.mem_append.1 hm with hm | hm
    · exact .inr (h.all m hm)
    · exact .inl (by have : m = n := by simpa using hm
                     rw [this])
end Go.R
