/- Plain laws: joins by dots; the order of a tree as a relation. It speaks of no program. -/
import Derived.Test.YtpbillinpjccdaaGreatRgQ
set_option linter.unusedVariables false
set_option linter.unusedSimpArgs false
set_option linter.unusedSectionVars false
namespace Go.R
open Go.J
/-! ### what a sorted list has at a dot -/
def get (l : List Nd) (d : Dot) : Option Nd := l.find? fun n => decide (n.d = d)
theorem get_some {l : List Nd} {d : Dot} {n : Nd} (h : get l d = some n) : n ∈ l ∧ n.d = d := by
  have h1 := List.mem_of_find?_eq_some h
  have h2 := List.find?_some h
  exact ⟨h1, by simpa using h2⟩
theorem get_none {l : List Nd} {d : Dot} : get l d = none ↔ ∀ n ∈ l, n.d ≠ d := by
  unfold get
  rw [List.find?_eq_none]
  simp
theorem get_mem {l : List Nd} (h : DD l) {n : Nd} (hn : n ∈ l) : get l n.d = some n := by
  cases hg : get l n.d with
  | none => exact absurd rfl (get_none.1 hg n hn)
  | some m =>
    obtain ⟨h1, h2⟩ := get_some hg
    rw [h.inj h1 hn h2]
theorem get_iff {l : List Nd} (h : DD l) {n : Nd} {d : Dot} : get l d = some n ↔ n ∈ l ∧ n.d = d :=
  ⟨get_some, fun ⟨h1, h2⟩ => by subst h2; exact get_mem h h1⟩
theorem get_cons (m : Nd) (l : List Nd) (d : Dot) : get (m :: l) d = if m.d = d then some m else get l d := by
  unfold get
  rw [List.find?_cons]
  split <;> rename_i h <;> simp_all
theorem Sd.dd {l : List Nd} (h : Sd l) : DD l := .of_sorted h
theorem Sd.nodup {l : List Nd} (h : Sd l) : l.Nodup := h.dd.nodup
theorem perm_of_mem {α : Type} [DecidableEq α] {a b : List α} (ha : a.Nodup) (hb : b.Nodup) (h : ∀ x, x ∈ a ↔ x ∈ b) : a.Perm b := (List.perm_ext_iff_of_nodup ha hb).2 h
theorem sd_ext {a b : List Nd} (ha : Sd a) (hb : Sd b) (h : ∀ d, get a d = get b d) : a = b := by
  have hm : ∀ x, x ∈ a ↔ x ∈ b := fun x => by
    have h1 := get_iff ha.dd (n := x) (d := x.d)
    have h2 := get_iff hb.dd (n := x) (d := x.d)
    rw [h x.d] at h1
    constructor
    · intro hx
      exact (h2.1 (h1.2 ⟨hx, rfl⟩)).1
    · intro hx
      exact (h1.1 (h2.2 ⟨hx, rfl⟩)).1
  have ha' : a.Pairwise (fun x y => dlt x.d y.d) := List.pairwise_map.1 ha
  have hb' : b.Pairwise (fun x y => dlt x.d y.d) := List.pairwise_map.1 hb
  exact sorted_unique (perm_of_mem ha.nodup hb.nodup hm) ha' hb' fun x _ y _ h1 h2 => absurd h2 (dlt_asymm h1)
/-- What two lists have together at a dot. -/
def comb : Option Nd → Option Nd → Option Nd
  | none, y => y
  | x, none => x
  | some x, some y => some (jmg x y).1
theorem comb_none (x : Option Nd) : comb x none = x := by cases x <;> rfl
theorem get_put1 {a : List Nd} {n : Nd} (hs : Sd a) (hag : ∀ m ∈ a, m.d = n.d → (jmg m n).2 = true) (d : Dot) : get (put1 a n) d = if n.d = d then comb (get a d) (some n) else get a d := by
  induction a with
  | nil =>
    simp only [put1, get_cons]
    rfl
  | cons m a ih =>
    have ih' := ih hs.tail (fun x hx => hag x (List.mem_cons_of_mem _ hx))
    simp only [put1]
    split
    · rename_i e
      have hj := jmg_d (hag m (List.mem_cons_self ..) e)
      rw [get_cons, get_cons, hj.1]
      by_cases h : m.d = d
      · rw [if_pos h, if_pos h, if_pos (by rw [← e]; exact h)]
        rfl
      · rw [if_neg h, if_neg h, if_neg (by rw [← e]; exact h)]
    · rename_i e
      split
      · rename_i hl
        rw [get_cons, get_cons]
        by_cases h : n.d = d
        · subst h
          rw [if_pos rfl, if_pos rfl, if_neg e]
          have : get a n.d = none := get_none.2 fun x hx he => by
            have := hs.head x hx
            rw [he] at this
            exact dlt_asymm hl this
          rw [this]
          rfl
        · rw [if_neg h, if_neg h]
      · rw [get_cons, get_cons, ih']
        by_cases h : m.d = d
        · rw [if_pos h, if_pos h, if_neg (fun h2 => e (h.trans h2.symm))]
        · rw [if_neg h, if_neg h]
theorem agree_cons_r {a : List Nd} {n : Nd} {b : List Nd} (hs : Sd a) (hb : Sd (n :: b)) (h : agree a (n :: b) = true) : (∀ m ∈ a, m.d = n.d → (jmg m n).2 = true) ∧ agree (put1 a n) b = true := by
  have h0 := agree_iff.1 h
  have h1 : ∀ m ∈ a, m.d = n.d → (jmg m n).2 = true := fun m hm e => h0 m hm n (List.mem_cons_self ..) e
  refine ⟨h1, agree_iff.2 fun x hx m hm e => ?_⟩
  rcases put1_mem_d h1 x hx with h2 | h2
  · have := hb.head m hm
    rw [← e, h2] at this
    exact absurd this (dlt_irrefl _)
  · exact h0 x h2 m (List.mem_cons_of_mem _ hm) e
theorem jn_sd : ∀ {b a : List Nd}, Sd a → Sd b → agree a b = true → Sd (jn a b)
  | [], a, ha, _, _ => ha
  | n :: b, a, ha, hb, h => by
    obtain ⟨h1, h2⟩ := agree_cons_r ha hb h
    rw [jn_cons]
    exact jn_sd (put1_sd ha h1) hb.tail h2
theorem get_jn : ∀ {b a : List Nd}, Sd a → Sd b → agree a b = true → ∀ d, get (jn a b) d = comb (get a d) (get b d)
  | [], a, _, _, _, d => (comb_none _).symm
  | n :: b, a, ha, hb, h, d => by
    obtain ⟨h1, h2⟩ := agree_cons_r ha hb h
    rw [jn_cons, get_jn (put1_sd ha h1) hb.tail h2 d, get_put1 ha h1, get_cons]
    by_cases e : n.d = d
    · subst e
      have : get b n.d = none := get_none.2 fun x hx he => by
        have := hb.head x hx
        rw [he] at this
        exact dlt_irrefl _ this
      rw [if_pos rfl, if_pos rfl, this, comb_none]
    · rw [if_neg e, if_neg e]
theorem jmg_comm {a b : Nd} (h : (jmg a b).2 = true) : (jmg b a).2 = true ∧ (jmg b a).1 = (jmg a b).1 := by
  obtain ⟨_, h1, h2, h3, h4⟩ := jmg_d h
  have h5 : (jmg b a).2 = true := by
    rw [jmg_ok, decide_eq_true_eq]
    exact ⟨h1.symm, h2.symm, h3.symm, by rcases h4 with r | r | r; exact .inr (.inl r); exact .inl r; exact .inr (.inr r.symm)⟩
  refine ⟨h5, ?_⟩
  rw [jmg_eq h, jmg_eq h5, h1, h2, h3]
  congr 1
  split
  · rename_i hx
    split
    · rfl
    · exact hx.symm
  · rename_i hx
    split
    · rename_i hy
      exact hy
    · rename_i hy
      rcases h4 with r | r | r
      · exact absurd r hx
      · exact absurd r hy
      · exact r.symm
theorem agree_comm {a b : List Nd} (h : agree a b = true) : agree b a = true :=
  agree_iff.2 fun n hn m hm e => (jmg_comm (agree_iff.1 h m hm n hn e.symm)).1
theorem jn_comm {a b : List Nd} (ha : Sd a) (hb : Sd b) (h : agree a b = true) : jn a b = jn b a := by
  refine sd_ext (jn_sd ha hb h) (jn_sd hb ha (agree_comm h)) fun d => ?_
  rw [get_jn ha hb h, get_jn hb ha (agree_comm h)]
  cases hx : get a d with
  | none => cases hy : get b d <;> rfl
  | some x =>
    cases hy : get b d with
    | none => rfl
    | some y =>
      obtain ⟨h1, h2⟩ := get_some hx
      obtain ⟨h3, h4⟩ := get_some hy
      simp only [comb]
      rw [(jmg_comm (agree_iff.1 h x h1 y h3 (h2.trans h4.symm))).2]
theorem jn_mem {a b : List Nd} (ha : Sd a) (hb : Sd b) (h : agree a b = true) (n : Nd) : n ∈ jn a b ↔ comb (get a n.d) (get b n.d) = some n := by
  have h1 := get_iff (jn_sd ha hb h).dd (n := n) (d := n.d)
  rw [get_jn ha hb h] at h1
  exact ⟨fun hn => h1.2 ⟨hn, rfl⟩, fun hn => (h1.1 hn).1⟩
/-! ### the order as a relation -/
inductive Walk (l : List Nd) : List Nd → List Nd → Prop
  | nil : Walk l [] []
  | cons {n : Nd} {st out : List Nd} : Walk l (kids l n.d ++ st) out → Walk l (n :: st) (n :: out)
theorem Walk.uniq {l st a b : List Nd} (h : Walk l st a) : Walk l st b → a = b := by
  induction h generalizing b with
  | nil => intro k; cases k; rfl
  | cons _ ih => intro k; cases k with | cons k => rw [ih k]
theorem Visit.walk {l : List Nd} (hd : DD l) (hr : ∀ n ∈ l, n.d ≠ rt) : ∀ (k : Nat) {out st : List Nd}, l.length - out.length = k → Visit l out st → Walk l st (ordF l k st)
  | 0, out, st, hk, h => by
    have := h.len
    have hst : st = [] := List.eq_nil_of_length_eq_zero (by omega)
    subst hst
    exact .nil
  | k + 1, out, st, hk, h => by
    cases st with
    | nil => exact .nil
    | cons n st =>
      have h1 := h.step hd hr
      exact .cons (Visit.walk hd hr k (by simp; omega) h1)
theorem order_walk {l : List Nd} (h : storeOk l = true) : Walk l (kids l rt) (order l) := by
  have h1 := Visit.walk (storeOk_dd h) (storeOk_rt h) l.length (out := []) (by simp) (Visit.start (storeOk_dd h))
  exact h1
theorem walk_order {l out : List Nd} (h : storeOk l = true) (hw : Walk l (kids l rt) out) : out = order l := hw.uniq (order_walk h)
/-- The nodes that have been visited, none twice. -/
theorem order_visit {l : List Nd} (h : storeOk l = true) : Visit l (order l) [] := by
  have key : ∀ (k : Nat) {out st : List Nd}, l.length - out.length = k → Visit l out st → ∃ o, Visit l o [] := by
    intro k
    induction k with
    | zero =>
      intro out st hk hv
      have := hv.len
      have hst : st = [] := List.eq_nil_of_length_eq_zero (by omega)
      subst hst
      exact ⟨_, hv⟩
    | succ k ih =>
      intro out st hk hv
      cases st with
      | nil => exact ⟨_, hv⟩
      | cons n st => exact ih (by simp; omega) (hv.step (storeOk_dd h) (storeOk_rt h))
  obtain ⟨o, ho⟩ := key l.length (out := []) (by simp) (Visit.start (storeOk_dd h))
  exact ho.done ▸ ho
theorem order_nodup {l : List Nd} (h : storeOk l = true) : (order l).Nodup := by simpa using (order_visit h).nd
theorem order_mem {l : List Nd} (h : storeOk l = true) {n : Nd} (hn : n ∈ order l) : n ∈ l := (order_visit h).mem n (by simpa using hn)
theorem order_dd {l : List Nd} (h : storeOk l = true) : DD (order l) := by
  refine List.pairwise_map.2 ?_
  have h1 := order_nodup h
  have h2 : (order l).Pairwise (fun a b => a ∈ order l ∧ b ∈ order l ∧ a ≠ b) := List.Pairwise.imp_of_mem (fun ha hb hab => ⟨ha, hb, hab⟩) h1
  exact h2.imp fun ⟨ha, hb, hab⟩ e => hab ((storeOk_dd h).inj (order_mem h ha) (order_mem h hb) e)
end Go.R
