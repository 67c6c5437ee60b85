/- Plain laws: joins of lists of nodes. It speaks of no program. -/
import Derived.Test.YtpbillinpjccdaaGreatRdQ
set_option linter.unusedVariables false
set_option linter.unusedSimpArgs false
set_option linter.unusedSectionVars false
namespace Go.R
open Go.J
/-- The reference's merge of two nodes, and whether they agree. -/
def jmg (a b : Nd) : Nd × Bool := if a.d ≠ b.d ∨ a.p ≠ b.p ∨ a.t ≠ b.t ∨ (a.x ≠ 0 ∧ b.x ≠ 0 ∧ a.x ≠ b.x) then (zn, false) else if b.x = 0 then (b, true) else (a, true)
def put1 : List Nd → Nd → List Nd
  | [], n => [n]
  | m :: a, n => if m.d = n.d then (jmg m n).1 :: a else if dlt n.d m.d then n :: m :: a else m :: put1 a n
def jn (a b : List Nd) : List Nd := b.foldl put1 a
def agree (a b : List Nd) : Bool := a.all fun n => b.all fun m => decide (n.d ≠ m.d) || (jmg n m).2
/-- The program's join. -/
def joinR (a b : List Nd) : List Nd × Int := if storeOk a = false ∨ storeOk b = false then ([], 2) else if agree a b = true then (jn a b, 0) else ([], 15)
abbrev Sd (l : List Nd) : Prop := Sorted (l.map Nd.d)
theorem Sd.cons {n : Nd} {l : List Nd} : Sd (n :: l) ↔ (∀ m ∈ l, dlt n.d m.d) ∧ Sd l := by
  simp only [Sd, Sorted, List.map_cons, List.pairwise_cons, List.mem_map, forall_exists_index, and_imp, forall_apply_eq_imp_iff₂]
theorem Sd.head {n : Nd} {l : List Nd} (h : Sd (n :: l)) : ∀ m ∈ l, dlt n.d m.d := (Sd.cons.1 h).1
theorem Sd.tail {n : Nd} {l : List Nd} (h : Sd (n :: l)) : Sd l := (Sd.cons.1 h).2
theorem jmg_d {a b : Nd} (h : (jmg a b).2 = true) : (jmg a b).1.d = a.d ∧ a.d = b.d ∧ a.p = b.p ∧ a.t = b.t ∧ (a.x = 0 ∨ b.x = 0 ∨ a.x = b.x) := by
  unfold jmg at *
  split at h
  · cases h
  · rename_i hc
    simp only [ne_eq, not_or, Classical.not_not, not_and] at hc
    obtain ⟨h1, h2, h3, h4⟩ := hc
    rw [if_neg (by simp only [ne_eq, not_or, Classical.not_not, not_and]; exact ⟨h1, h2, h3, h4⟩)]
    refine ⟨?_, h1, h2, h3, ?_⟩
    · split
      · exact h1.symm
      · rfl
    · by_cases hx : a.x = 0
      · exact .inl hx
      · by_cases hy : b.x = 0
        · exact .inr (.inl hy)
        · exact .inr (.inr (h4 hx hy))
theorem jmg_ok {a b : Nd} : (jmg a b).2 = decide (a.d = b.d ∧ a.p = b.p ∧ a.t = b.t ∧ (a.x = 0 ∨ b.x = 0 ∨ a.x = b.x)) := by
  cases h : (jmg a b).2 with
  | true => exact (decide_eq_true (jmg_d h).2).symm
  | false =>
    refine (decide_eq_false ?_).symm
    rintro ⟨h1, h2, h3, h4⟩
    unfold jmg at h
    rw [if_neg (by simp only [ne_eq, not_or, Classical.not_not, not_and]; exact ⟨h1, h2, h3, fun p q => by rcases h4 with r | r | r <;> first | exact absurd r p | exact absurd r q | exact r⟩)] at h
    split at h <;> cases h
/-- A merged node: all but the rune is as in both; the rune is none if one has none. -/
theorem jmg_eq {a b : Nd} (h : (jmg a b).2 = true) : (jmg a b).1 = ⟨a.d, a.p, a.t, if b.x = 0 then 0 else a.x⟩ := by
  obtain ⟨_, h1, h2, h3, _⟩ := jmg_d h
  unfold jmg at *
  split at h
  · cases h
  · rename_i hc
    rw [if_neg hc]
    split
    · rename_i hx
      rw [Nd.eq_iff]
      exact ⟨h1.symm, h2.symm, h3.symm, hx⟩
    · rfl
theorem nmerge_jmg {a b : Nd} (ha : nvalid a = true) (hb : nvalid b = true) (hd : a.d = b.d) : nmerge a b = if (jmg a b).2 = true then ((jmg a b).1, 0) else (zn, 15) := by
  unfold nmerge
  rw [if_neg (by simp [ha, hb])]
  have key : (kill a ≠ kill b ∨ (a ≠ b ∧ a.x ≠ 0 ∧ b.x ≠ 0)) ↔ ¬ (jmg a b).2 = true := by
    rw [jmg_ok]
    simp only [decide_eq_true_eq, kill, ne_eq, Nd.eq_iff, hd, true_and, and_true]
    by_cases h1 : a.p = b.p <;> by_cases h2 : a.t = b.t <;> by_cases h3 : a.x = 0 <;> by_cases h4 : b.x = 0 <;> by_cases h5 : a.x = b.x <;> simp_all
  by_cases h : (jmg a b).2 = true
  · rw [if_neg (by rw [key]; simp [h]), if_pos h]
    unfold jmg at *
    split at h
    · cases h
    · rename_i hc
      rw [if_neg hc]
      split <;> rfl
  · rw [if_pos (key.2 h), if_neg h]
/-! ### put -/
theorem put1_snoc {a : List Nd} {n : Nd} (h : ∀ m ∈ a, dlt m.d n.d) : put1 a n = a ++ [n] := by
  induction a with
  | nil => rfl
  | cons m a ih =>
    have hm := h m (List.mem_cons_self ..)
    have h1 : ¬ m.d = n.d := fun e => by rw [e] at hm; exact dlt_irrefl _ hm
    simp only [put1, if_neg h1, if_neg (dlt_asymm hm), ih (fun x hx => h x (List.mem_cons_of_mem _ hx)), List.cons_append]
theorem jn_nil (a : List Nd) : jn a [] = a := rfl
theorem jn_cons (a : List Nd) (n : Nd) (b : List Nd) : jn a (n :: b) = jn (put1 a n) b := rfl
theorem jn_pass {c : Nd} : ∀ {b a : List Nd}, (∀ m ∈ b, dlt c.d m.d) → jn (c :: a) b = c :: jn a b
  | [], a, _ => rfl
  | m :: b, a, h => by
    have hm := h m (List.mem_cons_self ..)
    have h1 : ¬ c.d = m.d := fun e => by rw [e] at hm; exact dlt_irrefl _ hm
    rw [jn_cons, jn_cons]
    simp only [put1, if_neg h1, if_neg (dlt_asymm hm)]
    exact jn_pass fun x hx => h x (List.mem_cons_of_mem _ hx)
theorem jn_snoc : ∀ {b a : List Nd}, Sd (a ++ b) → jn a b = a ++ b
  | [], a, _ => by simp [jn_nil]
  | n :: b, a, h => by
    have e : a ++ n :: b = (a ++ [n]) ++ b := by simp
    have h1 : ∀ m ∈ a, dlt m.d n.d := fun m hm => by
      have := List.pairwise_append.1 (show (List.map Nd.d a ++ List.map Nd.d (n :: b)).Pairwise dlt by rw [← List.map_append]; exact h)
      exact this.2.2 _ (List.mem_map_of_mem hm) _ (by simp)
    rw [jn_cons, put1_snoc h1, e]
    exact jn_snoc (by rw [← e]; exact h)
theorem jn_nil_l {b : List Nd} (h : Sd b) : jn [] b = b := by simpa using jn_snoc (a := []) (by simpa using h)
theorem jn_lt {a0 b0 : Nd} {a b : List Nd} (hb : Sd (b0 :: b)) (h : dlt a0.d b0.d) : jn (a0 :: a) (b0 :: b) = a0 :: jn a (b0 :: b) :=
  jn_pass fun m hm => by
    rcases List.mem_cons.1 hm with rfl | hm
    · exact h
    · exact dlt_trans h (hb.head m hm)
theorem jn_gt {a0 b0 : Nd} {a b : List Nd} (hb : Sd (b0 :: b)) (h : dlt b0.d a0.d) : jn (a0 :: a) (b0 :: b) = b0 :: jn (a0 :: a) b := by
  have h1 : ¬ a0.d = b0.d := fun e => by rw [e] at h; exact dlt_irrefl _ h
  rw [jn_cons]
  simp only [put1, if_neg h1, if_pos h]
  exact jn_pass fun m hm => hb.head m hm
theorem jn_eq {a0 b0 : Nd} {a b : List Nd} (hb : Sd (b0 :: b)) (h : (jmg a0 b0).2 = true) : jn (a0 :: a) (b0 :: b) = (jmg a0 b0).1 :: jn a b := by
  obtain ⟨h1, h2, _⟩ := jmg_d h
  rw [jn_cons]
  simp only [put1, if_pos h2]
  exact jn_pass fun m hm => by rw [h1, h2]; exact hb.head m hm
theorem agree_nil_r (a : List Nd) : agree a [] = true := by simp [agree]
theorem agree_iff {a b : List Nd} : agree a b = true ↔ ∀ n ∈ a, ∀ m ∈ b, n.d = m.d → (jmg n m).2 = true := by
  simp only [agree, List.all_eq_true, Bool.or_eq_true, decide_eq_true_eq]
  exact ⟨fun h n hn m hm e => (h n hn m hm).resolve_left (fun hne => hne e), fun h n hn m hm => (Classical.em (n.d = m.d)).elim (fun e => .inr (h n hn m hm e)) .inl⟩
theorem agree_lt {a0 b0 : Nd} {a b : List Nd} (hb : Sd (b0 :: b)) (h : dlt a0.d b0.d) : agree (a0 :: a) (b0 :: b) = agree a (b0 :: b) := by
  rw [Bool.eq_iff_iff, agree_iff, agree_iff]
  refine ⟨fun H n hn => H n (List.mem_cons_of_mem _ hn), fun H n hn m hm e => ?_⟩
  rcases List.mem_cons.1 hn with rfl | hn
  · exfalso
    rcases List.mem_cons.1 hm with rfl | hm
    · rw [e] at h; exact dlt_irrefl _ h
    · have := dlt_trans h (hb.head m hm); rw [e] at this; exact dlt_irrefl _ this
  · exact H n hn m hm e
theorem agree_gt {a0 b0 : Nd} {a b : List Nd} (ha : Sd (a0 :: a)) (h : dlt b0.d a0.d) : agree (a0 :: a) (b0 :: b) = agree (a0 :: a) b := by
  rw [Bool.eq_iff_iff, agree_iff, agree_iff]
  refine ⟨fun H n hn m hm => H n hn m (List.mem_cons_of_mem _ hm), fun H n hn m hm e => ?_⟩
  rcases List.mem_cons.1 hm with rfl | hm
  · exfalso
    rcases List.mem_cons.1 hn with rfl | hn
    · rw [e] at h; exact dlt_irrefl _ h
    · have := dlt_trans h (ha.head n hn); rw [e] at this; exact dlt_irrefl _ this
  · exact H n hn m hm e
theorem agree_eq {a0 b0 : Nd} {a b : List Nd} (ha : Sd (a0 :: a)) (hb : Sd (b0 :: b)) (h : a0.d = b0.d) : agree (a0 :: a) (b0 :: b) = ((jmg a0 b0).2 && agree a b) := by
  rw [Bool.eq_iff_iff, Bool.and_eq_true, agree_iff, agree_iff]
  refine ⟨fun H => ⟨H a0 (by simp) b0 (by simp) h, fun n hn m hm => H n (List.mem_cons_of_mem _ hn) m (List.mem_cons_of_mem _ hm)⟩, fun ⟨H1, H2⟩ n hn m hm e => ?_⟩
  rcases List.mem_cons.1 hn with rfl | hn
  · rcases List.mem_cons.1 hm with rfl | hm
    · exact H1
    · exact absurd (e ▸ h ▸ hb.head m hm) (dlt_irrefl _)
  · rcases List.mem_cons.1 hm with rfl | hm
    · have := ha.head n hn; rw [e, h] at this; exact absurd this (dlt_irrefl _)
    · exact H2 n hn m hm e
/-- Between two steps of the program's join. -/
structure Joining (a b out a' b' : List Nd) : Prop where
  sa : Sd a'
  sb : Sd b'
  va : ∀ n ∈ a', nvalid n = true
  vb : ∀ n ∈ b', nvalid n = true
  eq : out ++ jn a' b' = jn a b
  ag : agree a' b' = agree a b
  len : out.length + a'.length + b'.length ≤ a.length + b.length
theorem Joining.start {a b : List Nd} (ha : storeOk a = true) (hb : storeOk b = true) : Joining a b [] a b := by
  simp only [storeOk, Bool.and_eq_true, List.all_eq_true, decide_eq_true_eq] at ha hb
  exact ⟨ha.2, hb.2, ha.1, hb.1, rfl, rfl, by simp⟩
theorem Joining.lt {a b out a' b' : List Nd} {x y : Nd} (h : Joining a b out (x :: a') (y :: b')) (hl : dlt x.d y.d) : Joining a b (out ++ [x]) a' (y :: b') :=
  ⟨h.sa.tail, h.sb, fun n hn => h.va n (List.mem_cons_of_mem _ hn), h.vb, by rw [← h.eq, jn_lt h.sb hl]; simp, by rw [← h.ag, agree_lt h.sb hl], by have := h.len; simp at *; omega⟩
theorem Joining.gt {a b out a' b' : List Nd} {x y : Nd} (h : Joining a b out (x :: a') (y :: b')) (hl : dlt y.d x.d) : Joining a b (out ++ [y]) (x :: a') b' :=
  ⟨h.sa, h.sb.tail, h.va, fun n hn => h.vb n (List.mem_cons_of_mem _ hn), by rw [← h.eq, jn_gt h.sb hl]; simp, by rw [← h.ag, agree_gt h.sa hl], by have := h.len; simp at *; omega⟩
theorem Joining.merged {a b out a' b' : List Nd} {x y : Nd} (h : Joining a b out (x :: a') (y :: b')) (hd : x.d = y.d) : nmerge x y = if (jmg x y).2 = true then ((jmg x y).1, 0) else (zn, 15) :=
  nmerge_jmg (h.va x (by simp)) (h.vb y (by simp)) hd
theorem Joining.both {a b out a' b' : List Nd} {x y : Nd} (h : Joining a b out (x :: a') (y :: b')) (hd : x.d = y.d) (hm : (nmerge x y).2 = 0) : Joining a b (out ++ [(nmerge x y).1]) a' b' := by
  have h1 := h.merged hd
  by_cases hj : (jmg x y).2 = true
  · rw [if_pos hj] at h1
    rw [h1]
    exact ⟨h.sa.tail, h.sb.tail, fun n hn => h.va n (List.mem_cons_of_mem _ hn), fun n hn => h.vb n (List.mem_cons_of_mem _ hn), by rw [← h.eq, jn_eq h.sb hj]; simp, by rw [← h.ag, agree_eq h.sa h.sb hd, hj]; simp, by have := h.len; simp at *; omega⟩
  · rw [if_neg hj] at h1
    rw [h1] at hm
    cases hm
theorem Joining.clash {a b out a' b' : List Nd} {x y : Nd} (h : Joining a b out (x :: a') (y :: b')) (hd : x.d = y.d) (hm : ¬ (nmerge x y).2 = 0) : agree a b = false ∧ (nmerge x y).2 = 15 := by
  have h1 := h.merged hd
  by_cases hj : (jmg x y).2 = true
  · rw [if_pos hj] at h1
    rw [h1] at hm
    exact absurd rfl hm
  · rw [if_neg hj] at h1
    rw [h1]
    refine ⟨?_, rfl⟩
    rw [← h.ag, agree_eq h.sa h.sb hd]
    simp [hj]
theorem Joining.done {a b out a' b' : List Nd} (h : Joining a b out a' b') (hd : a' = [] ∨ b' = []) : (out ++ a') ++ b' = jn a b ∧ agree a b = true := by
  rcases hd with rfl | rfl
  · rw [← h.eq, ← h.ag, jn_nil_l h.sb]
    exact ⟨by simp, rfl⟩
  · rw [← h.eq, ← h.ag, jn_nil]
    exact ⟨by simp, agree_nil_r _⟩
theorem cons_gx {α : Type} [Inhabited α] {l : List α} (h : 0 < l.length) : l = gx l 0 :: l.drop 1 := by
  cases l with
  | nil => simp at h
  | cons x l => rfl
theorem dcmp_vals (a b : Dot) : dcmp a b = -1 ∨ dcmp a b = 0 ∨ dcmp a b = 1 := by
  unfold dcmp ior icmp
  repeat' split
  all_goals omega
section
variable {a b out a' b' : List Nd} (h : Joining a b out a' b') (ha : 0 < a'.length) (hb : 0 < b'.length)
include h ha hb
theorem Joining.lt' (hl : dcmp (gx a' 0).d (gx b' 0).d = -1) : Joining a b (out ++ [gx a' 0]) (a'.drop 1) b' := by
  rw [cons_gx ha, cons_gx hb] at h
  have := h.lt (dcmp_neg.1 (by omega))
  rw [← cons_gx hb] at this
  exact this
theorem Joining.gt' (hl : dcmp (gx a' 0).d (gx b' 0).d = 1) : Joining a b (out ++ [gx b' 0]) a' (b'.drop 1) := by
  rw [cons_gx ha, cons_gx hb] at h
  have := h.gt (dcmp_pos.1 (by omega))
  rw [← cons_gx ha] at this
  exact this
theorem Joining.both' (hl : ¬ dcmp (gx a' 0).d (gx b' 0).d = -1) (hg : ¬ dcmp (gx a' 0).d (gx b' 0).d = 1) (hm : (nmerge (gx a' 0) (gx b' 0)).2 = 0) : Joining a b (out ++ [(nmerge (gx a' 0) (gx b' 0)).1]) (a'.drop 1) (b'.drop 1) := by
  rw [cons_gx ha, cons_gx hb] at h
  exact h.both (dcmp_zero.1 (by have := dcmp_vals (gx a' 0).d (gx b' 0).d; omega)) hm
theorem Joining.clash' (hl : ¬ dcmp (gx a' 0).d (gx b' 0).d = -1) (hg : ¬ dcmp (gx a' 0).d (gx b' 0).d = 1) (hm : ¬ (nmerge (gx a' 0) (gx b' 0)).2 = 0) : agree a b = false ∧ (nmerge (gx a' 0) (gx b' 0)).2 = 15 := by
  rw [cons_gx ha, cons_gx hb] at h
  exact h.clash (dcmp_zero.1 (by have := dcmp_vals (gx a' 0).d (gx b' 0).d; omega)) hm
end
theorem Joining.done' {a b out a' b' : List Nd} (h : Joining a b out a' b') (hd : a'.length = 0 ∨ b'.length = 0) : (out ++ a') ++ b' = jn a b ∧ agree a b = true :=
  h.done (hd.imp List.eq_nil_of_length_eq_zero List.eq_nil_of_length_eq_zero)
theorem slN_tail {w : World} {A : Option Addr} {l : List Nd} {c : Nat} (h : SlN w A l) (hl : 0 < l.length) (hc : l.length ≤ c) : SlN w (cutA A c 1 6) (l.drop 1) := by
  have h1 := SlF.cut (cap := c) h (l := 1) (m := l.length) (by omega) (Nat.le_refl _) hc
  have e : ((l.flatMap nc).drop (1 * 6)).take ((l.length - 1) * 6) = (l.drop 1).flatMap nc := by
    rw [flat_drop (enc := nc) (k := 6) (fun _ => rfl)]
    exact List.take_of_length_le (by rw [flat_len (enc := nc) (k := 6) (fun _ => rfl), List.length_drop]; exact Nat.le_refl _)
  rw [e] at h1
  unfold SlN
  rw [List.length_drop]
  exact h1
/-! ### the reference's join -/
def befD (d : Dot) (n : Nd) : Bool := decide (dlt n.d d)
def gput (a : List Nd) (n : Nd) : List Nd := if 0 ≤ idx (fun m => decide (m.d = n.d)) a then a.set (idx (fun m => decide (m.d = n.d)) a).toNat (jmg (gx a (idx (fun m => decide (m.d = n.d)) a)) n).1 else a.takeWhile (befD n.d) ++ n :: a.dropWhile (befD n.d)
theorem put1_mem_d {a : List Nd} {n : Nd} (hag : ∀ m ∈ a, m.d = n.d → (jmg m n).2 = true) : ∀ x ∈ put1 a n, x.d = n.d ∨ x ∈ a := by
  induction a with
  | nil => intro x hx; simp [put1] at hx; exact .inl (by rw [hx])
  | cons m a ih =>
    intro x hx
    simp only [put1] at hx
    split at hx
    · rename_i e
      rcases List.mem_cons.1 hx with rfl | hx
      · exact .inl ((jmg_d (hag m (List.mem_cons_self ..) e)).1.trans e)
      · exact .inr (List.mem_cons_of_mem _ hx)
    · split at hx
      · rcases List.mem_cons.1 hx with rfl | hx
        · exact .inl rfl
        · exact .inr hx
      · rcases List.mem_cons.1 hx with rfl | hx
        · exact .inr (List.mem_cons_self ..)
        · exact (ih (fun m' hm' => hag m' (List.mem_cons_of_mem _ hm')) x hx).imp id (List.mem_cons_of_mem _)
theorem put1_sd : ∀ {a : List Nd} {n : Nd}, Sd a → (∀ m ∈ a, m.d = n.d → (jmg m n).2 = true) → Sd (put1 a n)
  | [], n, _, _ => by simp [put1, Sd, Sorted]
  | m :: a, n, h, hag => by
    simp only [put1]
    split
    · rename_i e
      have hj := jmg_d (hag m (List.mem_cons_self ..) e)
      exact Sd.cons.2 ⟨fun x hx => by rw [hj.1]; exact h.head x hx, h.tail⟩
    · rename_i hne
      split
      · rename_i hl
        exact Sd.cons.2 ⟨fun x hx => by
          rcases List.mem_cons.1 hx with rfl | hx
          · exact hl
          · exact dlt_trans hl (h.head x hx), h⟩
      · rename_i hl
        have hag' : ∀ m' ∈ a, m'.d = n.d → (jmg m' n).2 = true := fun m' hm' => hag m' (List.mem_cons_of_mem _ hm')
        refine Sd.cons.2 ⟨fun x hx => ?_, put1_sd h.tail hag'⟩
        rcases put1_mem_d hag' x hx with e | hx
        · rw [e]
          by_cases h3 : dlt m.d n.d
          · exact h3
          · exact absurd (dlt_total h3 hl) hne
        · exact h.head x hx
end Go.R
