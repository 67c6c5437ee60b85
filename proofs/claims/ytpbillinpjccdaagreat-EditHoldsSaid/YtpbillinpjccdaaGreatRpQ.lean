/- The edits that the statements make: an index and a number out of two bytes. It speaks of no program. -/
import Derived.Test.YtpbillinpjccdaaGreatRoQ
set_option linter.unusedVariables false
set_option linter.unusedSimpArgs false
set_option linter.unusedSectionVars false
namespace Go.R
open Go.J
structure EdOk (s : List Nd) (d : Dot) (l : List Int) : Prop where
  well : well s = true
  dv : dvalid d = true
  hi : d.c + l.length ≤ 4294967296
  time : maxTime s + l.length ≤ 4611686018427387904
  runes : ∀ x ∈ l, rvalid x = true
  fresh : ∀ n ∈ s, ∀ i : Nat, i < l.length → n.d ≠ ⟨d.r, d.c + i⟩
  len : l.length ≤ 5
def eI (s : List Nd) (a : Int) : Nat := a.toNat % ((visN s).length + 1)
def eN (s : List Nd) (a b : Int) : Nat := b.toNat % ((visN s).length - eI s a + 1)
def eK (s : List Nd) (a b : Int) : List Dot := cutK s (eI s a : Int) (eN s a b : Int)
def eP (s : List Nd) (a : Int) : Dot := parR s (eI s a : Int)
def eD (s : List Nd) (a b : Int) (d : Dot) (l : List Int) : List Nd := deltaF s (eK s a b) (eP s a) d l
def eX (s : List Nd) (a b : Int) (d : Dot) (l : List Int) : List Nd := nextF s (eK s a b) (eP s a) d l
theorem runesOf_len (s : List Nd) : (runesOf s).length = (visN s).length := by simp [runesOf]
section
variable {s : List Nd} {a b : Int} {d : Dot} {l : List Int}
theorem eI_le : eI s a ≤ (visN s).length := Nat.le_of_lt_succ (Nat.mod_lt _ (Nat.succ_pos _))
theorem eN_le : eN s a b ≤ (visN s).length - eI s a := Nat.le_of_lt_succ (Nat.mod_lt _ (Nat.succ_pos _))
theorem eN_le' : eN s a b ≤ b.toNat := Nat.mod_le _ _
theorem eI_eq (ha : 0 ≤ a) : a % (((runesOf s).length : Int) + 1) = (eI s a : Int) := by
  unfold eI
  rw [runesOf_len, Int.natCast_emod, Int.toNat_of_nonneg ha]
  rfl
theorem eN_eq (hb : 0 ≤ b) : b % (((runesOf s).length : Int) - (eI s a : Int) + 1) = (eN s a b : Int) := by
  have h := eI_le (s := s) (a := a)
  unfold eN
  rw [runesOf_len, Int.natCast_emod, Int.toNat_of_nonneg hb]
  congr 1
  omega
theorem EdOk.ed (h : EdOk s d l) : Ed s (eK s a b) (eP s a) d l :=
  ⟨h.well, h.dv, h.hi, h.time, h.runes, h.fresh, parR_par (well_store h.well) (by omega) (by have := eI_le (s := s) (a := a); omega)⟩
theorem EdOk.replace (h : EdOk s d l) (hb : b ≤ 255) : replaceR s d (eI s a : Int) (eN s a b : Int) l = (eD s a b d l, 0) := by
  have h1 := eI_le (s := s) (a := a)
  have h2 := eN_le (s := s) (a := a) (b := b)
  have h3 := eN_le' (s := s) (a := a) (b := b)
  have h4 := h.len
  have h5 := h.hi
  have h6 := h.time
  have hsp : spanR s (eI s a : Int) (eN s a b : Int) = 0 := by
    rw [spanR_cases _ _ _ h.well]
    exact if_pos ⟨by omega, by omega, by omega, by omega⟩
  have hr : (l.any fun x => !rvalid x) = false := by
    rw [List.any_eq_false]
    intro x hx
    simp [h.runes x hx]
  have hbz : busy s d l = false := busy_none fun i hi hm => by
    obtain ⟨n, hn, he⟩ := List.mem_map.1 hm
    exact h.fresh n hn i hi he
  unfold replaceR
  rw [if_neg (by simp [h.well, h.dv]), hsp, if_neg (by simp), if_neg (by omega), hr, if_neg (by simp), if_neg (by omega), hbz, if_neg (by simp)]
  rfl
theorem EdOk.insert (h : EdOk s d l) (hb : b ≤ 255) (h0 : eN s a b = 0) : replaceR s d (eI s a : Int) 0 l = (eD s a b d l, 0) := by
  have h1 := h.replace (a := a) hb
  have e : ((eN s a b : Nat) : Int) = 0 := by rw [h0]; rfl
  rwa [e] at h1
theorem EdOk.delete (h : EdOk s d l) (hb : b ≤ 255) (h0 : l = []) : deleteR s (eI s a : Int) (eN s a b : Int) = (eD s a b d l, 0) := by
  subst h0
  have h1 : EdOk s ⟨1, 1⟩ [] := ⟨h.well, by decide, by simp, by simpa using h.time, fun x hx => absurd hx (by simp), fun _ _ i hi => absurd hi (by simp), by simp⟩
  rw [← delete_replace, h1.replace hb]
  rfl
theorem EdOk.empty (h0 : eN s a b = 0) (hl : l = []) : eD s a b d l = [] := by
  subst hl
  unfold eD eK deltaF
  rw [h0]
  have e : cutK s (eI s a : Int) ((0 : Nat) : Int) = [] := cutK_zero s _
  rw [e, goneF_nil]
  rfl
theorem EdOk.delta_ok (h : EdOk s d l) : storeOk (eD s a b d l) = true := by
  have h1 := (h.ed (a := a) (b := b)).join
  have h2 := joinR_ok (a := goneF s (eK s a b)) (b := chainF d (eP s a) (maxTime s + 1) l) (by rw [h1])
  rw [h1] at h2
  exact h2
theorem EdOk.apply (h : EdOk s d l) : applyR s (eD s a b d l) = (eX s a b d l, runesOf (eX s a b d l), 0) := by
  have hj : joinR s (eD s a b d l) = (eX s a b d l, 0) := by
    unfold joinR
    rw [if_neg (by simp [well_store h.well, h.delta_ok]), if_pos (show agree s (eD s a b d l) = true from (h.ed (a := a) (b := b)).agree2)]
    rfl
  unfold applyR
  rw [hj, if_neg (by simp)]
theorem EdOk.text (h : EdOk s d l) : runesOf (eX s a b d l) = cutR (runesOf s) (eI s a) (eN s a b) l :=
  (h.ed (a := a) (b := b)).runesOf eI_le eN_le
theorem EdOk.next_well (h : EdOk s d l) : R.well (eX s a b d l) = true := (h.ed (a := a) (b := b)).next_well
theorem EdOk.next_len (h : EdOk s d l) : (eX s a b d l).length ≤ s.length + l.length := by
  have h1 := (h.ed (a := a) (b := b)).next_sd
  have h2 := nodup_len (a := eX s a b d l) (b := s.map (killK (eK s a b)) ++ chainF d (eP s a) (maxTime s + 1) l) (Sd.nodup h1) fun x hx => by
    rw [List.mem_append]
    exact ((h.ed (a := a) (b := b)).next_mem x).1 hx
  rwa [List.length_append, List.length_map, chainF_len] at h2
theorem maxTime_le {l : List Nd} {M : Int} (h0 : 0 ≤ M) (h : ∀ n ∈ l, n.t ≤ M) : maxTime l ≤ M := by
  have key : ∀ (l : List Nd) (m : Int), m ≤ M → (∀ n ∈ l, n.t ≤ M) → l.foldl (fun m n => max m n.t) m ≤ M := by
    intro l
    induction l with
    | nil => intro m hm _; exact hm
    | cons x l ih =>
      intro m hm hl
      have hx := hl x (List.mem_cons_self ..)
      exact ih (max m x.t) (by omega) fun n hn => hl n (List.mem_cons_of_mem _ hn)
  exact key l 0 h0 h
theorem EdOk.next_node (h : EdOk s d l) {n : Nd} (hn : n ∈ eX s a b d l) : (∃ m ∈ s, m.d = n.d ∧ m.t = n.t) ∨ (n.d.r = d.r ∧ n.d.c < d.c + l.length ∧ n.t ≤ maxTime s + l.length) := by
  rcases ((h.ed (a := a) (b := b)).next_mem n).1 hn with h1 | h1
  · obtain ⟨m, hm, rfl⟩ := List.mem_map.1 h1
    exact .inl ⟨m, hm, (killK_d _ _).symm, (killK_t _ _).symm⟩
  · obtain ⟨i, hi, rfl⟩ := chainF_mem.1 h1
    exact .inr ⟨rfl, by show d.c + (i : Int) < _; omega, by show maxTime s + 1 + (i : Int) ≤ _; omega⟩
theorem EdOk.next_time (h : EdOk s d l) : maxTime (eX s a b d l) ≤ maxTime s + l.length := by
  have h0 := maxTime_nonneg s
  refine maxTime_le (by omega) fun n hn => ?_
  rcases h.next_node hn with ⟨m, hm, _, h2⟩ | ⟨_, _, h2⟩
  · have := maxTime_ge s m hm
    omega
  · exact h2
end
theorem all_of_gx {l : List Int} {k : Nat} {p : Int → Bool} (h : ∀ j : Nat, j < k → p (gx l (j : Int)) = true) (hk : l.length ≤ k) : ∀ x ∈ l, p x = true := fun x hx => by
  obtain ⟨i, hi, rfl⟩ := List.getElem_of_mem hx
  have := h i (by omega)
  rwa [gx_nat l i hi] at this
/-- Two replicas, by turns. -/
structure Turns (s : List Nd) (c0 c1 : Int) (k : Nat) : Prop where
  well : well s = true
  len : s.length ≤ 5 * k
  time : maxTime s ≤ 5 * k
  lo0 : 1 ≤ c0
  lo1 : 1 ≤ c1
  hi0 : c0 ≤ 1 + 5 * k
  hi1 : c1 ≤ 1 + 5 * k
  node : ∀ n ∈ s, (n.d.r = 1 ∧ n.d.c < c0) ∨ (n.d.r = 2 ∧ n.d.c < c1)
theorem Turns.nil : Turns [] 1 1 0 := ⟨by decide, by simp, by simp [maxTime], by omega, by omega, by simp, by simp, fun n hn => absurd hn (by simp)⟩
section
variable {s : List Nd} {c0 c1 : Int} {k : Nat} {l : List Int}
theorem Turns.ok0 (h : Turns s c0 c1 k) (hk : k ≤ 20) (hr : ∀ x ∈ l, rvalid x = true) (hl : l.length ≤ 5) : EdOk s ⟨1, c0⟩ l :=
  have h1 := h.hi0
  have h2 := h.lo0
  have h3 := h.time
  ⟨h.well, decide_eq_true ⟨by dsimp only; omega, by dsimp only; omega, by dsimp only; omega, by dsimp only; omega⟩, by dsimp only; omega, by omega, hr, fun n hn i hi e => by
    rcases h.node n hn with ⟨_, h5⟩ | ⟨h5, _⟩
    · rw [e] at h5; dsimp only at h5; omega
    · rw [e] at h5; dsimp only at h5; omega, hl⟩
theorem Turns.ok1 (h : Turns s c0 c1 k) (hk : k ≤ 20) (hr : ∀ x ∈ l, rvalid x = true) (hl : l.length ≤ 5) : EdOk s ⟨2, c1⟩ l :=
  have h1 := h.hi1
  have h2 := h.lo1
  have h3 := h.time
  ⟨h.well, decide_eq_true ⟨by dsimp only; omega, by dsimp only; omega, by dsimp only; omega, by dsimp only; omega⟩, by dsimp only; omega, by omega, hr, fun n hn i hi e => by
    rcases h.node n hn with ⟨h5, _⟩ | ⟨_, h5⟩
    · rw [e] at h5; dsimp only at h5; omega
    · rw [e] at h5; dsimp only at h5; omega, hl⟩
theorem Turns.next0 (h : Turns s c0 c1 k) (hk : k ≤ 20) (hr : ∀ x ∈ l, rvalid x = true) (hl : l.length ≤ 5) (a b : Int) : Turns (eX s a b ⟨1, c0⟩ l) (c0 + l.length) c1 (k + 1) :=
  have ho := h.ok0 hk hr hl
  have h1 := ho.next_len (a := a) (b := b)
  have h2 := ho.next_time (a := a) (b := b)
  have h3 := h.len
  have h4 := h.time
  have h5 := h.hi0
  have h6 := h.lo0
  have h7 := h.hi1
  ⟨ho.next_well, by omega, by omega, by omega, h.lo1, by omega, by omega, fun n hn => by
    rcases ho.next_node hn with ⟨m, hm, h8, _⟩ | ⟨h8, h9, _⟩
    · rcases h.node m hm with ⟨h10, h11⟩ | ⟨h10, h11⟩
      · rw [h8] at h10 h11; exact .inl ⟨h10, by omega⟩
      · rw [h8] at h10 h11; exact .inr ⟨h10, h11⟩
    · exact .inl ⟨h8, h9⟩⟩
theorem Turns.next1 (h : Turns s c0 c1 k) (hk : k ≤ 20) (hr : ∀ x ∈ l, rvalid x = true) (hl : l.length ≤ 5) (a b : Int) : Turns (eX s a b ⟨2, c1⟩ l) c0 (c1 + l.length) (k + 1) :=
  have ho := h.ok1 hk hr hl
  have h1 := ho.next_len (a := a) (b := b)
  have h2 := ho.next_time (a := a) (b := b)
  have h3 := h.len
  have h4 := h.time
  have h5 := h.hi1
  have h6 := h.lo1
  have h7 := h.hi0
  ⟨ho.next_well, by omega, by omega, h.lo0, by omega, by omega, by omega, fun n hn => by
    rcases ho.next_node hn with ⟨m, hm, h8, _⟩ | ⟨h8, h9, _⟩
    · rcases h.node m hm with ⟨h10, h11⟩ | ⟨h10, h11⟩
      · rw [h8] at h10 h11; exact .inl ⟨h10, h11⟩
      · rw [h8] at h10 h11; exact .inr ⟨h10, by omega⟩
    · exact .inr ⟨h8, h9⟩⟩
theorem Turns.ok {cs : List Int} (h : Turns s (gx cs 0) (gx cs 1) k) (hk : k ≤ 20) (hr : ∀ x ∈ l, rvalid x = true) (hl : l.length ≤ 5) : EdOk s ⟨1 + (k : Int) % 2, gx cs ((k : Int) % 2)⟩ l := by
  rcases (show (k : Int) % 2 = 0 ∨ (k : Int) % 2 = 1 by omega) with e | e <;> rw [e]
  · exact h.ok0 hk hr hl
  · exact h.ok1 hk hr hl
theorem Turns.step {cs : List Int} (h : Turns s (gx cs 0) (gx cs 1) k) (hc : cs.length = 2) (hk : k ≤ 20) (hr : ∀ x ∈ l, rvalid x = true) (hl : l.length ≤ 5) (a b : Int) :
    Turns (eX s a b ⟨1 + (k : Int) % 2, gx cs ((k : Int) % 2)⟩ l) (gx (cs.set ((k : Int) % 2).toNat (gx cs ((k : Int) % 2) + l.length)) 0) (gx (cs.set ((k : Int) % 2).toNat (gx cs ((k : Int) % 2) + l.length)) 1) (k + 1) := by
  match cs, hc with
  | [x, y], _ =>
    rcases (show (k : Int) % 2 = 0 ∨ (k : Int) % 2 = 1 by omega) with e | e <;> rw [e]
    · exact h.next0 hk hr hl a b
    · exact h.next1 hk hr hl a b
end
/-- An edit as the statements take it. -/
structure Ac where
  a : Int
  b : Int
  A : Option Addr
  c : Nat
  l : List Int
instance : Inhabited Ac := ⟨⟨0, 0, none, 0, []⟩⟩
abbrev ac (x : Ac) : List Value := [.int .u8 x.a, .int .u8 x.b, .slice x.A x.l.length x.c]
abbrev av (x : Ac) : Value := .agg #[.int .u8 x.a, .int .u8 x.b, .slice x.A x.l.length x.c]
abbrev SlA (w : World) (A : Option Addr) (l : List Ac) : Prop := SlF w 3 A l.length (l.flatMap ac)
theorem rdA {w : World} {A : Option Addr} {l : List Ac} (h : SlA w A l) {i : Int} (h0 : 0 ≤ i) (h1 : i < (l.length : Int)) : Rd w (el A (i.toNat * 3)) (ac (gx l i)) := slf_rd (enc := ac) (k := 3) (fun _ => rfl) h h0 h1
/-- What an edit brings along. -/
def AcOk (w : World) (x : Ac) : Prop := SlR w x.A x.l ∧ 0 ≤ x.a ∧ x.a ≤ 255 ∧ 0 ≤ x.b ∧ x.b ≤ 255
theorem put_setI (l : List Int) (i : Int) (y : Int) (h0 : 0 ≤ i) (hi : i < (l.length : Int)) : putL (l.flatMap ic) (i.toNat * 1) [.int .i64 y] = (l.set i.toNat y).flatMap ic := putL_field (enc := ic) (k := 1) (fun _ => rfl) l i.toNat 0 [.int .i64 y] y (by omega) (Nat.le_refl _) rfl
end Go.R
