/- The plain data: dots, nodes, lists of them, and how they lie in memory. It speaks of no program. -/
import Derived.Test.YtpbillinpjccdaaGreatJdQ
set_option linter.unusedVariables false
set_option linter.unusedSimpArgs false
set_option linter.unusedSectionVars false
namespace Go.R
open Go.J
structure Dot where
  r : Int
  c : Int
structure Nd where
  d : Dot
  p : Dot
  t : Int
  x : Int
theorem Dot.ext' {a b : Dot} (h1 : a.r = b.r) (h2 : a.c = b.c) : a = b := by
  cases a; cases b; simp_all
theorem Dot.eq_iff {a b : Dot} : a = b ↔ a.r = b.r ∧ a.c = b.c := ⟨fun h => by subst h; exact ⟨rfl, rfl⟩, fun h => Dot.ext' h.1 h.2⟩
instance : DecidableEq Dot := fun _ _ => decidable_of_iff _ Dot.eq_iff.symm
theorem Nd.eq_iff {a b : Nd} : a = b ↔ a.d = b.d ∧ a.p = b.p ∧ a.t = b.t ∧ a.x = b.x := ⟨fun h => by subst h; exact ⟨rfl, rfl, rfl, rfl⟩, fun h => by cases a; cases b; simp_all⟩
instance : DecidableEq Nd := fun _ _ => decidable_of_iff _ Nd.eq_iff.symm
instance : Inhabited Dot := ⟨⟨0, 0⟩⟩
instance : Inhabited Nd := ⟨⟨default, default, 0, 0⟩⟩
abbrev dc (d : Dot) : List Value := [.int .i64 d.r, .int .i64 d.c]
abbrev dv (d : Dot) : Value := .agg #[.int .i64 d.r, .int .i64 d.c]
abbrev nc (n : Nd) : List Value := [.int .i64 n.d.r, .int .i64 n.d.c, .int .i64 n.p.r, .int .i64 n.p.c, .int .i64 n.t, .int .i32 n.x]
abbrev nv (n : Nd) : Value := .agg #[.int .i64 n.d.r, .int .i64 n.d.c, .int .i64 n.p.r, .int .i64 n.p.c, .int .i64 n.t, .int .i32 n.x]
/-- The element of a list at an index. -/
def gx {α : Type} [Inhabited α] (l : List α) (i : Int) : α := l.getD i.toNat default
theorem gx_nat {α : Type} [Inhabited α] (l : List α) (k : Nat) (h : k < l.length) : gx l (k : Int) = l[k] := by
  simp [gx, List.getD_eq_getElem?_getD, List.getElem?_eq_getElem h]
theorem flat_len {α : Type} {enc : α → List Value} {k : Nat} (he : ∀ x, (enc x).length = k) : ∀ l : List α, (l.flatMap enc).length = l.length * k
  | [] => by simp
  | x :: l => by simp [flat_len he l, he x, Nat.add_mul]; omega
theorem flat_at {α : Type} {enc : α → List Value} {k : Nat} (he : ∀ x, (enc x).length = k) : ∀ (l : List α) (i : Nat) (h : i < l.length), ((l.flatMap enc).drop (i * k)).take k = enc l[i]
  | [], _, h => by simp at h
  | x :: l, 0, _ => by
    simp only [List.flatMap_cons, Nat.zero_mul, List.drop_zero, List.getElem_cons_zero]
    rw [List.take_append_of_le_length (by rw [he]; exact Nat.le_refl _), List.take_of_length_le (by rw [he]; exact Nat.le_refl _)]
  | x :: l, i + 1, h => by
    have h' : i < l.length := by simpa using h
    have e : (i + 1) * k = (enc x).length + i * k := by rw [he, Nat.add_mul]; omega
    simp only [List.flatMap_cons, List.getElem_cons_succ]
    rw [e, List.drop_append, List.drop_of_length_le (by omega), List.nil_append, Nat.add_sub_cancel_left]
    exact flat_at he l i h'
theorem slf_rd {α : Type} [Inhabited α] {enc : α → List Value} {k : Nat} (he : ∀ x, (enc x).length = k) {w : World} {A : Option Addr} {l : List α} (h : SlF w k A l.length (l.flatMap enc)) {i : Int} (h0 : 0 ≤ i) (h1 : i < (l.length : Int)) :
    Rd w (el A (i.toNat * k)) (enc (gx l i)) := by
  have hi : i.toNat < l.length := by omega
  have := h.rd hi
  rw [flat_at he l i.toNat hi] at this
  have e : gx l i = l[i.toNat] := by simp [gx, List.getD_eq_getElem?_getD, List.getElem?_eq_getElem hi]
  rw [e]
  exact this
abbrev SlN (w : World) (A : Option Addr) (l : List Nd) : Prop := SlF w 6 A l.length (l.flatMap nc)
abbrev SlD (w : World) (A : Option Addr) (l : List Dot) : Prop := SlF w 2 A l.length (l.flatMap dc)
theorem rdN {w : World} {A : Option Addr} {l : List Nd} (h : SlN w A l) {i : Int} (h0 : 0 ≤ i) (h1 : i < (l.length : Int)) : Rd w (el A (i.toNat * 6)) (nc (gx l i)) := slf_rd (enc := nc) (k := 6) (fun _ => rfl) h h0 h1
theorem rdD {w : World} {A : Option Addr} {l : List Dot} (h : SlD w A l) {i : Int} (h0 : 0 ≤ i) (h1 : i < (l.length : Int)) : Rd w (el A (i.toNat * 2)) (dc (gx l i)) := slf_rd (enc := dc) (k := 2) (fun _ => rfl) h h0 h1
abbrev ic (x : Int) : List Value := [.int .i64 x]
abbrev rc (x : Int) : List Value := [.int .i32 x]
abbrev SlI (w : World) (A : Option Addr) (l : List Int) : Prop := SlF w 1 A l.length (l.flatMap ic)
abbrev SlR (w : World) (A : Option Addr) (l : List Int) : Prop := SlF w 1 A l.length (l.flatMap rc)
theorem rdI {w : World} {A : Option Addr} {l : List Int} (h : SlI w A l) {i : Int} (h0 : 0 ≤ i) (h1 : i < (l.length : Int)) : Rd w (el A (i.toNat * 1)) (ic (gx l i)) := slf_rd (enc := ic) (k := 1) (fun _ => rfl) h h0 h1
theorem rdR {w : World} {A : Option Addr} {l : List Int} (h : SlR w A l) {i : Int} (h0 : 0 ≤ i) (h1 : i < (l.length : Int)) : Rd w (el A (i.toNat * 1)) (rc (gx l i)) := slf_rd (enc := rc) (k := 1) (fun _ => rfl) h h0 h1
theorem drop_gx {α : Type} [Inhabited α] (l : List α) {k : Nat} (h : k < l.length) : l.drop k = gx l (k : Int) :: l.drop (k + 1) := by
  rw [gx_nat l k h]
  exact List.drop_eq_getElem_cons h
theorem take_gx {α : Type} [Inhabited α] (l : List α) {k : Nat} (h : k < l.length) : l.take (k + 1) = l.take k ++ [gx l (k : Int)] := by
  rw [gx_nat l k h, List.take_succ_eq_append_getElem h]
theorem one_flat {α : Type} {enc : α → List Value} (he : ∀ x, ∀ u ∈ enc x, u.oneCell' = true) (l : List α) : ∀ u ∈ l.flatMap enc, u.oneCell' = true := fun u hu => by
  obtain ⟨x, _, hx⟩ := List.mem_flatMap.1 hu
  exact he x u hx
theorem one_nc (n : Nd) : ∀ u ∈ nc n, u.oneCell' = true := by
  intro u hu
  simp at hu
  rcases hu with rfl | rfl | rfl | rfl | rfl | rfl <;> rfl
theorem one_dc (d : Dot) : ∀ u ∈ dc d, u.oneCell' = true := by
  intro u hu
  simp at hu
  rcases hu with rfl | rfl <;> rfl
theorem one_rc (x : Int) : ∀ u ∈ rc x, u.oneCell' = true := by
  intro u hu
  simp at hu
  subst hu
  rfl
theorem flat_snoc {α : Type} {enc : α → List Value} (l : List α) (x : α) : (l ++ [x]).flatMap enc = l.flatMap enc ++ enc x := by simp
theorem putL_flat_aux : ∀ (vs pre cs : List Value), cs.length = vs.length → ∀ post, putL (pre ++ (cs ++ post)) pre.length vs = pre ++ (vs ++ post)
  | [], pre, cs, h, post => by
    have : cs = [] := List.eq_nil_of_length_eq_zero (by simpa using h)
    subst this
    rfl
  | v :: vs, pre, [], h, post => by simp at h
  | v :: vs, pre, c :: cs, h, post => by
    have ih := putL_flat_aux vs (pre ++ [v]) cs (by simpa using h) post
    simp only [putL]
    have e : (pre ++ (c :: cs ++ post)).set pre.length v = (pre ++ [v]) ++ (cs ++ post) := by simp
    rw [e]
    simpa using ih
theorem putL_flat {α : Type} {enc : α → List Value} {k : Nat} (he : ∀ x, (enc x).length = k) (l : List α) (i : Nat) (y : α) (hi : i < l.length) : putL (l.flatMap enc) (i * k) (enc y) = (l.set i y).flatMap enc := by
  have e : l = l.take i ++ (l[i] :: l.drop (i + 1)) := by rw [← List.drop_eq_getElem_cons hi, List.take_append_drop]
  have hlen : ((l.take i).flatMap enc).length = i * k := by rw [flat_len he, List.length_take, Nat.min_eq_left (by omega)]
  have h1 := putL_flat_aux (enc y) ((l.take i).flatMap enc) (enc l[i]) (by rw [he, he]) ((l.drop (i + 1)).flatMap enc)
  rw [hlen] at h1
  have e2 : l.flatMap enc = (l.take i).flatMap enc ++ (enc l[i] ++ (l.drop (i + 1)).flatMap enc) := by
    conv => lhs; rw [e]
    simp only [List.flatMap_append, List.flatMap_cons]
  have e3 : (l.set i y).flatMap enc = (l.take i).flatMap enc ++ (enc y ++ (l.drop (i + 1)).flatMap enc) := by
    rw [List.set_eq_take_append_cons_drop, if_pos hi]
    simp only [List.flatMap_append, List.flatMap_cons]
  rw [e2, h1, e3]
/-! ### plain functions -/
def icmp (a b : Int) : Int := if a < b then -1 else if b < a then 1 else 0
def ior (x y : Int) : Int := if x = 0 then y else x
def iorL : List Int → Int
  | [] => 0
  | x :: l => if x = 0 then iorL l else x
theorem iorL_two (x y : Int) : iorL [x, y] = ior x y := by
  unfold iorL ior iorL iorL
  split
  · split <;> simp_all
  · rfl
def dcmp (a b : Dot) : Int := ior (icmp a.c b.c) (icmp a.r b.r)
def dvalid (d : Dot) : Bool := decide (1 ≤ d.r ∧ d.r ≤ 64 ∧ 1 ≤ d.c ∧ d.c ≤ 4294967295)
def droot (d : Dot) : Bool := decide (d = ⟨0, 0⟩)
def dlt (a b : Dot) : Prop := a.c < b.c ∨ (a.c = b.c ∧ a.r < b.r)
instance (a b : Dot) : Decidable (dlt a b) := inferInstanceAs (Decidable (_ ∨ _))
theorem dcmp_neg {a b : Dot} : dcmp a b < 0 ↔ dlt a b := by
  unfold dcmp ior icmp dlt
  repeat' split
  all_goals omega
theorem dcmp_zero {a b : Dot} : dcmp a b = 0 ↔ a = b := by
  rw [Dot.eq_iff]
  unfold dcmp ior icmp
  repeat' split
  all_goals omega
theorem dcmp_pos {a b : Dot} : 0 < dcmp a b ↔ dlt b a := by
  unfold dcmp ior icmp dlt
  repeat' split
  all_goals omega
def rvalid (x : Int) : Bool := decide (1 ≤ x ∧ x ≤ 1114111 ∧ (x < 55296 ∨ 57343 < x))
def nvalid (n : Nd) : Bool := decide (dvalid n.d = true ∧ (droot n.p = true ∨ dvalid n.p = true) ∧ n.p ≠ n.d ∧ 1 ≤ n.t ∧ n.t ≤ 4611686018427387904 ∧ (n.x = 0 ∨ rvalid n.x = true))
/-- In increasing order, each once. -/
def Sorted (l : List Dot) : Prop := l.Pairwise dlt
instance (l : List Dot) : Decidable (Sorted l) := inferInstanceAs (Decidable (l.Pairwise dlt))
theorem dlt_trans {a b c : Dot} (h : dlt a b) (k : dlt b c) : dlt a c := by unfold dlt at *; omega
theorem dlt_irrefl (a : Dot) : ¬ dlt a a := by unfold dlt; omega
theorem dlt_asymm {a b : Dot} (h : dlt a b) : ¬ dlt b a := by unfold dlt at *; omega
theorem dlt_total {a b : Dot} (h : ¬ dlt a b) (k : ¬ dlt b a) : a = b := by rw [Dot.eq_iff]; unfold dlt at *; omega
theorem gx_mem {α : Type} [Inhabited α] {l : List α} {i : Int} (h0 : 0 ≤ i) (h1 : i < (l.length : Int)) : gx l i ∈ l := by
  obtain ⟨k, rfl⟩ := Int.eq_ofNat_of_zero_le h0
  rw [gx_nat l k (by omega)]
  exact List.getElem_mem _
theorem sorted_take_succ {l : List Dot} {k : Nat} (hk : 1 ≤ k) (hl : k < l.length) (hs : Sorted (l.take k)) (hd : dlt (gx l ((k : Int) - 1)) (gx l (k : Int))) : Sorted (l.take (k + 1)) := by
  obtain ⟨j, rfl⟩ : ∃ j, k = j + 1 := ⟨k - 1, by omega⟩
  rw [take_gx l hl]
  have e : ((j + 1 : Nat) : Int) - 1 = (j : Int) := by omega
  rw [e] at hd
  refine List.pairwise_append.2 ⟨hs, by simp, fun x hx y hy => ?_⟩
  obtain rfl : y = gx l ((j + 1 : Nat) : Int) := by simpa using hy
  rw [take_gx l (by omega)] at hx hs
  rcases List.mem_append.1 hx with hx | hx
  · exact dlt_trans ((List.pairwise_append.1 hs).2.2 x hx _ (by simp)) hd
  · obtain rfl : x = gx l (j : Int) := by simpa using hx
    exact hd
theorem sorted_gx {l : List Dot} (hs : Sorted l) {i j : Int} (h0 : 0 ≤ i) (h1 : i < j) (h2 : j < (l.length : Int)) : dlt (gx l i) (gx l j) := by
  obtain ⟨a, rfl⟩ := Int.eq_ofNat_of_zero_le h0
  obtain ⟨b, rfl⟩ := Int.eq_ofNat_of_zero_le (show 0 ≤ j by omega)
  rw [gx_nat l a (by omega), gx_nat l b (by omega)]
  exact List.pairwise_iff_getElem.1 hs a b (by omega) (by omega) (by omega)
def kill (n : Nd) : Nd := ⟨n.d, n.p, n.t, 0⟩
/-- Before in the order of children. -/
def nfirst (a b : Nd) : Bool := decide (b.t < a.t ∨ (a.t = b.t ∧ dlt b.d a.d))
theorem nfirst_or (a b : Nd) : ior (icmp b.t a.t) (dcmp b.d a.d) < 0 ↔ nfirst a b = true := by
  have h := @dcmp_neg b.d a.d
  simp only [nfirst, decide_eq_true_eq, ← h]
  unfold ior icmp
  repeat' split
  all_goals omega
def zn : Nd := ⟨⟨0, 0⟩, ⟨0, 0⟩, 0, 0⟩
def nmerge (a b : Nd) : Nd × Int :=
  if nvalid a = false ∨ nvalid b = false then (zn, 2)
  else if kill a ≠ kill b ∨ (a ≠ b ∧ a.x ≠ 0 ∧ b.x ≠ 0) then (zn, 15)
  else if b.x = 0 then (b, 0) else (a, 0)
def storeOk (l : List Nd) : Bool := l.all nvalid && decide (Sorted (l.map Nd.d))
def maxTime (l : List Nd) : Int := l.foldl (fun m n => max m n.t) 0
/-- The first index at which p holds, or -1. -/
def idx {α : Type} (p : α → Bool) : List α → Int
  | [] => -1
  | x :: l => if p x then 0 else if idx p l < 0 then -1 else idx p l + 1
theorem idx_bd {α : Type} (p : α → Bool) : ∀ l : List α, -1 ≤ idx p l ∧ idx p l < l.length
  | [] => by simp [idx]
  | x :: l => by
    have := idx_bd p l
    simp only [idx, List.length_cons]
    split
    · omega
    · split <;> omega
theorem idx_any {α : Type} (p : α → Bool) : ∀ l : List α, (0 ≤ idx p l ↔ l.any p = true)
  | [] => by simp [idx]
  | x :: l => by
    have := idx_any p l
    have hb := idx_bd p l
    simp only [idx, List.any_cons, Bool.or_eq_true]
    split
    · rename_i h
      simp [h]
    · rename_i h
      split
      · have : ¬ l.any p = true := fun e => by have := this.2 e; omega
        simp [h, this]
      · simp [h, ← this]
        omega
theorem idx_take {α : Type} [Inhabited α] (p : α → Bool) : ∀ (l : List α) (k : Nat), k < l.length → (∀ j : Nat, j < k → p (gx l (j : Int)) = false) → p (gx l (k : Int)) = true → idx p l = k
  | [], _, h, _, _ => by simp at h
  | x :: l, 0, _, _, h => by
    have : p x = true := h
    simp [idx, this]
  | x :: l, k + 1, hl, hj, h => by
    have h0 : p x = false := hj 0 (by omega)
    have ih := idx_take p l k (by simpa using hl) (fun j hjk => hj (j + 1) (by omega)) h
    simp [idx, h0, ih]
    omega
theorem idx_none {α : Type} [Inhabited α] (p : α → Bool) : ∀ (l : List α), (∀ j : Nat, j < l.length → p (gx l (j : Int)) = false) → idx p l = -1
  | [], _ => rfl
  | x :: l, h => by
    have h0 : p x = false := h 0 (by simp)
    have ih := idx_none p l (fun j hjk => h (j + 1) (by simpa using hjk))
    simp [idx, h0, ih]
end Go.R
