/- Plain data: entries of an ordered map, families. It speaks of no program. -/
import Derived.Test.YtpbillinpjccdaaGreatRbQ
import Derived.Test.YtpbillinpjccdaaGreatJfQ
set_option linter.unusedVariables false
set_option linter.unusedSimpArgs false
set_option linter.unusedSectionVars false
namespace Go.R
open Go.J
structure Ent where
  k : Dot
  A : Option Addr
  n : Nat
  c : Nat
instance : Inhabited Ent := ⟨⟨default, none, 0, 0⟩⟩
abbrev ec (e : Ent) : List Value := [.int .i64 e.k.r, .int .i64 e.k.c, .slice e.A e.n e.c]
abbrev ev' (e : Ent) : Value := .agg #[.int .i64 e.k.r, .int .i64 e.k.c, .slice e.A e.n e.c]
abbrev SlE (w : World) (A : Option Addr) (l : List Ent) : Prop := SlF w 3 A l.length (l.flatMap ec)
theorem rdE {w : World} {A : Option Addr} {l : List Ent} (h : SlE w A l) {i : Int} (h0 : 0 ≤ i) (h1 : i < (l.length : Int)) : Rd w (el A (i.toNat * 3)) (ec (gx l i)) := slf_rd (enc := ec) (k := 3) (fun _ => rfl) h h0 h1
theorem one_ec (e : Ent) : ∀ u ∈ ec e, u.oneCell' = true := by
  intro u hu
  simp at hu
  rcases hu with rfl | rfl | rfl <;> rfl
/-- The comparison function that the map is made with. -/
abbrev keyC (d : Dot) (e : Ent) : Int := dcmp e.k d
def mhas (l : List Ent) (d : Dot) : Bool := bsf (keyC d) l
def mpos (l : List Ent) (d : Dot) : Nat := lbn (keyC d) l
/-- The map behind a 'Set'. -/
def mput (l : List Ent) (x : Ent) : List Ent := if mhas l x.k = true then l.set (mpos l x.k) x else l.take (mpos l x.k) ++ x :: l.drop (mpos l x.k)
theorem mpos_le (l : List Ent) (d : Dot) : mpos l d ≤ l.length := lbn_le
theorem mhas_lt {l : List Ent} {d : Dot} (h : mhas l d = true) : mpos l d < l.length ∧ (gx l (mpos l d : Int)).k = d := by
  simp only [mhas, bsf, decide_eq_true_eq] at h
  exact ⟨h.1, dcmp_zero.1 h.2⟩
def ksorted (l : List Ent) : Prop := Sorted (l.map Ent.k)
theorem mput_sorted {l : List Ent} (hs : ksorted l) (x : Ent) : ksorted (mput l x) := by
  unfold mput
  split
  · rename_i h
    obtain ⟨h1, h2⟩ := mhas_lt h
    have e : (l.set (mpos l x.k) x).map Ent.k = l.map Ent.k := by
      apply List.ext_getElem
      · simp
      · intro j h3 h4
        simp only [List.getElem_map, List.getElem_set]
        split
        · rename_i e
          subst e
          exact (h2.symm.trans (by rw [gx_nat l _ h1]))
        · rfl
    unfold ksorted
    rw [e]
    exact hs
  · rename_i h
    have hb := bsf_sorted (f := Ent.k) hs x.k
    have hn : x.k ∉ l.map Ent.k := by
      intro hm
      rw [decide_eq_true hm] at hb
      exact h hb
    obtain ⟨s1, s2⟩ := lbn_spec (keyC x.k) l
    have hpos : mpos l x.k = lbn (keyC x.k) l := rfl
    have hlt : ∀ y ∈ l.take (mpos l x.k), dlt y.k x.k := fun y hy => by
      obtain ⟨j, hj, rfl⟩ := List.getElem_of_mem hy
      have hj' : j < mpos l x.k := by simp at hj; omega
      have hjl : j < l.length := by simp at hj; omega
      have := s1 j hj'
      rw [gx_nat l j hjl] at this
      rw [List.getElem_take]
      exact dcmp_neg.1 this
    have hgt : ∀ y ∈ l.drop (mpos l x.k), dlt x.k y.k := fun y hy => by
      obtain ⟨j, hj, rfl⟩ := List.getElem_of_mem hy
      have hjl : mpos l x.k + j < l.length := by simp at hj; omega
      rw [List.getElem_drop]
      have h0 : ¬ dlt (l[mpos l x.k]'(by omega)).k x.k := fun h9 => by
        have := s2 (by omega)
        rw [gx_nat l _ (by omega)] at this
        exact this (dcmp_neg.2 h9)
      have hne : ∀ q (hq : q < l.length), l[q].k ≠ x.k := fun q hq e => hn (List.mem_map.2 ⟨l[q], List.getElem_mem hq, e⟩)
      have h1 : dlt x.k (l[mpos l x.k]'(by omega)).k := by
        by_cases h9 : dlt x.k (l[mpos l x.k]'(by omega)).k
        · exact h9
        · exact absurd (dlt_total h0 h9) (hne _ _)
      cases j with
      | zero => exact h1
      | succ j =>
        have := List.pairwise_iff_getElem.1 hs (mpos l x.k) (mpos l x.k + (j + 1)) (by simpa using by omega) (by simpa using hjl) (by omega)
        simp only [List.getElem_map] at this
        exact dlt_trans h1 this
    unfold ksorted Sorted
    rw [List.map_append, List.map_cons]
    refine List.pairwise_append.2 ⟨?_, List.pairwise_cons.2 ⟨?_, ?_⟩, ?_⟩
    · rw [List.map_take]
      exact List.Pairwise.sublist (List.take_sublist _ _) hs
    · intro b hb
      obtain ⟨y, hy, rfl⟩ := List.mem_map.1 hb
      exact hgt y hy
    · rw [List.map_drop]
      exact List.Pairwise.sublist (List.drop_sublist _ _) hs
    · intro a ha b hb
      obtain ⟨y, hy, rfl⟩ := List.mem_map.1 ha
      rcases List.mem_cons.1 hb with rfl | hb
      · exact hlt y hy
      · obtain ⟨z, hz, rfl⟩ := List.mem_map.1 hb
        exact dlt_trans (hlt y hy) (hgt z hz)
theorem Rd.below {w w' : World} {b : Nat} {vs : List Value} (h : Rd w ⟨b, 0, none⟩ vs) (hb : RowKit.Below w.heap.size w w') : Rd w' ⟨b, 0, none⟩ vs := fun j v hv => by
  have h1 := h j v hv
  have hlt := World.block_lt_of_cell? w _ h1
  rw [addr_add] at h1 hlt ⊢
  rw [World.cell?_of_block (hb.block b hlt)]
  exact h1
theorem putL_ent (l : List Ent) (i : Nat) (hi : i < l.length) (B : Option Addr) (m c : Nat) : putL (l.flatMap ec) (i * 3 + 2) [.slice B m c] = (l.set i ⟨(gx l (i : Int)).k, B, m, c⟩).flatMap ec := by
  have h1 := putL_flat (enc := ec) (k := 3) (fun _ => rfl) l i ⟨(gx l (i : Int)).k, B, m, c⟩ hi
  rw [← h1, gx_nat l i hi]
  have hlen : i * 3 + 3 ≤ (l.flatMap ec).length := by rw [flat_len (enc := ec) (k := 3) (fun _ => rfl)]; omega
  have hat := flat_at (enc := ec) (k := 3) (fun _ => rfl) l i hi
  have e0 : (l.flatMap ec)[i * 3]? = some (.int .i64 l[i].k.r) := by
    have : (((l.flatMap ec).drop (i * 3)).take 3)[0]? = (ec l[i])[0]? := by rw [hat]
    simpa [List.getElem?_take, List.getElem?_drop] using this
  have e1 : (l.flatMap ec)[i * 3 + 1]? = some (.int .i64 l[i].k.c) := by
    have : (((l.flatMap ec).drop (i * 3)).take 3)[1]? = (ec l[i])[1]? := by rw [hat]
    simpa [List.getElem?_take, List.getElem?_drop] using this
  simp only [putL]
  have s0 : (l.flatMap ec).set (i * 3) (.int .i64 l[i].k.r) = l.flatMap ec := by
    apply List.ext_getElem?
    intro j
    rw [List.getElem?_set]
    split
    · rename_i e
      subst e
      rw [e0, if_pos (by omega)]
    · rfl
  have s1 : (l.flatMap ec).set (i * 3 + 1) (.int .i64 l[i].k.c) = l.flatMap ec := by
    apply List.ext_getElem?
    intro j
    rw [List.getElem?_set]
    split
    · rename_i e
      subst e
      rw [e1, if_pos (by omega)]
    · rfl
  rw [s0, s1]
theorem mput_found {l : List Ent} {x : Ent} (h : mhas l x.k = true) : (l.set (mpos l x.k) ⟨(gx l (mpos l x.k : Int)).k, x.A, x.n, x.c⟩) = mput l x := by
  rw [mput, if_pos h, (mhas_lt h).2]
theorem ins_new_ent (l : List Ent) (i : Nat) (hi : i ≤ l.length) (x : Ent) (zs : List Value) (hz : zs.length = (l.length + 1 - i) * 3) {a1 a2 a3 a4 a5 : Nat} (h1 : a1 = i) (h2 : a2 = 1) (h3 : a3 = i + 1) (h4 : a4 = l.length - i) (h5 : a5 = l.length - i) :
    putL (putL (List.take (a1 * 3) (l.flatMap ec) ++ zs) (a1 * 3) (List.take (a2 * 3) (ec x))) (a3 * 3) (List.take (a4 * 3) (List.take (a5 * 3) (List.drop (a1 * 3) (l.flatMap ec)))) = (l.take i).flatMap ec ++ (ec x ++ (l.drop i).flatMap ec) := by
  subst h1 h2 h3 h4 h5
  have hta : ((l.take a1).flatMap ec).length = a1 * 3 := by rw [flat_len (enc := ec) (k := 3) (fun _ => rfl), List.length_take, Nat.min_eq_left hi]
  have hdr : ((l.drop a1).flatMap ec).length = (l.length - a1) * 3 := by rw [flat_len (enc := ec) (k := 3) (fun _ => rfl), List.length_drop]
  rw [flat_take (enc := ec) (k := 3) (fun _ => rfl), flat_drop (enc := ec) (k := 3) (fun _ => rfl), List.take_of_length_le (l := (l.drop a1).flatMap ec) (by omega), List.take_of_length_le (l := (l.drop a1).flatMap ec) (by omega), List.take_of_length_le (l := ec x) (by simp)]
  have := ins_new (a := (l.take a1).flatMap ec) (z := zs) (x := ec x) (d := (l.drop a1).flatMap ec) (k := 3) rfl (by omega)
  rw [hta] at this
  rw [show (a1 + 1) * 3 = a1 * 3 + 3 by omega]
  exact this
theorem ins_here_ent (l : List Ent) (i : Nat) (hi : i ≤ l.length) (x : Ent) (ys : List Value) (hy : ys.length = 3) {a1 a2 a3 a4 a5 : Nat} (h1 : a1 = i) (h2 : a2 = 1) (h3 : a3 = i + 1) (h4 : a4 = l.length - i) (h5 : a5 = l.length + 1 - i) :
    putL (putL (l.flatMap ec ++ ys) (a3 * 3) (List.take (a4 * 3) (List.take (a5 * 3) (List.drop (i * 3) (l.flatMap ec ++ ys))))) (a1 * 3) (List.take (a2 * 3) (ec x)) = (l.take i).flatMap ec ++ (ec x ++ (l.drop i).flatMap ec) := by
  subst h1 h2 h3 h4 h5
  have hta : ((l.take a1).flatMap ec).length = a1 * 3 := by rw [flat_len (enc := ec) (k := 3) (fun _ => rfl), List.length_take, Nat.min_eq_left hi]
  have hdr : ((l.drop a1).flatMap ec).length = (l.length - a1) * 3 := by rw [flat_len (enc := ec) (k := 3) (fun _ => rfl), List.length_drop]
  have hfl : (l.flatMap ec).length = l.length * 3 := flat_len (enc := ec) (k := 3) (fun _ => rfl) l
  have hsp : l.flatMap ec = (l.take a1).flatMap ec ++ (l.drop a1).flatMap ec := by rw [← List.flatMap_append, List.take_append_drop]
  rw [List.drop_append_of_le_length (by omega), flat_drop (enc := ec) (k := 3) (fun _ => rfl), List.take_take, Nat.min_eq_left (by omega), List.take_append_of_le_length (by omega), List.take_of_length_le (l := (l.drop a1).flatMap ec) (by omega), List.take_of_length_le (l := ec x) (by simp)]
  have := ins_here (a := (l.take a1).flatMap ec) (y := ys) (x := ec x) (d := (l.drop a1).flatMap ec) (k := 3) rfl hy
  rw [hta] at this
  rw [show (a1 + 1) * 3 = a1 * 3 + 3 by omega, hsp]
  exact this
theorem here_one (l : List Ent) (i : Nat) (ys : List Value) {a4 a5 : Nat} (h4 : a4 = l.length - i) : ∀ u ∈ List.take (a4 * 3) (List.take (a5 * 3) (List.drop (i * 3) (l.flatMap ec ++ ys))), u.oneCell' = true := fun u hu => by
  subst h4
  have hfl : (l.flatMap ec).length = l.length * 3 := flat_len (enc := ec) (k := 3) (fun _ => rfl) l
  have h1 : u ∈ List.take ((l.length - i) * 3) (List.drop (i * 3) (l.flatMap ec ++ ys)) := by
    rw [List.take_take] at hu
    exact (List.take_prefix_take_left (Nat.min_le_left _ _)).subset hu
  rcases Nat.lt_or_ge l.length i with h | h
  · rw [show l.length - i = 0 by omega] at h1
    simp at h1
  · rw [List.drop_append_of_le_length (by omega), List.take_append_of_le_length (by rw [List.length_drop]; omega)] at h1
    exact one_flat one_ec l u (List.mem_of_mem_drop (List.mem_of_mem_take h1))
end Go.R
