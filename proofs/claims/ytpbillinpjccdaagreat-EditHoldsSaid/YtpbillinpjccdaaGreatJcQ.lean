/- The calculus, part c: memory: cells that are read, blocks that are made, stores, slices, append. It speaks of no program. -/
import Derived.Test.YtpbillinpjccdaaGreatJbQ
import Derived.WalkSpells
set_option linter.unusedVariables false
set_option linter.unusedSimpArgs false
set_option linter.unusedSectionVars false
namespace Go.J
open Go.RowKit
/-! ### cells that are read -/
def Rd (w : World) (ad : Addr) (vs : List Value) : Prop := ∀ j v, vs[j]? = some v → w.cell? (ad.add j) = some v
def tk : Nat → List Value → Option (List Value)
  | 0, _ => some []
  | _ + 1, [] => none
  | k + 1, v :: l => match tk k l with
    | some r => some (v :: r)
    | none => none
def dr : Nat → List Value → List Value
  | 0, l => l
  | _ + 1, [] => []
  | k + 1, _ :: l => dr k l
theorem dr_eq : ∀ (k : Nat) (l : List Value), dr k l = l.drop k
  | 0, _ => rfl
  | _ + 1, [] => rfl
  | k + 1, _ :: l => by simp [dr, dr_eq k l]
theorem tk_get : ∀ {k : Nat} {l r : List Value}, tk k l = some r → r.length = k ∧ ∀ (j : Nat) (v : Value), r[j]? = some v → l[j]? = some v
  | 0, _, r, h => by
    simp only [tk, Option.some.injEq] at h
    subst h
    exact ⟨rfl, fun j v hv => by simp at hv⟩
  | _ + 1, [], r, h => by cases h
  | k + 1, x :: l, r, h => by
    simp only [tk] at h
    cases hr : tk k l with
    | none => rw [hr] at h; cases h
    | some q =>
      rw [hr] at h
      simp only [Option.some.injEq] at h
      subst h
      obtain ⟨h1, h2⟩ := tk_get hr
      refine ⟨by simp [h1], fun j v hv => ?_⟩
      cases j with
      | zero => simpa using hv
      | succ j => simpa using h2 j v (by simpa using hv)
def sb (l : List Value) (off k : Nat) : Option (List Value) := tk k (dr off l)
theorem sb_get {l r : List Value} {off k : Nat} (h : sb l off k = some r) : r.length = k ∧ ∀ (j : Nat) (v : Value), r[j]? = some v → l[off + j]? = some v := by
  obtain ⟨h1, h2⟩ := tk_get h
  refine ⟨h1, fun j v hv => ?_⟩
  have := h2 j v hv
  rw [dr_eq, List.getElem?_drop] at this
  exact this
/-- The cell with a number in the array of a slice. -/
@[irreducible] def el (A : Option Addr) (x : Nat) : Addr := (A.getD ⟨0, 0, none⟩).add x
theorem el_some (ad : Addr) (x : Nat) : el (some ad) x = ad.add x := by simp [el]
theorem el_add (A : Option Addr) (x y : Nat) : (el A x).add y = el A (x + y) := by simp [el, Addr.add_add]
theorem Rd.sub {w : World} {ad : Addr} {vs us : List Value} {off k : Nat} (h : Rd w ad vs) (hs : sb vs off k = some us) : Rd w (ad.add off) us := fun j v hv => by
  rw [Addr.add_add]
  exact h _ v ((sb_get hs).2 j v hv)
theorem Rd.el {w : World} {A : Option Addr} {x : Nat} {vs us : List Value} {off k : Nat} (h : Rd w (el A x) vs) (hs : sb vs off k = some us) : Rd w (J.el A (x + off)) us := by
  rw [← el_add]
  exact h.sub hs
/-- A slice that reads as a row of cells. -/
def SlF (w : World) (k : Nat) (A : Option Addr) (n : Nat) (xs : List Value) : Prop :=
  xs.length = n * k ∧ n ≤ maxLen ∧ (0 < n → ∃ ad, A = some ad ∧ Rd w ad xs)
theorem SlF.some_ {w : World} {k : Nat} {A : Option Addr} {n : Nat} {xs : List Value} (h : SlF w k A n xs) (hn : 0 < n) : A.isSome = true := by
  obtain ⟨ad, rfl, _⟩ := h.2.2 hn
  rfl
theorem SlF.nil (w : World) (k : Nat) (A : Option Addr) : SlF w k A 0 [] := ⟨by simp, by simp [maxLen], fun h => absurd h (by omega)⟩
theorem Rd.take {w : World} {ad : Addr} {vs : List Value} (h : Rd w ad vs) (off k : Nat) : Rd w (ad.add off) ((vs.drop off).take k) := fun j v hv => by
  rw [Addr.add_add]
  refine h _ v ?_
  rw [List.getElem?_take] at hv
  split at hv
  · rw [List.getElem?_drop] at hv; exact hv
  · cases hv
theorem SlF.rd {w : World} {k : Nat} {A : Option Addr} {n : Nat} {xs : List Value} (h : SlF w k A n xs) {i : Nat} (hi : i < n) : Rd w (el A (i * k)) ((xs.drop (i * k)).take k) := by
  obtain ⟨ad, rfl, hr⟩ := h.2.2 (by omega)
  rw [el_some]
  exact hr.take _ _
theorem SlF.keep {w w' : World} {k : Nat} {A : Option Addr} {n : Nat} {xs : List Value} (h : SlF w k A n xs) (hk : ∀ p v, w.cell? p = some v → w'.cell? p = some v) : SlF w' k A n xs :=
  ⟨h.1, h.2.1, fun hn => by
    obtain ⟨ad, e, hr⟩ := h.2.2 hn
    exact ⟨ad, e, fun j v hv => hk _ v (hr j v hv)⟩⟩
/-- A part of a slice: 's[l:h]'. -/
@[irreducible] def cutA (A : Option Addr) (cap l k : Nat) : Option Addr := if cap = l then A else A.map (·.add (l * k))
theorem SlF.cut {w : World} {k : Nat} {A : Option Addr} {n cap : Nat} {xs : List Value} (h : SlF w k A n xs) {l m : Nat} (hl : l ≤ m) (hm : m ≤ n) (hc : n ≤ cap) :
    SlF w k (cutA A cap l k) (m - l) ((xs.drop (l * k)).take ((m - l) * k)) := by
  refine ⟨?_, by have := h.2.1; omega, fun hn => ?_⟩
  · rw [List.length_take, List.length_drop, h.1]
    have h1 : (m - l) * k ≤ n * k - l * k := by rw [← Nat.sub_mul]; exact Nat.mul_le_mul_right k (by omega)
    omega
  · obtain ⟨ad, rfl, hr⟩ := h.2.2 (by omega)
    refine ⟨ad.add (l * k), ?_, ?_⟩
    · unfold cutA
      rw [if_neg (by omega)]
      rfl
    · exact hr.take _ _
section
variable {P : Program} {Q : Exit → Act → World → Prop} {w0 : World} {M : List Nat} {N : Fm} {r : Option Nat} {cs : List It} {s : List (Nat × Value)} {h : List En} {ops : Array Oper} {rest : List Oper} {o : Oper}
theorem Hold.slf0 {w : World} (hh : Hold w0 [] h w) {k : Nat} {A : Option Addr} {n : Nat} {xs : List Value} (hS : SlF w0 k A n xs) : SlF w k A n xs := hS.keep fun _ _ hp => hh.cell0 hp (by simp)
theorem Hold.slfM {w : World} (hh : Hold w0 M h w) {k : Nat} {A : Option Addr} {n : Nat} {xs : List Value} (hS : SlF w0 k A n xs) (hA : 0 < n → ∀ ad, A = some ad → ad.block ∉ M) : SlF w k A n xs := by
  refine ⟨hS.1, hS.2.1, fun hn => ?_⟩
  obtain ⟨ad, rfl, hr⟩ := hS.2.2 hn
  refine ⟨ad, rfl, fun j v hv => hh.cell0 (hr j v hv) ?_⟩
  have : (ad.add j).block = ad.block := by unfold Addr.add; split <;> rfl
  rw [this]
  exact hA hn ad rfl
theorem Hold.arg_apart {w : World} (hh : Hold w0 [] h w) {k : Nat} {A : Option Addr} {n : Nat} {xs : List Value} (hS : SlF w0 k A n xs) (hk : 0 < k) (hn : 0 < n) {ad : Addr} (hA : A = some ad) : ad.block ∉ h.filterMap (·.foot) := by
  obtain ⟨ad', h1, hr⟩ := hS.2.2 hn
  rw [hA] at h1
  cases h1
  intro hm
  obtain ⟨en, he, hf⟩ := List.mem_filterMap.1 hm
  have h2 : 0 < xs.length := by rw [hS.1]; exact Nat.mul_pos hn hk
  have h3 := World.block_lt_of_cell? w0 _ (hr 0 _ (List.getElem?_eq_getElem h2))
  have h4 : (ad.add 0).block = ad.block := by unfold Addr.add; split <;> rfl
  rw [h4] at h3
  rcases hh.foots en he _ hf with h5 | h5
  · cases h5
  · omega
theorem Hold.ent {w : World} (hh : Hold w0 M h w) {i : Nat} {en : En} (hi : h[i]? = some en) : en.holds w := hh.ents en (List.mem_of_getElem? hi)
theorem blk_heap {w : World} {b : Nat} {cs : List Value} {T : TypeId} (hb : (En.blk b cs T).holds w) : w.heap[b]? = some (.cells cs.toArray T (0, 0)) := by
  obtain ⟨ob, h1, h2⟩ := hb
  rw [h1, h2]
theorem blk_cell {w : World} {b : Nat} {cs : List Value} {T : TypeId} (hb : (En.blk b cs T).holds w) (j : Nat) : w.cell? ⟨b, j, none⟩ = cs[j]? := by
  simp [World.cell?, blk_heap hb]
theorem addr_add (b o n : Nat) : (⟨b, o, none⟩ : Addr).add n = ⟨b, o + n, none⟩ := Addr.add_lit b o n
theorem Hold.rd_blk {w : World} (hh : Hold w0 M h w) (i : Nat) {b : Nat} {cs vs : List Value} {T : TypeId} {off k : Nat} (hi : h[i]? = some (En.blk b cs T)) (hs : sb cs off k = some vs) : Rd w ⟨b, off, none⟩ vs := fun j v hv => by
  rw [addr_add, blk_cell (hh.ent hi)]
  exact (sb_get hs).2 j v hv
theorem Hold.slf_blk {w : World} (hh : Hold w0 M h w) (i : Nat) {b : Nat} {cs : List Value} {T : TypeId} {n k : Nat} (hi : h[i]? = some (En.blk b cs T)) (hn : cs.length = n * k) (hm : n ≤ maxLen) : SlF w k (some ⟨b, 0, none⟩) n cs :=
  ⟨hn, hm, fun _ => ⟨_, rfl, fun j v hv => by rw [addr_add, blk_cell (hh.ent hi)]; simpa using hv⟩⟩
theorem row_own {w : World} {A : Option Addr} {n cap E k : Nat} {xs : List Value} (hr : (En.row A n cap E k xs).holds w) : w.ownsRow 0 E k (.slice A n cap) n xs := by
  unfold En.holds En.row at hr
  cases A with
  | none =>
    obtain ⟨h1, h2⟩ := hr
    refine ⟨h1, ?_⟩
    rcases h2 with ⟨_, rfl, rfl, _⟩ | ⟨g, cur, e, _⟩
    · exact .inl ⟨rfl, rfl⟩
    · cases e
  | some ad =>
    obtain ⟨ob, hob, h1, h2⟩ := hr
    refine ⟨h1, ?_⟩
    rcases h2 with ⟨e, _⟩ | ⟨g, cur, e, ho, h3, h4, h5, h6⟩
    · cases e
    · cases e
      cases ho
      exact .inr ⟨g, cap, cur, rfl, Nat.zero_le _, hob, h3, h4, h5, h6⟩
theorem own_row {w : World} {n E k : Nat} {v : Value} {xs : List Value} (hr : w.ownsRow 0 E k v n xs) : ∃ A cap, v = .slice A n cap ∧ (En.row A n cap E k xs).holds w ∧ A.map (·.block) = v.ownBlock := by
  obtain ⟨h1, h2⟩ := hr
  rcases h2 with ⟨rfl, rfl⟩ | ⟨g, cap, cur, rfl, _, hg, h3, h4, h5, h6⟩
  · exact ⟨none, 0, rfl, ⟨h1, .inl ⟨rfl, rfl, rfl, rfl⟩⟩, rfl⟩
  · exact ⟨some ⟨g, 0, none⟩, cap, rfl, ⟨_, hg, h1, .inr ⟨g, cur, rfl, rfl, h3, h4, h5, h6⟩⟩, rfl⟩
theorem own_slf {w : World} {n cap E k : Nat} {A : Option Addr} {xs : List Value} (hr : w.ownsRow 0 E k (.slice A n cap) n xs) : SlF w k A n xs := by
  obtain ⟨h1, h2⟩ := hr
  rcases h2 with ⟨e, rfl⟩ | ⟨g, cap', cur, e, _, hg, h3, h4, h5, h6⟩
  · have : xs = [] := List.eq_nil_of_length_eq_zero (by simpa using h1)
    subst this
    exact SlF.nil w k A
  · injection e with e1 e2 e3
    subst e1
    refine ⟨h1, by omega, fun _ => ⟨_, rfl, fun j v hv => ?_⟩⟩
    rw [addr_add, Nat.zero_add]
    have hj : j < n * k := by rw [← h1]; exact (List.getElem?_eq_some_iff.1 hv).1
    rw [← h6, List.getElem?_take, if_pos hj] at hv
    simp [World.cell?, hg]
    simpa using hv
theorem Hold.slf_row {w : World} (hh : Hold w0 M h w) (i : Nat) {A : Option Addr} {n cap E k : Nat} {xs : List Value} (hi : h[i]? = some (En.row A n cap E k xs)) : SlF w k A n xs := own_slf (row_own (hh.ent hi))
/-! ### facts on types -/
def NA (P : Program) (t : TypeId) : Prop := (∀ w, (isAgg t).run P w = .ok false w) ∧ ∀ w, (sizeOf t).run P w = .ok 1 w
def AG (P : Program) (t : TypeId) (k : Nat) : Prop := (∀ w, (isAgg t).run P w = .ok true w) ∧ ∀ w, (sizeOf t).run P w = .ok k w
def FA (P : Program) (t f off : Nat) : Prop := ∀ ad w, (Instr.fieldAt t (.pointer (some ad)) f).run P w = .ok (.pointer (some (ad.add off))) w
/-- A slice type t, its element type e, which has k cells. -/
def ST (P : Program) (t e k : Nat) : Prop := P.underlying t = some (.slice e) ∧ ∀ w, (sizeOf e).run P w = .ok k w
/-- A type's zero value, its cells, its bytes. -/
def ZT (P : Program) (e : TypeId) (z : Value) (k bytes : Nat) : Prop := (P.info? e).map (fun i => (i.zero, i.size, i.bytes)) = some (some z, k, bytes)
theorem ZT.parts {e : TypeId} {z : Value} {k bytes : Nat} (hz : ZT P e z k bytes) : ∃ i, P.info? e = some i ∧ i.zero = some z ∧ i.size = k ∧ i.bytes = bytes := by
  obtain ⟨i, hi, h2⟩ := Option.map_eq_some_iff.1 hz
  simp only [Prod.mk.injEq] at h2
  exact ⟨i, hi, h2.1, h2.2.1, h2.2.2⟩
/-! ### loads, addresses -/
theorem Ex.load1 {t : TypeId} {x : Operand} {ad : Addr} {v : Value} (hop : o.op = .load t x) (hn : NA P t) (hx : ev s x = some (.pointer (some ad))) (hr : ∀ w, Hold w0 M h w → Rd w ad [v]) : Ex P w0 M N s h o v := fun a w ha hw => by
  have h1 := hr w hw 0 v rfl
  rw [Addr.add_zero'] at h1
  simp [execOp, hop, ha.eval hx, Instr.loadAt, Instr.sureAddr, loadVar, hn.1 w, h1]
theorem Ex.loadK {t : TypeId} {x : Operand} {ad : Addr} {vs : List Value} (hop : o.op = .load t x) (hn : AG P t vs.length) (hx : ev s x = some (.pointer (some ad))) (hr : ∀ w, Hold w0 M h w → Rd w ad vs) : Ex P w0 M N s h o (.agg vs.toArray) := fun a w ha hw => by
  have h1 := run_loadCells_list (P := P) w ad vs (hr w hw)
  simp [execOp, hop, ha.eval hx, Instr.loadAt, Instr.sureAddr, loadVar, hn.1 w, hn.2 w, h1]
theorem Ex.fa {t f fo : Nat} {x : Operand} {b off : Nat} (hop : o.op = .fieldAddr t x f) (hf : FA P t f fo) (hx : ev s x = some (.pointer (some ⟨b, off, none⟩))) : Ex P w0 M N s h o (.pointer (some ⟨b, off + fo, none⟩)) := fun a w ha hw => by
  simp [execOp, hop, ha.eval hx, hf _ w, addr_add]
theorem Ex.fe {t f fo : Nat} {x : Operand} {A : Option Addr} {p : Nat} (hop : o.op = .fieldAddr t x f) (hf : FA P t f fo) (hx : ev s x = some (.pointer (some (el A p)))) : Ex P w0 M N s h o (.pointer (some (el A (p + fo)))) := fun a w ha hw => by
  simp [execOp, hop, ha.eval hx, hf _ w, el_add]
theorem Ex.ix {t e k : Nat} {x y : Operand} {A : Option Addr} {n c : Nat} {kk : IntKind} {i : Int} (hop : o.op = .indexAddr t x y) (ht : ST P t e k) (hx : ev s x = some (.slice A n c)) (hy : ev s y = some (.int kk i))
    (h0 : 0 ≤ i) (h1 : i < n) (hA : ∀ w, Hold w0 M h w → 0 < n → A.isSome = true) : Ex P w0 M N s h o (.pointer (some (el A (i.toNat * k)))) := fun a w ha hw => by
  have hs := hA w hw (by omega)
  cases A with
  | none => cases hs
  | some ad =>
    simp [execOp, hop, ha.eval hx, ha.eval hy, Instr.indexAt, asIntOf, run_underlying ht.1, ht.2 w, h0, h1, el_some]
/-! ### slices -/
theorem run_cut {t e k : Nat} (ht : ST P t e k) (A : Option Addr) (n c : Nat) (l m : Nat) (w : World) (b : Nat × Nat × Nat) {lo hi : Option Value}
    (hb : (Instr.sliceBounds true n c lo hi none).run P w = .ok b w) (hbe : b = (l, m, c)) : (Instr.sliceAt t (.slice A n c) lo hi none).run P w = .ok (.slice (cutA A c l k) (m - l) (c - l)) w := by
  subst hbe
  simp [Instr.sliceAt, Instr.slice, run_underlying ht.1, hb, ht.2 w, cutA]
theorem Ex.slice_lh {t e k : Nat} {x y z : Operand} {A : Option Addr} {n c : Nat} {k1 k2 : IntKind} {i j : Int} (hop : o.op = .slice t x (some y) (some z) none) (ht : ST P t e k) (hx : ev s x = some (.slice A n c))
    (hy : ev s y = some (.int k1 i)) (hz : ev s z = some (.int k2 j)) (h0 : 0 ≤ i) (h1 : i ≤ j) (h2 : j ≤ c) : Ex P w0 M N s h o (.slice (cutA A c i.toNat k) (j.toNat - i.toNat) (c - i.toNat)) := fun a w ha _ => by
  have h3 : (j.toNat : Int) = j := Int.toNat_of_nonneg (by omega)
  have h4 : 0 ≤ j := by omega
  have := run_cut (P := P) ht A n c i.toNat j.toNat w (i.toNat, j.toNat, c) (lo := some (.int k1 i)) (hi := some (.int k2 j)) (by
    simp [Instr.sliceBounds, Instr.sliceBound, asIntOf, h0, h1, h2, h3, h4]) rfl
  simp [execOp, hop, ha.eval hx, ha.eval hy, ha.eval hz, this]
theorem Ex.slice_l {t e k : Nat} {x y : Operand} {A : Option Addr} {n c : Nat} {k1 : IntKind} {i : Int} (hop : o.op = .slice t x (some y) none none) (ht : ST P t e k) (hx : ev s x = some (.slice A n c))
    (hy : ev s y = some (.int k1 i)) (h0 : 0 ≤ i) (h1 : i ≤ n) : Ex P w0 M N s h o (.slice (cutA A c i.toNat k) (n - i.toNat) (c - i.toNat)) := fun a w ha _ => by
  have := run_cut (P := P) ht A n c i.toNat n w (i.toNat, n, c) (lo := some (.int k1 i)) (hi := none) (by
    simp [Instr.sliceBounds, Instr.sliceBound, asIntOf, h0, h1]) rfl
  simp [execOp, hop, ha.eval hx, ha.eval hy, this]
theorem Ex.slice_h {t e k : Nat} {x z : Operand} {A : Option Addr} {n c : Nat} {k2 : IntKind} {j : Int} (hop : o.op = .slice t x none (some z) none) (ht : ST P t e k) (hx : ev s x = some (.slice A n c))
    (hz : ev s z = some (.int k2 j)) (h0 : 0 ≤ j) (h2 : j ≤ c) : Ex P w0 M N s h o (.slice A j.toNat c) := fun a w ha _ => by
  have h1 := run_cut (P := P) ht A n c 0 j.toNat w (0, j.toNat, c) (lo := none) (hi := some (.int k2 j)) (by
    simp [Instr.sliceBounds, Instr.sliceBound, asIntOf, h0, h2]) rfl
  have h3 : cutA A c 0 k = A := by
    unfold cutA
    split
    · rfl
    · cases A <;> simp [Addr.add]
  rw [h3] at h1
  simp [execOp, hop, ha.eval hx, ha.eval hz, h1]
/-! ### new blocks -/
theorem grownBy_alloc' (w : World) (ob : Obj) : w.grownBy (w.alloc ob) none := World.grownBy_alloc w ob none
theorem Hold.alloc {w : World} (hh : Hold w0 M h w) (cs : List Value) (T : TypeId) : Hold w0 M (En.blk w.heap.size cs T :: h) (w.alloc (.cells cs.toArray T)) :=
  hh.new (grownBy_alloc' w _) (Nat.le_refl _) ⟨_, heap_alloc_new w _, rfl⟩ (fun b hb => by simp [En.blk] at hb; omega)
theorem Dw.box {t : TypeId} {x : Operand} {v : Value} {vs : List Value} (hop : o.op = .box t x) (hx : ev s x = some v) (hv : v.cells = vs.toArray) :
    Dw P w0 M N s h o (fun u h' => ∃ b, u = .pointer (some ⟨b, 0, none⟩) ∧ h' = En.blk b vs t :: h) := .of_run fun a w ha hw =>
  ⟨_, _, w.alloc (.cells vs.toArray t), .inl (by simp [execOp, hop, ha.eval hx, Instr.box, newVar, newRow, hv]), hw.alloc vs t, _, rfl, rfl⟩
theorem Dw.alloc {t : TypeId} {z : Value} {k b : Nat} {vs : List Value} (hop : o.op = .alloc t) (hz : ZT P t z k b) (hv : z.cells = vs.toArray) :
    Dw P w0 M N s h o (fun u h' => ∃ b, u = .pointer (some ⟨b, 0, none⟩) ∧ h' = En.blk b vs t :: h) := .of_run fun a w ha hw => by
  obtain ⟨i, hi, hi1, _⟩ := hz.parts
  exact ⟨_, _, w.alloc (.cells vs.toArray t), .inl (by simp [execOp, hop, Instr.alloc, zeroValue, typeInfo, hi, hi1, newVar, newRow, hv]), hw.alloc vs t, _, rfl, rfl⟩
def evp (s : List (Nat × Value)) : List (Nat × Operand) → Option (List (Nat × Value))
  | [] => some []
  | p :: l => match ev s p.2, evp s l with
    | some v, some r => some ((p.1, v) :: r)
    | _, _ => none
theorem Ag.evp {a : Act} (ha : Ag N s a) : ∀ {l : List (Nat × Operand)} {r : List (Nat × Value)}, J.evp s l = some r → (l.map fun p => (p.1, a.eval p.2)) = r
  | [], r, h => by simp [J.evp] at h; simp [h]
  | p :: l, r, h => by
    simp only [J.evp] at h
    split at h
    · rename_i v q h1 h2
      simp only [Option.some.injEq] at h
      subst h
      simp [ha.eval h1, ha.evp h2]
    · cases h
def cl : Value → List Value
  | .agg a => a.toList
  | v => [v]
def app : List Value → List Value → List Value
  | [], r => r
  | v :: l, r => v :: app l r
def bc : List (Nat × Value) → List Value
  | [] => []
  | p :: l => app (cl p.2) (bc l)
def setL : List Value → Nat → Value → List Value
  | [], _, _ => []
  | _ :: l, 0, v => v :: l
  | u :: l, n + 1, v => u :: setL l n v
def putM : List Value → Nat → List Value → List Value
  | l, _, [] => l
  | l, n, v :: vs => putM (setL l n v) (n + 1) vs
def nthN : List Nat → Nat → Nat
  | [], _ => 0
  | n :: _, 0 => n
  | _ :: l, k + 1 => nthN l k
def bl : List Value → List Nat → List (Nat × Value) → List Value
  | z, _, [] => z
  | z, offs, p :: l => bl (putM z (nthN offs p.1) (cl p.2)) offs l
theorem Ex.build {t : TypeId} {parts : Array (Nat × Operand)} {ps : List (Nat × Value)} {vs : List Value} (z : List Value) (offs : List Nat) (hop : o.op = .build t parts) (hp : evp s parts.toList = some ps) (_hv : bl z offs ps = vs) (hr : ∀ w, (Instr.build t ps.toArray).run P w = .ok (.agg vs.toArray) w) : Ex P w0 M N s h o (.agg vs.toArray) := fun a w ha _ => by
  have h1 := ha.evp hp
  have h2 : (parts.map fun p => (p.1, a.eval p.2)) = ps.toArray := by
    rw [← h1]
    cases parts
    simp
  simp only [execOp, hop]
  rw [h2]
  simp [hr w]
theorem Dw.buildSlice {t e k n : Nat} {parts : Array (Nat × Operand)} {ps : List (Nat × Value)} {vs : List Value} (hop : o.op = .buildSlice t n parts) (hp : evp s parts.toList = some ps) (_hv : bc ps = vs)
    (hr : ∀ w, (Instr.buildSlice t n ps.toArray).run P w = .ok (.slice (some ⟨w.heap.size, 0, none⟩) n n) (w.alloc (.cells vs.toArray e))) (_hl : vs.length = n * k) :
    Dw P w0 M N s h o (fun u h' => ∃ b, u = .slice (some ⟨b, 0, none⟩) n n ∧ h' = En.blk b vs e :: h) := .of_run fun a w ha hw => by
  have h1 := ha.evp hp
  have h2 : (parts.map fun p => (p.1, a.eval p.2)) = ps.toArray := by
    rw [← h1]
    cases parts
    simp
  refine ⟨_, _, w.alloc (.cells vs.toArray e), .inl ?_, hw.alloc vs e, _, rfl, rfl⟩
  simp only [execOp, hop]
  rw [h2]
  simp [hr w]
/-! ### stores into a block that is known whole -/
theorem setCell_blk {w : World} {b off : Nat} {cs : List Value} {T : TypeId} (hb : w.heap[b]? = some (.cells cs.toArray T (0, 0))) (v : Value) :
    (w.setCell ⟨b, off, none⟩ v).heap[b]? = some (.cells (cs.set off v).toArray T (0, 0)) := by
  simp [World.setCell, Array.getElem?_modify, hb, List.setIfInBounds_toArray]
theorem grownBy_setCell (w : World) (b off : Nat) (v : Value) : w.grownBy (w.setCell ⟨b, off, none⟩ v) (some b) :=
  ⟨rfl, rfl, rfl, by simp [World.setCell], fun k _ hk => by
    simp only [World.setCell, Array.getElem?_modify]
    rw [if_neg (fun e => hk (by rw [e]))]⟩
theorem run_store_blk {w : World} {b off : Nat} {cs : List Value} {T : TypeId} (hb : w.heap[b]? = some (.cells cs.toArray T (0, 0))) (ho : off < cs.length) {v : Value} (hv : v.oneCell' = true) :
    (store ⟨b, off, none⟩ v).run P w = .ok () (w.setCell ⟨b, off, none⟩ v) := by
  rw [run_store P w _ v _ hv]
  have h1 : w.cell? ⟨b, off, none⟩ = some (cs[off]) := by simp [World.cell?, hb, ho]
  have h2 : w.frozen? ⟨b, off, none⟩ = false := by simp [World.frozen?, hb]
  simp [h1, h2]
def putL : List Value → Nat → List Value → List Value
  | cs, _, [] => cs
  | cs, off, v :: vs => putL (cs.set off v) (off + 1) vs
theorem putL_length : ∀ (vs cs : List Value) (off : Nat), (putL cs off vs).length = cs.length
  | [], _, _ => rfl
  | v :: vs, cs, off => by simp [putL, putL_length vs]
theorem run_storeCells_blk : ∀ (vs : List Value) {w : World} {b off i : Nat} {cs : List Value} {T : TypeId} (_ : w.heap[b]? = some (.cells cs.toArray T (0, 0))) (_ : off + i + vs.length ≤ cs.length) (_ : ∀ v ∈ vs, v.oneCell' = true),
    ∃ w', (storeCells ⟨b, off, none⟩ vs i).run P w = .ok () w' ∧ w'.heap[b]? = some (.cells (putL cs (off + i) vs).toArray T (0, 0)) ∧ w.grownBy w' (some b)
  | [], w, b, off, i, cs, T, hb, _, _ => ⟨w, by simp [storeCells], hb, World.grownBy.refl w _⟩
  | v :: vs, w, b, off, i, cs, T, hb, hl, hv => by
    simp only [List.length_cons] at hl
    have h1 := run_store_blk (P := P) hb (off := off + i) (by omega) (hv v (by simp))
    obtain ⟨w', h2, h3, h4⟩ := run_storeCells_blk vs (off := off) (i := i + 1) (setCell_blk hb (off := off + i) v) (by simp; omega) (fun u hu => hv u (by simp [hu]))
    refine ⟨w', ?_, h3, (grownBy_setCell w b (off + i) v).trans h4⟩
    simp only [storeCells, addr_add]
    simp [h1, h2]
def puts (v : Value) : List Value := v.cells.toList
theorem Dw.store {t k : Nat} {x y : Operand} {b off : Nat} {v : Value} {i : Nat} {cs : List Value} {T : TypeId} (hop : o.op = .store t x y) (ht : ∀ w, (sizeOf t).run P w = .ok k w) (hx : ev s x = some (.pointer (some ⟨b, off, none⟩)))
    (hy : ev s y = some v) (vs : List Value) (hv : v.cells = vs.toArray) (hk : vs.length = k) (h1 : ∀ u ∈ vs, u.oneCell' = true) (hi : h[i]? = some (En.blk b cs T)) (hl : Nat.ble (off + k) cs.length = true) :
    Dw P w0 M N s h o (fun u h' => u = undef ∧ h' = h.set i (En.blk b (putL cs off vs) T)) := .of_run fun a w ha hw => by
  have hb := blk_heap (hw.ent hi)
  obtain ⟨w', h2, h3, h4⟩ := run_storeCells_blk (P := P) vs (off := off) (i := 0) hb (by have := Nat.le_of_ble_eq_true hl; omega) h1
  refine ⟨undef, _, w', .inr ⟨?_, rfl⟩, hw.turn (en' := En.blk b (putL cs off vs) T) hi h4 (run_drawn _ h2) ⟨_, by simpa using h3, rfl⟩ (fun b' hb' => .inl hb'), rfl, rfl⟩
  have hsz : v.cells.size = k := by rw [hv]; simpa using hk
  have hvs : v.cells.toList = vs := by rw [hv]
  simp [execOp, hop, ha.eval hx, ha.eval hy, Instr.storeAt, Instr.sureAddr, storeVar, ht w, hsz, hvs, h2]
/-! ### append -/
/-- append onto a row of the call's own. -/
theorem Dw.append {t e k bytes : Nat} {x y : Operand} {z : Value} {A B : Option Addr} {n cap m c : Nat} {xs news : List Value} (i : Nat) (hop : o.op = .call { callee := .builtin .append, args := #[x, y], argTypes := #[t, t] })
    (ht : P.underlying t = some (.slice e)) (hz : ZT P e z k bytes) (hzs : z.cells.size = k) (hk : 0 < k) (hx : ev s x = some (.slice A n cap)) (hi : h[i]? = some (En.row A n cap e k xs))
    (hy : ev s y = some (.slice B m c)) (hn : ∀ w, Hold w0 M h w → SlF w k B m news) (h1 : ∀ u ∈ news, u.oneCell' = true) (hb : (n + m) * bytes ≤ 140737488355328) (hm : n + m ≤ 140737488355328) :
    Dw P w0 M N s h o (fun u h' => ∃ A' cap', u = .slice A' (n + m) cap' ∧ h' = h.set i (En.row A' (n + m) cap' e k (xs ++ news))) := .of_run fun a w ha hw => by
  obtain ⟨i0, hi0, hi1, hi2, hi3⟩ := hz.parts
  have hown := row_own (hw.ent hi)
  have hS := hn w hw
  have key : ∃ v' w', (Builtin.append_ #[t, t] o.type #[.slice A n cap, .slice B m c]).run P w = .ok v' w' ∧ w'.ownsRow 0 e k v' (n + m) (xs ++ news) ∧ w.grownBy w' (Value.ownBlock (.slice A n cap)) ∧
      (v'.ownBlock = Value.ownBlock (.slice A n cap) ∨ v'.ownBlock = some w.heap.size) := by
    rcases Nat.eq_zero_or_pos m with h0 | h0
    · subst h0
      have hnil : news = [] := List.eq_nil_of_length_eq_zero (by simpa using hS.1)
      subst hnil
      refine ⟨.slice A n cap, w, ?_, by simpa using hown, World.grownBy.refl w _, .inl rfl⟩
      have hle : n ≤ cap := by
        rcases hown.2 with ⟨e1, rfl⟩ | ⟨g, cap', cur, e1, _, _, h3, _⟩
        · exact Nat.zero_le _
        · injection e1 with _ _ e3
          omega
      cases A with
      | none => cases B <;> simp [Builtin.append_, run_underlying ht, sizeOf, typeInfo, hi0, Builtin.lenOf, Builtin.firstCells, hle, loadCells, loadCellsFrom]
      | some ad => cases B <;> simp [Builtin.append_, run_underlying ht, sizeOf, typeInfo, hi0, Builtin.lenOf, Builtin.firstCells, hle, storeCells, loadCells, loadCellsFrom]
    · obtain ⟨ad, rfl, hr⟩ := hS.2.2 h0
      obtain ⟨v', w', hrun, h2, h3, _, h5⟩ := run_append_own_at (P := P) w 0 t o.type e i0 z k bytes ht hi0 hi1 hi2 hi3 hzs hk _ n xs hown ad m c news hS.1 hr h1 (by simp only [maxLen]; omega) hb (Nat.zero_le _)
      exact ⟨v', w', hrun, h2, h3, h5⟩
  obtain ⟨v', w', hrun, h2, h3, h5⟩ := key
  obtain ⟨A', cap', rfl, hrow, hfoot⟩ := own_row h2
  refine ⟨_, _, w', .inl ?_, hw.turn hi (en' := En.row A' (n + m) cap' e k (xs ++ news)) ?_ (run_drawn _ hrun) hrow ?_, A', cap', rfl, rfl⟩
  · simp [execOp, hop, resolve, invoke, builtin, ha.eval hx, ha.eval hy, hrun]
  · have : (En.row A n cap e k xs).foot = Value.ownBlock (.slice A n cap) := by cases A <;> rfl
    rw [this]
    exact h3
  · intro b hb'
    have e1 : (En.row A n cap e k xs).foot = Value.ownBlock (.slice A n cap) := by cases A <;> rfl
    have e2 : (En.row A' (n + m) cap' e k (xs ++ news)).foot = Value.ownBlock (.slice A' (n + m) cap') := hfoot
    rw [e2] at hb'
    rcases h5 with h5 | h5
    · rw [h5] at hb'
      rw [e1]
      exact .inl hb'
    · rw [h5] at hb'
      injection hb' with hb'
      exact .inr (by omega)
/-- A new nil row among the entries. -/
theorem Hold.nilrow {w : World} (hh : Hold w0 M h w) (E k : Nat) : Hold w0 M (En.row none 0 0 E k [] :: h) w :=
  hh.new (World.grownBy.refl w _) (Nat.le_refl _) ⟨by simp, .inl ⟨rfl, rfl, rfl, rfl⟩⟩ (fun b hb => by simp [En.row] at hb)
theorem WA.nilrow (E k : Nat) (H : WA P Q r w0 M N cs s (En.row none 0 0 E k [] :: h)) : WA P Q r w0 M N cs s h := fun a w ha hw => H a w ha (hw.nilrow E k)
theorem WR.nilrow (E k : Nat) (H : WR P Q r w0 M N ops rest cs s (En.row none 0 0 E k [] :: h)) : WR P Q r w0 M N ops rest cs s h := fun a w ha hw => H a w ha (hw.nilrow E k)
theorem WH.nilrow {hS : List En} {fuel : Nat} {listed : Array Bool} (E k : Nat) (H : WH P Q w0 M N ops hS fuel listed cs s (En.row none 0 0 E k [] :: h)) : WH P Q w0 M N ops hS fuel listed cs s h := fun a w ha hw => H a w ha (hw.nilrow E k)
/-- A block that is known whole, as a row. -/
theorem Hold.asrow {w : World} (hh : Hold w0 M h w) (i : Nat) {b n k : Nat} {vs : List Value} {T : TypeId} (hi : h[i]? = some (En.blk b vs T)) (hl : vs.length = n * k) (hm : n ≤ maxLen) : Hold w0 M (h.set i (En.row (some ⟨b, 0, none⟩) n n T k vs)) w :=
  hh.turn hi (World.grownBy.refl w _) (Nat.le_refl _) ⟨_, blk_heap (hh.ent hi), hl, .inr ⟨b, vs.toArray, rfl, rfl, Nat.le_refl _, hm, by simpa using hl, by simp [← hl]⟩⟩ (fun _ hb => .inl hb)
theorem WR.asrow (i : Nat) {b k : Nat} {vs : List Value} {T : TypeId} (n : Nat) (hi : h[i]? = some (En.blk b vs T)) (hl : vs.length = n * k) (hm : n ≤ maxLen) (H : WR P Q r w0 M N ops rest cs s (h.set i (En.row (some ⟨b, 0, none⟩) n n T k vs))) : WR P Q r w0 M N ops rest cs s h :=
  fun a w ha hw => H a w ha (hw.asrow i hi hl hm)
theorem WH.asrow {hS : List En} {fuel : Nat} {listed : Array Bool} (i : Nat) {b k : Nat} {vs : List Value} {T : TypeId} (n : Nat) (hi : h[i]? = some (En.blk b vs T)) (hl : vs.length = n * k) (hm : n ≤ maxLen) (H : WH P Q w0 M N ops hS fuel listed cs s (h.set i (En.row (some ⟨b, 0, none⟩) n n T k vs))) : WH P Q w0 M N ops hS fuel listed cs s h :=
  fun a w ha hw => H a w ha (hw.asrow i hi hl hm)
/-- A row, cut behind its first elements. -/
theorem Hold.cutrow {w : World} (hh : Hold w0 M h w) (i : Nat) {A : Option Addr} {n cap E k : Nat} {xs : List Value} (m : Nat) (hi : h[i]? = some (En.row A n cap E k xs)) (hm : m ≤ n) : Hold w0 M (h.set i (En.row A m cap E k (xs.take (m * k)))) w := by
  refine hh.turn hi (World.grownBy.refl w _) (Nat.le_refl _) ?_ (fun _ hb => .inl hb)
  have h0 := hh.ent hi
  have hmk : m * k ≤ n * k := Nat.mul_le_mul_right k hm
  refine En.holds_imp h0 rfl fun ob ho => ?_
  obtain ⟨h1, h2⟩ := ho
  refine ⟨by rw [List.length_take, h1]; omega, ?_⟩
  rcases h2 with ⟨e1, e2, e3, e4⟩ | ⟨g, cur, e1, e2, e3, e4, e5, e6⟩
  · exact .inl ⟨e1, by omega, e3, e4⟩
  · refine .inr ⟨g, cur, e1, e2, by omega, e4, e5, ?_⟩
    rw [← e6, List.take_take, Nat.min_eq_left hmk]
/-! ### more operations -/
theorem Ex.eqnil {t e : TypeId} {x : Operand} {t' : TypeId} {A : Option Addr} {n c : Nat} {y : Operand} (hop : o.op = .binOp .eql t x y t') (ht : P.underlying t = some (.slice e)) (hx : ev s x = some (.slice A n c)) (hy : ev s y = some (.slice none 0 0)) :
    Ex P w0 M N s h o (.bool A.isNone) := fun a w ha _ => by
  simp [execOp, hop, ha.eval hx, ha.eval hy, eqGuard_at_slice, Lib.run_eql_slice_nil w t e A n c 0 0 ht]
/-- A conversion between whole numbers that both kinds have. -/
theorem Ex.conv {src dst : TypeId} {x : Operand} {k k' : IntKind} {p : Int} (hop : o.op = .convert src dst x) (hs : (P.underlying src).isSome = true) (hd : P.underlying dst = some (.int k')) (hx : ev s x = some (.int k p)) (hw : k'.wrap p = p) :
    Ex P w0 M N s h o (.int k' p) := fun a w ha _ => by
  obtain ⟨d, hd'⟩ := Option.isSome_iff_exists.1 hs
  simp [execOp, hop, ha.eval hx, convert, run_underlying hd', run_underlying hd, Conv.intToInt, hw]
theorem wrap_u64 {x : Int} (h1 : 0 ≤ x) (h2 : x ≤ 18446744073709551615) : IntKind.u64.wrap x = x := by
  unfold IntKind.wrap
  simp [IntKind.bits, IntKind.signed]
  omega
theorem Ex.shr1 {x y : Operand} {t t' : TypeId} {k : IntKind} {p : Int} (hop : o.op = .binOp .shr t x y t') (hx : ev s x = some (.int .u64 p)) (hy : ev s y = some (.int k 1)) : Ex P w0 M N s h o (.int .u64 (p / 2)) := fun a w ha _ => by
  simp [execOp, hop, ha.eval hx, ha.eval hy, eqGuard_at_int, binOp_shr, shift_shr_u64]
theorem Ex.max2 {x y : Operand} {p q : Int} {k : IntKind} {ats : Array TypeId} (hop : o.op = .call { callee := .builtin .max, args := #[x, y], argTypes := ats }) (hx : ev s x = some (.int k p)) (hy : ev s y = some (.int k q)) : Ex P w0 M N s h o (.int k (max p q)) := fun a w ha _ => by
  have e : (if p < q then q else p) = max p q := by omega
  simp [execOp, hop, ha.eval hx, ha.eval hy, resolve, invoke, builtin, Builtin.max_, Builtin.max2, e]
/-- A store into an element of a row of the call's own. -/
theorem putL_take : ∀ (vs cs ds : List Value) (off : Nat), off + vs.length ≤ cs.length → putL (cs ++ ds) off vs = putL cs off vs ++ ds
  | [], _, _, _, _ => rfl
  | v :: vs, cs, ds, off, hl => by
    simp only [List.length_cons] at hl
    simp only [putL]
    rw [List.set_append_left _ _ (by omega), putL_take vs (cs.set off v) ds (off + 1) (by simp; omega)]
theorem putL_take_pre : ∀ (vs cs : List Value) (off : Nat), (putL cs off vs).take off = cs.take off
  | [], _, _ => rfl
  | v :: vs, cs, off => by
    have h1 := congrArg (List.take off) (putL_take_pre vs (cs.set off v) (off + 1))
    simp only [List.take_take, Nat.min_eq_left (Nat.le_succ off)] at h1
    simp only [putL]
    rw [h1, List.take_set_of_le (Nat.le_refl _)]
theorem Dw.storeRow {t k kt : Nat} {x y : Operand} {A : Option Addr} {n cap E p : Nat} {xs : List Value} {v : Value} (i : Nat) (hop : o.op = .store t x y) (ht : ∀ w, (sizeOf t).run P w = .ok kt w) (hx : ev s x = some (.pointer (some (el A p))))
    (hy : ev s y = some v) (vs : List Value) (hv : v.cells = vs.toArray) (hk : vs.length = kt) (h1 : ∀ u ∈ vs, u.oneCell' = true) (hi : h[i]? = some (En.row A n cap E k xs)) (hl : p + kt ≤ n * k) (h0 : 0 < kt) :
    Dw P w0 M N s h o (fun u h' => u = undef ∧ h' = h.set i (En.row A n cap E k (putL xs p vs))) := .of_run fun a w ha hw => by
  have hent := hw.ent hi
  have hrow := row_own hent
  obtain ⟨hxl, hr⟩ := hrow
  rcases hr with ⟨_, hn0⟩ | ⟨g, cap', cur, e1, _, hg, h3, h4, h5, h6⟩
  · subst hn0
    omega
  injection e1 with e1 e2 e3
  subst e1
  subst e3
  have hcur : cur = cur.toList.toArray := by simp
  have hcl : cur.toList.length = cap * k := by simpa using h5
  have hnk : n * k ≤ cap * k := Nat.mul_le_mul_right k h3
  rw [hcur] at hg
  obtain ⟨w', h2, h3', h4'⟩ := run_storeCells_blk (P := P) vs (off := p) (i := 0) hg (by rw [hcl]; omega) h1
  have hfoot : (En.row (some ⟨g, 0, none⟩) n cap E k xs).foot = some g := rfl
  refine ⟨undef, _, w', .inr ⟨?_, rfl⟩, hw.turn (en' := En.row (some ⟨g, 0, none⟩) n cap E k (putL xs p vs)) hi (by rw [hfoot]; exact h4') (run_drawn _ h2) ?_ (fun b' hb' => .inl hb'), rfl, rfl⟩
  · have hsz : v.cells.size = kt := by rw [hv]; simpa using hk
    have hvs : v.cells.toList = vs := by rw [hv]
    have hel : el (some (⟨g, 0, none⟩ : Addr)) p = ⟨g, p, none⟩ := by rw [el_some, addr_add, Nat.zero_add]
    rw [hel] at hx
    simp [execOp, hop, ha.eval hx, ha.eval hy, Instr.storeAt, Instr.sureAddr, storeVar, ht w, hsz, hvs, h2]
  · refine ⟨_, h3', by rw [putL_length]; exact hxl, .inr ⟨g, _, rfl, rfl, h3, h4, ?_, ?_⟩⟩
    · simp [putL_length]
      simpa using h5
    · have hsplit : cur.toList = xs ++ cur.toList.drop (n * k) := by rw [← h6, List.take_append_drop]
      rw [Nat.add_zero]
      show (putL cur.toList p vs).take (n * k) = _
      rw [hsplit, putL_take vs xs _ p (by omega)]
      rw [List.take_append_of_le_length (by rw [putL_length]; omega), List.take_of_length_le (by rw [putL_length]; omega)]
/-- 'clear(s[j:])', s a row of the call's own. -/
theorem Dw.clearTail {t e k b : Nat} {z : Value} {x : Operand} {A : Option Addr} {n cap E : Nat} {jj : Int} {xs : List Value} (i : Nat) (hop : o.op = .call { callee := .builtin .clear, args := #[x], argTypes := #[t] }) (ht : P.underlying t = some (.slice e)) (hz : ZT P e z k b) (hzs : z.cells.size = k)
    (h1 : ∀ u ∈ z.cells.toList, u.oneCell' = true) (hx : ev s x = some (.slice (cutA A cap jj.toNat k) (n - jj.toNat) (cap - jj.toNat))) (hi : h[i]? = some (En.row A n cap E k xs)) (hj : jj.toNat ≤ n) :
    Dw P w0 M N s h o (fun u h' => u = .tuple #[] ∧ ∃ ys, ys.length = xs.length ∧ ys.take (jj.toNat * k) = xs.take (jj.toNat * k) ∧ h' = h.set i (En.row A n cap E k ys)) := .of_run fun a w ha hw => by
  generalize jj.toNat = j at hx hj ⊢
  have hset : h.set i (En.row A n cap E k xs) = h := by
    apply List.ext_getElem?
    intro q
    rw [List.getElem?_set]
    split
    · rename_i e
      subst e
      split
      · exact hi.symm
      · rename_i hl
        rw [List.getElem?_eq_none (by omega)]
    · rfl
  by_cases hnj : n - j = 0
  · refine ⟨.tuple #[], h, w, .inl ?_, hw, rfl, xs, rfl, rfl, hset.symm⟩
    rw [hnj] at hx
    cases hA : cutA A cap j k <;> rw [hA] at hx <;> simp [execOp, hop, resolve, invoke, builtin, ha.eval hx, Builtin.clear_, run_underlying ht]
  have hrow := row_own (hw.ent hi)
  obtain ⟨hxl, hr⟩ := hrow
  rcases hr with ⟨_, hn0⟩ | ⟨g, cap', cur, e1, _, hg, h3, h4, h5, h6⟩
  · omega
  injection e1 with e1 e2 e3
  subst e1
  subst e3
  have hcur : cur = cur.toList.toArray := by simp
  have hcl : cur.toList.length = cap * k := by simpa using h5
  have hnk : n * k ≤ cap * k := Nat.mul_le_mul_right k h3
  have hjk : j * k + (n - j) * k = n * k := by rw [← Nat.add_mul]; congr 1; omega
  rw [hcur] at hg
  let vs := (Builtin.zeroCells z.cells (n - j)).toList
  have hvl : vs.length = (n - j) * k := by simp [vs, Builtin.zeroCells, hzs]
  have hv1 : ∀ u ∈ vs, u.oneCell' = true := fun u hu => by
    have hu' : ∃ q, q < (n - j) * z.cells.size ∧ z.cells[q % z.cells.size]! = u := by simpa [vs, Builtin.zeroCells] using hu
    obtain ⟨q, hq, rfl⟩ := hu'
    have h0 : 0 < z.cells.size := by rcases Nat.eq_zero_or_pos z.cells.size with h | h; · rw [h] at hq; simp at hq
                                     · exact h
    have hm : q % z.cells.size < z.cells.size := Nat.mod_lt q h0
    rw [getElem!_pos z.cells (q % z.cells.size) hm]
    exact h1 _ (by simp)
  obtain ⟨w', h2, h3', h4'⟩ := run_storeCells_blk (P := P) vs (off := j * k) (i := 0) hg (by rw [hcl]; omega) hv1
  have hfoot : (En.row (some ⟨g, 0, none⟩) n cap E k xs).foot = some g := rfl
  rw [Nat.add_zero] at h3'
  have hpl : (putL cur.toList (j * k) vs).length = cap * k := by rw [putL_length]; exact hcl
  refine ⟨.tuple #[], _, w', .inl ?_, hw.turn (en' := En.row (some ⟨g, 0, none⟩) n cap E k ((putL cur.toList (j * k) vs).take (n * k))) hi (by rw [hfoot]; exact h4') (run_drawn _ h2) ?_ (fun b' hb' => .inl hb'), rfl, _, ?_, ?_, rfl⟩
  · have hel : cutA (some (⟨g, 0, none⟩ : Addr)) cap j k = some ⟨g, j * k, none⟩ := by
      unfold cutA
      rw [if_neg (by omega)]
      simp [addr_add]
    rw [hel] at hx
    obtain ⟨q, hq⟩ : ∃ q, n - j = q + 1 := ⟨n - j - 1, by omega⟩
    obtain ⟨i0, hi0, hi1, _⟩ := hz.parts
    have h2' := h2
    simp only [vs, hq] at h2'
    rw [hq] at hx
    simp [execOp, hop, resolve, invoke, builtin, ha.eval hx, Builtin.clear_, run_underlying ht, zeroValue, typeInfo, hi0, hi1, h2']
  · refine ⟨_, h3', by rw [List.length_take, hpl]; omega, .inr ⟨g, _, rfl, rfl, h3, h4, ?_, ?_⟩⟩
    · simpa using hpl
    · simp
  · rw [List.length_take, hpl, hxl]; omega
  · rw [List.take_take, Nat.min_eq_left (by omega), ← h6, List.take_take, Nat.min_eq_left (by omega)]
    exact putL_take_pre vs cur.toList (j * k)
end
end Go.J
