/- The calculus, part f: more operations: comparisons with nil, cap, copy, append of a make, slices.overlaps. It speaks of no program. -/
import Derived.Test.YtpbillinpjccdaaGreatJeQ
import Derived.Lib.Overlaps
import Derived.Lib.AppendZerosOnto
import Derived.Laws.Externs
import Derived.Laws.CopyRow
set_option linter.unusedVariables false
set_option linter.unusedSimpArgs false
set_option linter.unusedSectionVars false
namespace Go.J
open Go.RowKit
section
variable {P : Program} {Q : Exit → Act → World → Prop} {w0 : World} {M : List Nat} {n : Nat} {N : Fm} {r : Option Nat} {cs : List It} {s : List (Nat × Value)} {h : List En} {ops : Array Oper} {rest : List Oper} {o : Oper}
theorem run_equalIn_ptr_nil (w : World) (d : Nat) (t e : TypeId) (A : Option Addr) (h : P.underlying t = some (.pointer e)) : (Op.equalIn (d + 1) t (.pointer A) (.pointer none)).run P w = .ok A.isNone w := by
  cases A <;> simp [Op.equalIn, run_underlying h]
theorem run_equalIn_func_nil (w : World) (d : Nat) (t : TypeId) {ps rs : Array TypeId} {v : Bool} (f : Fn) (a c : Array Value) (h : P.underlying t = some (.func ps rs v)) : (Op.equalIn (d + 1) t (.func f a c) .nilFunc).run P w = .ok false w := by
  simp [Op.equalIn, run_underlying h]
theorem Ex.eqnilp {t e : TypeId} {x y : Operand} {t' : TypeId} {A : Option Addr} (hop : o.op = .binOp .eql t x y t') (ht : P.underlying t = some (.pointer e)) (hx : ev s x = some (.pointer A)) (hy : ev s y = some (.pointer none)) : Ex P w0 M N s h o (.bool A.isNone) := fun a w ha _ => by
  have e1 : (binOp .eql t (.pointer A) (.pointer none)).run P w = .ok (.bool A.isNone) w := by
    simp only [binOp]
    simp [Op.equal, Op.maxDepth, run_equalIn_ptr_nil w 9999 t e A ht]
  simp [execOp, hop, ha.eval hx, ha.eval hy, eqGuard_at_pointer, e1]
theorem Ex.eqnilf {t : TypeId} {ps rs : Array TypeId} {v : Bool} {x y : Operand} {t' : TypeId} {f : Fn} {a1 c1 : Array Value} (hop : o.op = .binOp .eql t x y t') (ht : P.underlying t = some (.func ps rs v)) (hx : ev s x = some (.func f a1 c1)) (hy : ev s y = some .nilFunc) : Ex P w0 M N s h o (.bool false) := fun a w ha _ => by
  have e1 : (binOp .eql t (.func f a1 c1) .nilFunc).run P w = .ok (.bool false) w := by
    simp only [binOp]
    simp [Op.equal, Op.maxDepth, run_equalIn_func_nil w 9999 t f a1 c1 ht]
  simp [execOp, hop, ha.eval hx, ha.eval hy, eqGuard_at_func, e1]
theorem Ex.cap {t e : TypeId} {x : Operand} {A : Option Addr} {n c : Nat} (hop : o.op = .call { callee := .builtin .cap, args := #[x], argTypes := #[t] }) (ht : P.underlying t = some (.slice e)) (hx : ev s x = some (.slice A n c)) : Ex P w0 M N s h o (.int .i64 (c : Int)) := fun a w ha _ => by
  simp [execOp, hop, resolve, invoke, builtin, ha.eval hx, Builtin.cap_, run_underlying ht, goInt]
/-- 'copy(s[j:], x)', s a row of the call's own. -/
theorem Dw.copyRow {dT sT e k : Nat} {x y : Operand} {A B : Option Addr} {n cap E m c d d' : Nat} {j : Nat} {xs news : List Value} (i : Nat) (hop : o.op = .call { callee := .builtin .copy, args := #[x, y], argTypes := #[dT, sT] }) (ht : P.underlying dT = some (.slice e)) (hz : ∀ w, (sizeOf e).run P w = .ok k w)
    (hx : ev s x = some (.slice (cutA A cap j k) d d')) (hd : d = n - j) (hy : ev s y = some (.slice B m c)) (hn : ∀ w, Hold w0 M h w → SlF w k B m news) (h1 : ∀ u ∈ news.take (min m (n - j) * k), u.oneCell' = true) (hi : h[i]? = some (En.row A n cap E k xs)) (hj : j ≤ n) :
    Dw P w0 M N s h o (fun u h' => u = .int .i64 ((min m (n - j) : Nat) : Int) ∧ h' = h.set i (En.row A n cap E k (putL xs (j * k) (news.take (min m (n - j) * k))))) := .of_run fun a w ha hw => by
  subst hd
  have hS := hn w hw
  have hmin : Nat.min m (n - j) = min m (n - j) := rfl
  have hvs : (Builtin.firstCells k (min m (n - j)) (.slice B m c)).run P w = .ok (news.take (min m (n - j) * k)).toArray w := by
    rcases Nat.eq_zero_or_pos m with h0 | h0
    · have hnil : news = [] := List.eq_nil_of_length_eq_zero (by rw [hS.1, h0, Nat.zero_mul])
      subst hnil
      subst h0
      cases B <;> simp [Builtin.firstCells, loadCells, loadCellsFrom]
    · obtain ⟨ad, rfl, hr⟩ := hS.2.2 h0
      have hle : min m (n - j) * k ≤ m * k := Nat.mul_le_mul_right k (Nat.min_le_left _ _)
      refine run_firstCells_some w k (min m (n - j)) ad m c (news.take (min m (n - j) * k)) (by rw [List.length_take, hS.1]; omega) (fun q v hq => ?_)
      rw [List.getElem?_take] at hq
      split at hq
      · exact hr q v hq
      · cases hq
  have hrow := row_own (hw.ent hi)
  obtain ⟨hxl, hr⟩ := hrow
  rcases hr with ⟨e1, hn0⟩ | ⟨g, cap', cur, e1, _, hg, h3, h4, h5, h6⟩
  · injection e1 with e1 e2 e3
    subst e1
    subst hn0
    have hj0 : j = 0 := by omega
    subst hj0
    have hxn : xs = [] := List.eq_nil_of_length_eq_zero (by simpa using hxl)
    subst hxn
    have hz0 : min m (0 - 0) = 0 := by omega
    rw [hz0] at hvs ⊢
    have hA : cutA (none : Option Addr) cap 0 k = none := by unfold cutA; split <;> rfl
    rw [hA] at hx
    have hset : h.set i (En.row none 0 cap E k []) = h := by
      apply List.ext_getElem?
      intro q
      rw [List.getElem?_set]
      split
      · rename_i e
        subst e
        split
        · exact hi.symm
        · rename_i hl
          rw [List.getElem?_eq_none (by omega)]
      · rfl
    refine ⟨_, h, w, .inl ?_, hw, rfl, by simpa [putL] using hset.symm⟩
    have hmz : Nat.min m 0 = 0 := by simp
    simp only [Nat.sub_zero] at hx
    have hv2 : (Builtin.firstCells k 0 (.slice B m c)).run P w = .ok #[] w := by simpa using hvs
    simp [execOp, hop, resolve, invoke, builtin, ha.eval hx, ha.eval hy, Builtin.copy_, run_underlying ht, Builtin.lenOf, hz, hv2, goInt]
  injection e1 with e1 e2 e3
  subst e1
  subst e3
  have hcur : cur = cur.toList.toArray := by simp
  have hcl : cur.toList.length = cap * k := by simpa using h5
  have hnk : n * k ≤ cap * k := Nat.mul_le_mul_right k h3
  rw [hcur] at hg
  have hvl : (news.take (min m (n - j) * k)).length = min m (n - j) * k := by
    rw [List.length_take, hS.1]
    have : min m (n - j) * k ≤ m * k := Nat.mul_le_mul_right k (Nat.min_le_left _ _)
    omega
  have hjk : j * k + min m (n - j) * k ≤ n * k := by
    rw [← Nat.add_mul]
    exact Nat.mul_le_mul_right k (by omega)
  have hv1 : ∀ u ∈ news.take (min m (n - j) * k), u.oneCell' = true := h1
  generalize hvsd : news.take (min m (n - j) * k) = vs at hvs hvl hv1 ⊢
  have hfoot : (En.row (some ⟨g, 0, none⟩) n cap E k xs).foot = some g := rfl
  by_cases hjc : cap = j
  · have hjn : n - j = 0 := by omega
    have hv0 : vs = [] := List.eq_nil_of_length_eq_zero (by rw [hvl, hjn]; simp)
    subst hv0
    have hset : h.set i (En.row (some ⟨g, 0, none⟩) n cap E k xs) = h := by
      apply List.ext_getElem?
      intro q
      rw [List.getElem?_set]
      split
      · rename_i e
        subst e
        split
        · exact hi.symm
        · rename_i hl
          rw [List.getElem?_eq_none (by omega)]
      · rfl
    refine ⟨_, h, w, .inl ?_, hw, rfl, by simpa [putL] using hset.symm⟩
    cases hA : cutA (some (⟨g, 0, none⟩ : Addr)) cap j k <;> rw [hA] at hx <;>
      simp [execOp, hop, resolve, invoke, builtin, ha.eval hx, ha.eval hy, Builtin.copy_, run_underlying ht, Builtin.lenOf, hz, hvs, goInt, storeCells]
  obtain ⟨w', h2, h3', h4'⟩ := run_storeCells_blk (P := P) vs (off := j * k) (i := 0) hg (by rw [hcl, hvl]; omega) hv1
  rw [Nat.add_zero] at h3'
  have hel : cutA (some (⟨g, 0, none⟩ : Addr)) cap j k = some ⟨g, j * k, none⟩ := by
    unfold cutA
    rw [if_neg hjc]
    simp [addr_add]
  rw [hel] at hx
  refine ⟨_, _, w', .inl ?_, hw.turn (en' := En.row (some ⟨g, 0, none⟩) n cap E k (putL xs (j * k) vs)) hi (by rw [hfoot]; exact h4') (run_drawn _ h2) ?_ (fun b' hb' => .inl hb'), rfl, rfl⟩
  · simp [execOp, hop, resolve, invoke, builtin, ha.eval hx, ha.eval hy, Builtin.copy_, run_underlying ht, Builtin.lenOf, hz, hvs, goInt, h2]
  · refine ⟨_, h3', by rw [putL_length]; exact hxl, .inr ⟨g, _, rfl, rfl, h3, h4, ?_, ?_⟩⟩
    · simpa [putL_length] using h5
    · have hsplit : cur.toList = xs ++ cur.toList.drop (n * k) := by rw [← h6, List.take_append_drop]
      show (putL cur.toList (j * k) vs).take (n * k) = _
      rw [hsplit, putL_take vs xs _ (j * k) (by omega)]
      rw [List.take_append_of_le_length (by rw [putL_length]; omega), List.take_of_length_le (by rw [putL_length]; omega)]
/-- 'append(x, make([]T, q)...)', where x has no room for q more: a new row. -/
theorem Dw.appendZeros {t tn e k bytes : Nat} {x y : Operand} {z : Value} {B : Option Addr} {m c q : Nat} {kn kq : IntKind} {olds : List Value} (hop : o.op = .call { callee := .builtin .append, args := #[x, y], argTypes := #[t, tn] })
    (ht : P.underlying t = some (.slice e)) (htn : P.underlying tn = some (.int kn)) (hz : ZT P e z k bytes) (hzs : z.cells.size = k) (hk : 0 < k) (hx : ev s x = some (.slice B m c)) (hy : ev s y = some (.int kq (q : Int))) (hn : ∀ w, Hold w0 M h w → SlF w k B m olds)
    (h0 : 0 < q) (hg : c < m + q) (hcm : c ≤ 1000000) (hmq : m + q ≤ 1000000) (hb : bytes ≤ 1000) :
    Dw P w0 M N s h o (fun u h' => ∃ A' cap' zs, u = .slice A' (m + q) cap' ∧ zs.length = q * k ∧ h' = En.row A' (m + q) cap' e k (olds ++ zs) :: h) := .of_run fun a w ha hw => by
  obtain ⟨i0, hi, hi1, hi2, hi3⟩ := hz.parts
  have hS := hn w hw
  have hold : (Builtin.firstCells i0.size m (.slice B m c)).run P w.drew = .ok olds.toArray w.drew := by
    rw [hi2]
    rcases Nat.eq_zero_or_pos m with h0 | h0
    · have hnil : olds = [] := List.eq_nil_of_length_eq_zero (by rw [hS.1, h0, Nat.zero_mul])
      subst hnil
      subst h0
      cases B <;> simp [Builtin.firstCells, loadCells, loadCellsFrom]
    · obtain ⟨ad, rfl, hr⟩ := hS.2.2 h0
      exact run_firstCells_some w.drew k m ad m c olds hS.1 (fun j v hj => hr j v hj)
  have hcapb : Builtin.nextslicecap (m + q) c ≤ 4000000 := by
    unfold Builtin.nextslicecap
    have hgb : ∀ (rounds c : Nat), c ≤ 1000000 + 1000000 → Builtin.growBy (m + q) rounds c ≤ 3000000 := by
      intro rounds
      induction rounds with
      | zero => intro c hc; simp only [Builtin.growBy]; omega
      | succ rounds ih =>
        intro c hc
        simp only [Builtin.growBy]
        split
        · omega
        · exact ih _ (by omega)
    repeat' split
    · omega
    · omega
    · have := hgb 4 c (by omega)
      omega
  have hrun := Lib.run_append_grow_zeros (P := P) w t tn o.type e i0 z kq kn ht htn hi hi1 B m c olds hold q h0 (by omega) hg (by omega) (by rw [hi3]; have : q * bytes ≤ 1000000 * 1000 := Nat.mul_le_mul (by omega) hb; omega)
    (by rw [hi3]; have : Builtin.nextslicecap (m + q) c * bytes ≤ 4000000 * 1000 := Nat.mul_le_mul hcapb hb; omega)
  have hcap := grownCap_ge w (m + q) c e
  have hcapm := grownCap_le_maxLen w (m + q) c e (by simp only [maxLen]; omega)
  have hzl : ∀ q, (Builtin.zeroCells z.cells q).toList.length = q * k := fun q => by simp [Builtin.zeroCells, hzs]
  refine ⟨_, _, _, .inl (by simp [execOp, hop, resolve, invoke, builtin, ha.eval hx, ha.eval hy, hrun]; rfl), hw.drew.new (grownBy_alloc' _ _) (Nat.le_refl _) (en := En.row (some ⟨w.heap.size, 0, none⟩) (m + q) (grownCap w (m + q) c e) e k (olds ++ (Builtin.zeroCells z.cells q).toList)) ?_ ?_, _, _, _, rfl, hzl q, rfl⟩
  · refine ⟨_, heap_alloc_new _ _, by rw [List.length_append, hS.1, hzl, Nat.add_mul], .inr ⟨w.heap.size, _, rfl, rfl, hcap, hcapm, ?_, ?_⟩⟩
    · have e1 : (Builtin.zeroCells z.cells q).size = q * k := by have := hzl q; simpa using this
      have e2 : (Builtin.zeroCells z.cells (grownCap w (m + q) c e - (m + q))).size = (grownCap w (m + q) c e - (m + q)) * k := by have := hzl (grownCap w (m + q) c e - (m + q)); simpa using this
      simp only [Array.size_append, List.size_toArray, e1, e2, hS.1]
      rw [← Nat.add_mul, ← Nat.add_mul]
      congr 1
      omega
    · have e3 : (olds.toArray ++ (Builtin.zeroCells z.cells q ++ Builtin.zeroCells z.cells (grownCap w (m + q) c e - (m + q)))).toList = (olds ++ (Builtin.zeroCells z.cells q).toList) ++ (Builtin.zeroCells z.cells (grownCap w (m + q) c e - (m + q))).toList := by simp
      rw [e3, List.take_append_of_le_length (by rw [List.length_append, hS.1, hzl, ← Nat.add_mul]; exact Nat.le_refl _), List.take_of_length_le (by rw [List.length_append, hS.1, hzl, ← Nat.add_mul]; exact Nat.le_refl _)]
  · intro b hb
    simp [En.row] at hb
    show w.heap.size ≤ b
    omega
/-- 'slices.overlaps' of a slice over a block of the call's own, and a part of a row of its own: they lie in two blocks. -/
theorem Ex.overlaps {fx : Operand} {xs : Array Operand} {ats : Array TypeId} {f : FuncId} {fn : Func} {tS tR e k T : Nat} {b d : Nat} {vs : List Value} {A : Option Addr} {n cap E j c1 d1 d2 : Nat} {xs' : List Value} (i1 i2 : Nat) (hop : o.op = .call { callee := .value fx, args := xs, argTypes := ats }) (hfx : ev s fx = some (.func (.func f) #[] #[]))
    (hav : evl s xs.toList = some [.slice (some ⟨b, 0, none⟩) d c1, .slice (cutA A cap j k) d1 d2]) (hf : P.funcs[f]? = some fn) (hname : (fn.name == "runtime.NumGoroutine") = false) (hb : fn.body.isNone = true) (hn : Extern.findNext fn = none) (he : Extern.find fn = some (Extern.SlicesOverlaps.overlaps #[tS, tS] #[tR]))
    (ht : P.underlying tS = some (.slice e)) (hz : ∀ w, (sizeOf e).run P w = .ok k w) (h1 : h[i1]? = some (En.blk b vs T)) (h2 : h[i2]? = some (En.row A n cap E k xs')) (hne : i1 ≠ i2) (hn0 : 0 < n) (hk0 : 0 < k) : Ex P w0 M N s h o (.bool false) := fun a w ha hw => by
  have hargs : xs.map a.eval = #[.slice (some ⟨b, 0, none⟩) d c1, .slice (cutA A cap j k) d1 d2] := by
    have := ha.evl hav
    cases xs
    simp at this
    simp [this]
  have hblk := blk_heap (hw.ent h1)
  have hover : (Extern.SlicesOverlaps.overlaps #[tS, tS] #[tR] #[.slice (some ⟨b, 0, none⟩) d c1, .slice (cutA A cap j k) d1 d2]).run P w = .ok (.bool false) w := by
    rcases (row_own (hw.ent h2)).2 with ⟨e1, hn0⟩ | ⟨g, cap', cur, e1, _, hg, h3, h4, h5, h6⟩
    · omega
    · injection e1 with e1 e2 e3
      subst e1
      have hgb : b ≠ g := by
        have hp := List.pairwise_iff_getElem.1 hw.apart
        obtain ⟨l1, q1⟩ := List.getElem?_eq_some_iff.1 h1
        obtain ⟨l2, q2⟩ := List.getElem?_eq_some_iff.1 h2
        intro e
        subst e
        rcases Nat.lt_or_gt_of_ne hne with h9 | h9
        · exact hp i1 i2 l1 l2 h9 b (by rw [q1]; rfl) (by rw [q2]; rfl)
        · exact hp i2 i1 l2 l1 h9 b (by rw [q2]; rfl) (by rw [q1]; rfl)
      have hcs : cur.size ≠ 0 := by
        rw [h5]
        have : 0 < cap' * k := Nat.mul_pos (by omega) hk0
        omega
      have hcell : ∃ off, cutA (some (⟨g, 0, none⟩ : Addr)) cap j k = some ⟨g, off, none⟩ := by
        unfold cutA
        split
        · exact ⟨0, rfl⟩
        · exact ⟨0 + j * k, by simp [addr_add]⟩
      obtain ⟨off, hoff⟩ := hcell
      rw [hoff]
      exact Lib.run_overlaps_apart w tS tR e ht k hz ⟨b, 0, none⟩ ⟨g, off, none⟩ d c1 d1 d2 hgb T E vs.length cur.size (by simp [World.shape?, hblk]) (by simp [World.shape?, hg]) hcs (by simp [World.frozen?, hblk]) (by simp [World.frozen?, hblk])
  have hcall : (callFunc f #[.slice (some ⟨b, 0, none⟩) d c1, .slice (cutA A cap j k) d1 d2]).run P w = .ok (.value (.bool false)) w := by
    rw [run_callFunc_extern hf hname hb hn he, hover]
    rfl
  simp only [execOp, hop, resolve, ha.eval hfx, hargs, Deferred.ofValue]
  simpa [invoke] using hcall
end
end Go.J
