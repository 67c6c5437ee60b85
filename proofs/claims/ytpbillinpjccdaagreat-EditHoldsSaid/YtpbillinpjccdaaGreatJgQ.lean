/- The calculus, part g: maps that the call has made: look-ups, stores, counts, ranges. It speaks of no program. -/
import Derived.Test.YtpbillinpjccdaaGreatJfQ
import Derived.Maps.RangeRun
import Derived.Carry
set_option linter.unusedVariables false
namespace Go.J
set_option linter.unusedSectionVars false
set_option linter.unusedSimpArgs false
open Go.RowKit
open Go.ChangeMaps (setBlock heap_setBlock_same heap_setBlock_other)
/-! ### the plain side: a map as a list of pairs -/
section
variable {κ ν : Type} [DecidableEq κ]
def mget : List (κ × ν) → κ → Option ν
  | [], _ => none
  | p :: m, a => if p.1 = a then some p.2 else mget m a
def mset : List (κ × ν) → κ → ν → List (κ × ν)
  | [], a, v => [(a, v)]
  | p :: m, a, v => if p.1 = a then (a, v) :: m else p :: mset m a v
theorem mget_mset : ∀ (m : List (κ × ν)) (a b : κ) (v : ν), mget (mset m a v) b = if a = b then some v else mget m b
  | [], a, b, v => by simp [mset, mget]
  | p :: m, a, b, v => by
    simp only [mset]
    split
    · rename_i h
      subst h
      simp only [mget]
      split <;> rfl
    · rename_i h
      simp only [mget, mget_mset m a b v]
      split
      · rename_i h2
        subst h2
        simp [Ne.symm h]
      · rfl
theorem mset_keys : ∀ (m : List (κ × ν)) (a : κ) (v : ν), (mset m a v).map Prod.fst = if a ∈ m.map Prod.fst then m.map Prod.fst else m.map Prod.fst ++ [a]
  | [], a, v => by simp [mset]
  | p :: m, a, v => by
    simp only [mset]
    split
    · rename_i h
      subst h
      simp
    · rename_i h
      have ih := mset_keys m a v
      simp only [List.map_cons, ih, List.mem_cons, Ne.symm h, false_or]
      split <;> simp
theorem mset_nodup {m : List (κ × ν)} (h : (m.map Prod.fst).Nodup) (a : κ) (v : ν) : ((mset m a v).map Prod.fst).Nodup := by
  rw [mset_keys]
  split
  · exact h
  · rename_i hn
    exact List.nodup_append.2 ⟨h, by simp, fun x hx y hy e => by simp at hy; subst hy; subst e; exact hn hx⟩
theorem mget_of_mem {m : List (κ × ν)} (hn : (m.map Prod.fst).Nodup) {a : κ} {v : ν} (h : (a, v) ∈ m) : mget m a = some v := by
  induction m with
  | nil => cases h
  | cons p m ih =>
    obtain ⟨h1, h2⟩ := List.nodup_cons.1 hn
    rcases List.mem_cons.1 h with h | h
    · subst h
      simp [mget]
    · have : ¬ p.1 = a := fun e => h1 (List.mem_map.2 ⟨_, h, e.symm⟩)
      simp only [mget, if_neg this]
      exact ih h2 h
/-! ### keys of a type -/
/-- The first entry with a key, its place and its value. -/
def findE (a : κ) : List κ → List MapEntry → Nat → Option (Nat × Value)
  | k :: ks, e :: es, i => if k = a then some (i, e.val) else findE a ks es (i + 1)
  | _, _, _ => none
end
/-- Keys of type kt, which lie as 'ek' says. -/
structure KeyT (P : Program) (kt : TypeId) {κ : Type} [DecidableEq κ] (ek : κ → Value) : Prop where
  check : ∀ em a w, (Instr.checkKey em 10000 kt (ek a)).run P w = .ok () w
  find : ∀ a (ks : List κ) (es : List MapEntry), es.map (·.key) = ks.map ek → ∀ w, (Instr.findKey kt (ek a) es).run P w = .ok (findE a ks es 0) w
  bits : ∀ a, Instr.sameBits 10000 (ek a) (ek a) = true
theorem KeyT.of_eq {P : Program} {kt : TypeId} {κ : Type} [DecidableEq κ] {ek : κ → Value} {d : TypeDesc} (hk : P.underlying kt = some d) (hnow : ∀ a b, Instr.sameNow d (ek a) (ek b) = none) (hc : ∀ em a w, (Instr.checkKey em 10000 kt (ek a)).run P w = .ok () w)
    (he : ∀ a b w, (Op.equal kt (ek a) (ek b)).run P w = .ok (decide (a = b)) w) (hb : ∀ a, Instr.sameBits 10000 (ek a) (ek a) = true) : KeyT P kt ek := by
  have hask : ∀ a (ks : List κ) (es : List MapEntry) (i : Nat), es.map (·.key) = ks.map ek → ∀ w, (Instr.findAsking kt (ek a) es i).run P w = .ok (findE a ks es i) w := by
    intro a ks
    induction ks with
    | nil =>
      intro es i h w
      have : es = [] := by simpa using h
      subst this
      simp [Instr.findAsking, findE]
    | cons k ks ih =>
      intro es i h w
      cases es with
      | nil => simp at h
      | cons e es =>
        simp only [List.map_cons, List.cons.injEq] at h
        simp only [Instr.findAsking, findE, h.1]
        by_cases hak : a = k
        · subst hak
          simp [he]
        · have hne : ¬ k = a := fun e => hak e.symm
          simp [he, hak, hne, ih es (i + 1) h.2 w]
  refine ⟨hc, fun a ks es h w => ?_, hb⟩
  simp only [Instr.findKey, Sem.run_bind, run_underlying hk, Result.andThen]
  cases es with
  | nil =>
    have : ks = [] := by simpa using h.symm
    subst this
    simp [Instr.findNow, findE]
  | cons e es =>
    cases ks with
    | nil => simp at h
    | cons k ks =>
      have h1 : e.key = ek k := by simp only [List.map_cons, List.cons.injEq] at h; exact h.1
      simp only [Instr.findNow, h1, hnow]
      exact hask a (k :: ks) (e :: es) 0 h w
/-! ### the entry -/
/-- A map whose keys and values lie as 'fk' and 'fv' say. -/
def MapOk {κ ν : Type} (fk : κ → Value) (fv : ν → Value) (m : List (κ × ν)) (st : List Nat) (clock : Nat) (o : Option Obj) : Prop :=
  ∃ es : Array MapEntry, o = some (.map es clock) ∧ es.toList.map (fun e => (e.key, e.val)) = m.map (fun p => (fk p.1, fv p.2)) ∧ es.toList.map (·.born) = st ∧ st.Nodup ∧ ∀ b ∈ st, b < clock
def En.mp {κ ν : Type} (b : Nat) (fk : κ → Value) (fv : ν → Value) (m : List (κ × ν)) : En := ⟨some b, fun o => (m.map Prod.fst).Nodup ∧ ∃ st clock, MapOk fk fv m st clock o⟩
/-- .. the stamps told. -/
def En.mps {κ ν : Type} (b : Nat) (fk : κ → Value) (fv : ν → Value) (m : List (κ × ν)) (st : List Nat) (clock : Nat) : En := ⟨some b, fun o => (m.map Prod.fst).Nodup ∧ MapOk fk fv m st clock o⟩
/-- .. the stamp of the entry in one place told. -/
def En.mpe {κ ν : Type} (b : Nat) (fk : κ → Value) (fv : ν → Value) (m : List (κ × ν)) (j born : Nat) : En := ⟨some b, fun o => (m.map Prod.fst).Nodup ∧ ∃ st clock, st[j]? = some born ∧ MapOk fk fv m st clock o⟩
/-- An iterator over the map b: which of its entries have come out, by their places. -/
def En.itr (r b : Nat) (st : List Nat) (clock : Nat) (vis : List Nat) : En := ⟨some r, fun o => o = some (.mapIter (some b) clock (vis.map fun i => st.getD i 0).toArray clock)⟩
section
variable {κ ν : Type} [DecidableEq κ] {fk : κ → Value} {fv : ν → Value}
theorem MapOk.keysE {m : List (κ × ν)} {es : List MapEntry} (he : es.map (fun e => (e.key, e.val)) = m.map (fun p => (fk p.1, fv p.2))) : es.map (·.key) = (m.map Prod.fst).map fk := by
  have := congrArg (List.map Prod.fst) he
  simpa [Function.comp_def] using this
theorem MapOk.findE {m : List (κ × ν)} {es : List MapEntry} (he : es.map (fun e => (e.key, e.val)) = m.map (fun p => (fk p.1, fv p.2))) (a : κ) : ∀ i : Nat, (J.findE a (m.map Prod.fst) es i).map (·.2) = (mget m a).map fv := by
  induction m generalizing es with
  | nil =>
    intro i
    have : es = [] := by simpa using he
    subst this
    rfl
  | cons p m ih =>
    intro i
    cases es with
    | nil => simp at he
    | cons e es =>
      simp only [List.map_cons, List.cons.injEq, Prod.mk.injEq] at he
      obtain ⟨⟨h1, h2⟩, h3⟩ := he
      simp only [List.map_cons, J.findE, mget]
      split
      · simp [h2]
      · exact ih h3 (i + 1)
/-- Where the entry with a key is. -/
theorem findE_at {a : κ} : ∀ {ks : List κ} {es : List MapEntry} {i j : Nat} {v : Value}, J.findE a ks es i = some (j, v) → i ≤ j ∧ ∃ e, es[j - i]? = some e ∧ ks[j - i]? = some a ∧ e.val = v
  | [], es, _, _, _, h => by cases es <;> cases h
  | _ :: _, [], _, _, _, h => by cases h
  | k :: ks, e :: es, i, j, v, h => by
    simp only [J.findE] at h
    split at h
    · rename_i hk
      simp only [Option.some.injEq, Prod.mk.injEq] at h
      obtain ⟨rfl, rfl⟩ := h
      exact ⟨Nat.le_refl _, e, by simp, by simp [hk], rfl⟩
    · obtain ⟨h1, e', h2, h3, h4⟩ := findE_at h
      rw [show j - i = (j - (i + 1)) + 1 by omega]
      exact ⟨by omega, e', by simpa using h2, by simpa using h3, h4⟩
theorem mset_at {m : List (κ × ν)} (hn : (m.map Prod.fst).Nodup) {j : Nat} {p : κ × ν} (hj : m[j]? = some p) (v : ν) : mset m p.1 v = m.set j (p.1, v) := by
  induction m generalizing j with
  | nil => simp at hj
  | cons q m ih =>
    obtain ⟨h1, h2⟩ := List.nodup_cons.1 hn
    cases j with
    | zero =>
      simp at hj
      subst hj
      simp [mset]
    | succ j =>
      have hj' : m[j]? = some p := by simpa using hj
      have hne : ¬ q.1 = p.1 := fun e => h1 (e ▸ List.mem_map.2 ⟨p, List.mem_of_getElem? hj', rfl⟩)
      simp only [mset, if_neg hne, List.set_cons_succ]
      rw [ih h2 hj']
theorem mset_new {m : List (κ × ν)} {a : κ} (h : mget m a = none) (v : ν) : mset m a v = m ++ [(a, v)] := by
  induction m with
  | nil => rfl
  | cons p m ih =>
    simp only [mget] at h
    split at h
    · cases h
    · rename_i hne
      simp only [mset, if_neg hne, ih h, List.cons_append]
/-- What a search finds, in the words of the pairs. -/
theorem MapOk.where_ {m : List (κ × ν)} (hn : (m.map Prod.fst).Nodup) {es : List MapEntry} (he : es.map (fun e => (e.key, e.val)) = m.map (fun p => (fk p.1, fv p.2))) (a : κ) :
    (J.findE a (m.map Prod.fst) es 0 = none ∧ mget m a = none) ∨ ∃ j v e, J.findE a (m.map Prod.fst) es 0 = some (j, fv v) ∧ mget m a = some v ∧ m[j]? = some (a, v) ∧ es[j]? = some e ∧ e.key = fk a ∧ e.val = fv v := by
  have h1 := MapOk.findE he a 0
  cases hf : J.findE a (m.map Prod.fst) es 0 with
  | none =>
    rw [hf] at h1
    refine .inl ⟨rfl, ?_⟩
    cases hm : mget m a with
    | none => rfl
    | some v => rw [hm] at h1; cases h1
  | some q =>
    obtain ⟨j, v'⟩ := q
    rw [hf] at h1
    obtain ⟨_, e, h2, h3, h4⟩ := findE_at hf
    simp only [Nat.sub_zero] at h2 h3
    cases hm : mget m a with
    | none => rw [hm] at h1; cases h1
    | some v =>
      rw [hm] at h1
      simp only [Option.map_some, Option.some.injEq] at h1
      subst h1
      have hjm : j < m.length := by have := (List.getElem?_eq_some_iff.1 h3).1; simpa using this
      have h6 : m[j].1 = a := by
        rw [List.getElem?_map, List.getElem?_eq_getElem hjm] at h3
        simpa using h3
      have h5 := congrArg (fun l => l[j]?) he
      simp only [List.getElem?_map, h2, List.getElem?_eq_getElem hjm, Option.map_some, Option.some.injEq, Prod.mk.injEq] at h5
      have h7 : mget m a = some m[j].2 := mget_of_mem hn (by have := List.getElem_mem hjm; rw [← h6]; exact this)
      rw [hm] at h7
      simp only [Option.some.injEq] at h7
      refine .inr ⟨j, v, e, rfl, rfl, ?_, h2, by rw [h5.1, h6], h4⟩
      rw [List.getElem?_eq_getElem hjm, ← h6, h7]
end
section
variable {P : Program} {Q : Exit → Act → World → Prop} {w0 : World} {M : List Nat} {n : Nat} {N : Fm} {r : Option Nat} {cs : List It} {s : List (Nat × Value)} {h : List En} {ops : Array Oper} {rest : List Oper} {o : Oper}
variable {κ ν : Type} [DecidableEq κ] {fk : κ → Value} {fv : ν → Value} {m : List (κ × ν)} {b : Nat}
theorem Dw.makeMap {t : TypeId} (fk : κ → Value) (fv : ν → Value) (hop : o.op = .makeMap t none) : Dw P w0 M N s h o (fun u h' => ∃ b, u = .map (some b) ∧ h' = En.mp b fk fv [] :: h) := .of_run fun a w ha hw =>
  ⟨_, _, w.alloc (.map #[] 0), .inl (by simp [execOp, hop, run_makeMap]), hw.new (grownBy_alloc' w _) (Nat.le_refl _) (en := En.mp w.heap.size fk fv []) ⟨_, World.alloc_heap_new w _, by simp, [], 0, #[], rfl, rfl, rfl, by simp, by simp⟩ (fun b hb => by simp [En.mp] at hb; omega), _, rfl, rfl⟩
theorem run_lookup {w : World} {t kt e : TypeId} {a : κ} {z : Value} {k bytes : Nat} (ok : Bool) (K : KeyT P kt fk) (ht : P.underlying t = some (.map kt e)) (hz : ZT P e z k bytes) (hn : (m.map Prod.fst).Nodup) {es : Array MapEntry} {clock : Nat} (hb : w.heap[b]? = some (.map es clock))
    (he : es.toList.map (fun e => (e.key, e.val)) = m.map (fun p => (fk p.1, fv p.2))) : (Instr.lookup t (.map (some b)) (fk a) ok).run P w = .ok (if ok then .tuple #[((mget m a).map fv).getD z, .bool (mget m a).isSome] else ((mget m a).map fv).getD z) w := by
  obtain ⟨i0, hi, hi1, _⟩ := hz.parts
  have hf := K.find a _ es.toList (MapOk.keysE he) w
  rcases MapOk.where_ hn he a with ⟨h1, h2⟩ | ⟨j, v, e0, h1, h2, _⟩
  · rw [h1] at hf
    simp [Instr.lookup, run_underlying ht, MapKept.run_getObj_map hb, K.check, hf, h2, zeroValue, typeInfo, hi, hi1]
  · rw [h1] at hf
    simp [Instr.lookup, run_underlying ht, MapKept.run_getObj_map hb, K.check, hf, h2]
theorem mp_es {w : World} (h : (En.mp b fk fv m).holds w) : ∃ es st clock, w.heap[b]? = some (.map es clock) ∧ (m.map Prod.fst).Nodup ∧ es.toList.map (fun e => (e.key, e.val)) = m.map (fun p => (fk p.1, fv p.2)) ∧ es.toList.map (·.born) = st ∧ st.Nodup ∧ ∀ b ∈ st, b < clock := by
  obtain ⟨o, h1, hn, st, clock, es, e0, h2, h3, h4, h5⟩ := h
  cases e0
  exact ⟨es, st, clock, h1, hn, h2, h3, h4, h5⟩
/-- What reads as a map. -/
def MpF {κ ν : Type} (w : World) (fk : κ → Value) (fv : ν → Value) (b : Nat) (m : List (κ × ν)) : Prop := ∃ es clock, w.heap[b]? = some (.map es clock) ∧ (m.map Prod.fst).Nodup ∧ es.toList.map (fun e => (e.key, e.val)) = m.map (fun p => (fk p.1, fv p.2))
theorem Hold.mpf {w : World} (hw : Hold w0 M h w) (i : Nat) (hi : h[i]? = some (En.mp b fk fv m)) : MpF w fk fv b m := by
  obtain ⟨es, st, clock, h1, h2, h3, _⟩ := mp_es (hw.ent hi)
  exact ⟨es, clock, h1, h2, h3⟩
theorem MpF.below {w w' : World} (h : MpF w fk fv b m) (hb : Below w.heap.size w w') : MpF w' fk fv b m := by
  obtain ⟨es, clock, h1, h2⟩ := h
  exact ⟨es, clock, (hb.block b (Array.getElem?_eq_some_iff.1 h1).1).trans h1, h2⟩
theorem Hold.mpf0 {w : World} (hw : Hold w0 [] h w) (hm : MpF w0 fk fv b m) : MpF w fk fv b m := hm.below hw.below
theorem Ex.lookupOk {t kt e : TypeId} {x y : Operand} {a : κ} {z : Value} {k bytes : Nat} (K : KeyT P kt fk) (hop : o.op = .lookup t x y true) (ht : P.underlying t = some (.map kt e)) (hz : ZT P e z k bytes) (hx : ev s x = some (.map (some b)))
    (hy : ev s y = some (fk a)) (hm : ∀ w, Hold w0 M h w → MpF w fk fv b m) : Ex P w0 M N s h o (.tuple #[((mget m a).map fv).getD z, .bool (mget m a).isSome]) := fun ac w ha hw => by
  obtain ⟨es, clock, h1, h2, h3⟩ := hm w hw
  have := run_lookup (a := a) true K ht hz h2 h1 h3
  simp [execOp, hop, ha.eval hx, ha.eval hy, this]
theorem grownBy_setBlock {w : World} {es : Array MapEntry} {clock : Nat} (hb : w.heap[b]? = some (.map es clock)) (o : Obj) : w.grownBy (setBlock w b o) (some b) :=
  ⟨rfl, rfl, rfl, by simp [setBlock], fun i _ hi => heap_setBlock_other hb _ (fun e => hi (by rw [e]))⟩
theorem set_modify {es : Array MapEntry} {j : Nat} {e0 : MapEntry} (h : es.toList[j]? = some e0) (f : MapEntry → MapEntry) : (es.modify j f).toList = es.toList.set j (f e0) := by rw [Array.toList_modify, Go.ChangeMaps.modify_eq_set _ _ _ _ h]
theorem Dw.mapUpdate {t kt e : TypeId} {x y z : Operand} {a : κ} {v : ν} (i : Nat) (K : KeyT P kt fk) (hop : o.op = .mapUpdate t x y z) (ht : P.underlying t = some (.map kt e)) (hx : ev s x = some (.map (some b))) (hy : ev s y = some (fk a)) (hz : ev s z = some (fv v))
    (hi : h[i]? = some (En.mp b fk fv m)) : Dw P w0 M N s h o (fun u h' => u = undef ∧ h' = h.set i (En.mp b fk fv (mset m a v))) := .of_run fun ac w ha hw => by
  obtain ⟨es, st, clock, hb, hn, he, hst, hsn, hsc⟩ := mp_es (hw.ent hi)
  have hf := K.find a _ es.toList (MapOk.keysE he) w
  rcases MapOk.where_ hn he a with ⟨h1, h2⟩ | ⟨j, v0, e0, h1, h2, h3, h4, h5, h6⟩
  · rw [h1] at hf
    refine ⟨undef, _, setBlock w b (.map (es.push ⟨fk a, fv v, clock⟩) (clock + 1)), .inr ⟨?_, rfl⟩, hw.turn (en' := En.mp b fk fv (mset m a v)) hi (grownBy_setBlock hb _) (Nat.le_refl _) ⟨_, heap_setBlock_same hb _, mset_nodup hn a v, st ++ [clock], clock + 1, _, rfl, ?_, ?_, ?_, ?_⟩ (fun _ hb => .inl hb), rfl, rfl⟩
    · simp [execOp, hop, ha.eval hx, ha.eval hy, ha.eval hz, Instr.mapUpdate, run_underlying ht, MapKept.run_getObj_map hb, K.check, hf, MapKept.run_setObj_map _ hb, setBlock]
    · rw [mset_new h2]
      simp [he]
    · simp [hst]
    · exact List.nodup_append.2 ⟨hsn, by simp, fun x hx y hy e => by simp at hy; subst hy; subst e; exact absurd (hsc _ hx) (Nat.lt_irrefl _)⟩
    · intro x hx
      rcases List.mem_append.1 hx with hx | hx
      · exact Nat.lt_succ_of_lt (hsc x hx)
      · simp at hx; omega
  · rw [h1] at hf
    have hj : es[j]? = some e0 := by simpa using h4
    refine ⟨undef, _, setBlock w b (.map (es.modify j (fun e' => { e' with key := fk a, val := fv v })) clock), .inr ⟨?_, rfl⟩, hw.turn (en' := En.mp b fk fv (mset m a v)) hi (grownBy_setBlock hb _) (Nat.le_refl _) ⟨_, heap_setBlock_same hb _, mset_nodup hn a v, st, clock, _, rfl, ?_, ?_, hsn, hsc⟩ (fun _ hb => .inl hb), rfl, rfl⟩
    · simp [execOp, hop, ha.eval hx, ha.eval hy, ha.eval hz, Instr.mapUpdate, run_underlying ht, MapKept.run_getObj_map hb, K.check, hf, hj, h5, Instr.keyThatStays, K.bits, MapKept.run_setObj_map _ hb, setBlock]
    · rw [mset_at hn h3 v, set_modify h4, List.map_set, List.map_set, he]
    · rw [set_modify h4, List.map_set, hst]
      apply List.ext_getElem?
      intro q
      rw [List.getElem?_set]
      split
      · rename_i e
        subst e
        rw [← hst]
        simp [hj]
        exact (Array.getElem?_eq_some_iff.1 hj).1
      · rfl
/-! ### ranges -/
/-- The entries that have come out. -/
structure Vis {κ ν : Type} (m : List (κ × ν)) (vis : List Nat) : Prop where
  nd : vis.Nodup
  lt : ∀ i ∈ vis, i < m.length
/-- What has come out, in the order in which it has. -/
def came {κ ν : Type} (m : List (κ × ν)) (vis : List Nat) : List (κ × ν) := vis.filterMap (m[·]?)
end
end Go.J
