/- A calculus of my own over the machine's code: what is known of a frame's slots (a list of slots with their values) and of the memory that the call owns (a list of blocks), and rules for control. It speaks of no program. -/
import Derived.WalkKit
import Derived.OrdersHeld
import Derived.Shelf.Abstract
import Derived.Maps.AppendAt
import Derived.Deep.Draws
import Derived.TacticsIn
import Derived.RangeFuncIn
import Derived.RangeFuncLeaves
import Derived.RangeFuncRecord
import Derived.RangeFuncCalls
set_option linter.unusedVariables false
set_option linter.unusedSimpArgs false
set_option linter.unusedSectionVars false
namespace Go.J
open Go.RowKit
/-! ### what is known of a frame -/
theorem beq_ne {a b : Nat} (e : ¬ a = b) : Nat.beq a b = false := by
  cases h : Nat.beq a b
  · rfl
  · exact absurd (Nat.eq_of_beq_eq_true h) e
def look : List (Nat × Value) → Nat → Option Value
  | [], _ => none
  | (u, v) :: l, t => match Nat.beq u t with
    | true => some v
    | false => look l t
def ev (s : List (Nat × Value)) : Operand → Option Value
  | .tmp t => look s t
  | .const v => some v
  | .global g => some (.pointer (some ⟨g, 0, none⟩))
  | .func f => some (.func (.func f) #[] #[])
/-- A frame's slots, how many; and the blocks of deferred calls that ranges over functions have marked. -/
structure Fm where
  n : Nat
  ds : List Nat
def marks (ds : List Nat) : List Deferred := ds.map fun D => { target := .collected D, args := #[] }
def Ag (N : Fm) (s : List (Nat × Value)) (a : Act) : Prop := a.tmps.size = N.n ∧ a.defers = marks N.ds ∧ ∀ t v, look s t = some v → a.tmps[t]? = some v
theorem Ag.eval {N : Fm} {s : List (Nat × Value)} {a : Act} (h : Ag N s a) {x : Operand} {v : Value} (hx : ev s x = some v) : a.eval x = v := by
  cases x with
  | tmp t =>
    have := h.2.2 t v hx
    simp [Act.eval, this]
  | const u => simpa [ev, Act.eval] using hx
  | global g => simpa [ev, Act.eval] using hx
  | func f => simpa [ev, Act.eval] using hx
theorem Ag.put {N : Fm} {s : List (Nat × Value)} {a : Act} (h : Ag N s a) {d : Nat} (hd : Nat.blt d N.n = true) (v : Value) : Ag N ((d, v) :: s) (a.put (some d) v) := by
  have hd' : d < N.n := by simpa [Nat.blt_eq] using hd
  refine ⟨by simp [Act.put, h.1], by simpa [Act.put] using h.2.1, fun t u ht => ?_⟩
  simp only [look] at ht
  simp only [Act.put, Array.getElem?_setIfInBounds]
  by_cases e : d = t
  · subst e
    simp at ht
    simp [h.1, hd', ht]
  · have e' : Nat.beq d t = false := beq_ne e
    rw [e'] at ht
    simp only [e, if_false]
    exact h.2.2 t u (by simpa using ht)
/-- What a list of slots says is among what another one says. -/
def Sub (s' s : List (Nat × Value)) : Prop := ∀ t v, look s' t = some v → look s t = some v
theorem Sub.nil (s : List (Nat × Value)) : Sub [] s := fun t v h => by cases h
theorem Sub.cons {s s' : List (Nat × Value)} {t : Nat} {v : Value} (ht : look s t = some v) (h : Sub s' s) : Sub ((t, v) :: s') s := fun u x hu => by
  simp only [look] at hu
  by_cases e : t = u
  · subst e
    simp at hu
    subst hu
    exact ht
  · have e' : Nat.beq t u = false := beq_ne e
    rw [e'] at hu
    exact h u x (by simpa using hu)
theorem Ag.sub {N : Fm} {s s' : List (Nat × Value)} {a : Act} (h : Ag N s a) (hs : Sub s' s) : Ag N s' a := ⟨h.1, h.2.1, fun t v ht => h.2.2 t v (hs t v ht)⟩
/-! ### what is known of the memory -/
structure En where
  foot : Option Nat
  ok : Option Obj → Prop
def En.holds (en : En) (w : World) : Prop := match en.foot with
  | none => en.ok none
  | some b => ∃ o, w.heap[b]? = some o ∧ en.ok (some o)
/-- A block that is known whole. -/
def En.blk (b : Nat) (cs : List Value) (T : TypeId) : En := ⟨some b, fun o => o = some (.cells cs.toArray T (0, 0))⟩
/-- A row of elements of k cells each at the head of a block, or nil: its first n elements are the cells xs. -/
def RowOk (A : Option Addr) (n cap : Nat) (E k : Nat) (xs : List Value) (o : Option Obj) : Prop :=
  xs.length = n * k ∧ ((A = none ∧ n = 0 ∧ cap = 0 ∧ o = none) ∨
    ∃ g cur, A = some ⟨g, 0, none⟩ ∧ o = some (.cells cur E (0, 0)) ∧ n ≤ cap ∧ cap ≤ maxLen ∧ cur.size = cap * k ∧ cur.toList.take (n * k) = xs)
def En.row (A : Option Addr) (n cap : Nat) (E k : Nat) (xs : List Value) : En := ⟨A.map (·.block), RowOk A n cap E k xs⟩
/-! ### draws -/
theorem viewStore_drawn {p : Program} {w : World} {at_ : Addr} {u : TypeId} {k : Addr} {v : Value} {atomic : Bool} {r : World × List Addr} (h : w.viewStore p at_ u k v atomic = .ok r) : r.1.drawn = w.drawn := by
  unfold World.viewStore at h
  simp only [bind, Except.bind, pure, Except.pure] at h
  repeat' split at h
  all_goals first | (cases h; done) | (injection h with h; subst h; rfl)
theorem farStore_drawn {p : Program} {w : World} {a : Addr} {v : Value} {at_ : Bool} {r : World × List Addr} (h : w.farStore p a v at_ = .ok r) : r.1.drawn = w.drawn := by
  unfold World.farStore at h
  split at h
  · split at h
    · injection h with h
      subst h
      rename_i e
      exact viewStore_drawn e
    · cases h
  · cases h
theorem ask_drawn {α : Type} : ∀ (m : Ask α) (w : World), w.drawn ≤ (w.ask m).2.drawn
  | .done a, w => Nat.le_refl _
  | .ask what range k, w => by
    unfold World.ask
    simp only
    split
    · exact ask_drawn _ w
    · exact Nat.le_trans (Nat.le_succ _) (ask_drawn (k _) { w with drawn := w.drawn + 1 })
theorem sys_drawn (w : World) (c : Sys) : w.drawn ≤ (w.sys c).2.drawn := by
  have := ask_drawn (Kernel.perform c w.os) w
  unfold World.sys
  split
  · exact Nat.le_refl _
  · rename_i e
    rw [e] at this
    exact this
theorem run_drawn {α : Type} {p : Program} (m : Sem α) : ∀ {w : World} {v : α} {w' : World}, m.run p w = .ok v w' → w.drawn ≤ w'.drawn := by
  induction m with
  | pure a => intro w v w' h; simp only [Sem.run, Result.ok.injEq] at h; rw [h.2]; exact Nat.le_refl _
  | load m a k ih =>
    intro w v w' h
    unfold Sem.run at h
    split at h
    · exact ih _ h
    · split at h
      · exact ih _ h
      · cases h
  | store m a x k ih =>
    have key : ∀ {w w' : World} {v : α}, (match w.cell? a with
        | some _ => if w.frozen? a then Result.halt (.unsupported (.unsafePointer "a write to bytes that a string shares")) w else k.run p (w.setCell a x)
        | none => match w.farStore p a x (m == Mode.atomic) with
          | .ok (w, _) => k.run p w
          | .error h => .halt h w) = .ok v w' → w.drawn ≤ w'.drawn := fun {w w' v} h => by
      split at h
      · split at h
        · cases h
        · have := ih h
          exact this
      · split at h
        · rename_i e
          have h1 := ih h
          rw [farStore_drawn e] at h1
          exact h1
        · cases h
    intro w v w' h
    have e : (∀ c, x ≠ .agg c) → (∀ c, x ≠ .tuple c) → w.drawn ≤ w'.drawn := fun h1 h2 => by
      rw [Sem.run] at h
      · exact key h
      · exact h1
      · exact h2
    cases x with
    | agg c => rw [Sem.run] at h; cases h
    | tuple c => rw [Sem.run] at h; cases h
    | _ => exact e (fun _ h => by cases h) (fun _ h => by cases h)
  | new o k ih => intro w v w' h; unfold Sem.run at h; have h1 := ih _ h; exact h1
  | shape r k ih => intro w v w' h; unfold Sem.run at h; exact ih _ h
  | freeze a n k ih =>
    intro w v w' h
    unfold Sem.run at h
    have h1 := ih h
    have e : (w.freeze a n).drawn = w.drawn := by unfold World.freeze; split <;> rfl
    rw [e] at h1
    exact h1
  | frozen a k ih => intro w v w' h; unfold Sem.run at h; exact ih _ h
  | getObj r k ih =>
    intro w v w' h
    unfold Sem.run at h
    split at h
    · cases h
    · exact ih _ h
    · cases h
  | setObj r o k ih =>
    intro w v w' h
    unfold Sem.run at h
    split at h
    · cases h
    · have h1 := ih h
      exact h1
    · cases h
  | choose q k ih =>
    intro w v w' h
    unfold Sem.run at h
    split at h
    · exact ih _ h
    · exact Nat.le_trans (Nat.le_succ _) (ih _ h)
  | sys c k ih => intro w v w' h; unfold Sem.run at h; exact Nat.le_trans (sys_drawn w c) (ih _ h)
  | program k ih => intro w v w' h; unfold Sem.run at h; exact ih _ h
  | mark m k ih => intro w v w' h; unfold Sem.run at h; exact ih h
  | halt h => intro w v w' h; unfold Sem.run at h; cases h
/-- The world w is the world w0 but for the blocks M; the entries h hold; each is about a block of M, or a new one; no two are about one block. -/
structure Hold (w0 : World) (M : List Nat) (h : List En) (w : World) : Prop where
  os : w.os = w0.os
  tape : w.tape = w0.tape
  output : w.output = w0.output
  drawn : w0.drawn ≤ w.drawn
  size : w0.heap.size ≤ w.heap.size
  old : ∀ k, k < w0.heap.size → k ∉ M → w.heap[k]? = w0.heap[k]?
  ents : ∀ en ∈ h, en.holds w
  foots : ∀ en ∈ h, ∀ b, en.foot = some b → b ∈ M ∨ w0.heap.size ≤ b
  apart : h.Pairwise fun x y => ∀ b, x.foot = some b → y.foot ≠ some b
theorem En.holds_lt {en : En} {w : World} (h : en.holds w) {b : Nat} (hb : en.foot = some b) : b < w.heap.size := by
  unfold En.holds at h
  rw [hb] at h
  obtain ⟨o, ho, _⟩ := h
  exact (Array.getElem?_eq_some_iff.1 ho).1
theorem En.holds_same {en : En} {w w' : World} (h : en.holds w) (hs : ∀ b, en.foot = some b → w'.heap[b]? = w.heap[b]?) : en.holds w' := by
  unfold En.holds at *
  cases hf : en.foot with
  | none => rw [hf] at h; exact h
  | some b =>
    rw [hf] at h
    obtain ⟨o, ho, hk⟩ := h
    exact ⟨o, (hs b hf).trans ho, hk⟩
theorem En.holds_imp {en en' : En} {w : World} (h : en.holds w) (hf : en'.foot = en.foot) (hi : ∀ o, en.ok o → en'.ok o) : en'.holds w := by
  unfold En.holds at *
  rw [hf]
  cases he : en.foot with
  | none => rw [he] at h; exact hi _ h
  | some b =>
    rw [he] at h
    obtain ⟨o, ho, hk⟩ := h
    exact ⟨o, ho, hi _ hk⟩
section
variable {w0 w w' : World} {M : List Nat} {h : List En}
theorem Hold.nil (w : World) (M : List Nat) : Hold w M [] w := ⟨rfl, rfl, rfl, Nat.le_refl _, Nat.le_refl _, fun _ _ _ => rfl, by simp, by simp, by simp⟩
/-- Behind something that leaves all that was there, but for what one entry is about. -/
theorem Hold.grown (hh : Hold w0 M h w) (hg : w.grownBy w' none) (hd : w.drawn ≤ w'.drawn) : Hold w0 M h w' where
  os := hg.os.trans hh.os
  tape := hg.tape.trans hh.tape
  output := hg.output.trans hh.output
  drawn := Nat.le_trans hh.drawn hd
  size := Nat.le_trans hh.size hg.size
  old := fun k hk hM => (hg.block k (Nat.lt_of_lt_of_le hk hh.size) (by simp)).trans (hh.old k hk hM)
  ents := fun en hen => En.holds_same (hh.ents en hen) fun b hb => hg.block b (En.holds_lt (hh.ents en hen) hb) (by simp)
  foots := hh.foots
  apart := hh.apart
theorem Hold.drew (hh : Hold w0 M h w) : Hold w0 M h w.drew := ⟨hh.os, hh.tape, hh.output, Nat.le_trans hh.drawn (Nat.le_succ _), hh.size, hh.old, hh.ents, hh.foots, hh.apart⟩
theorem Hold.new {en : En} (hh : Hold w0 M h w) (hg : w.grownBy w' none) (hd : w.drawn ≤ w'.drawn) (he : en.holds w') (hf : ∀ b, en.foot = some b → w.heap.size ≤ b) : Hold w0 M (en :: h) w' := by
  have h1 := hh.grown hg hd
  refine ⟨h1.os, h1.tape, h1.output, h1.drawn, h1.size, h1.old, ?_, ?_, ?_⟩
  · intro x hx
    rcases List.mem_cons.1 hx with rfl | hx
    · exact he
    · exact h1.ents x hx
  · intro x hx b hb
    rcases List.mem_cons.1 hx with rfl | hx
    · exact .inr (Nat.le_trans hh.size (hf b hb))
    · exact h1.foots x hx b hb
  · refine List.pairwise_cons.2 ⟨fun y hy b hb hyb => ?_, h1.apart⟩
    have := En.holds_lt (hh.ents y hy) hyb
    have := hf b hb
    omega
/-- An entry is turned into another one. -/
theorem Hold.turn {i : Nat} {en en' : En} (hh : Hold w0 M h w) (hi : h[i]? = some en) (hg : w.grownBy w' en.foot) (hd : w.drawn ≤ w'.drawn) (he : en'.holds w')
    (hf : ∀ b, en'.foot = some b → en.foot = some b ∨ w.heap.size ≤ b) : Hold w0 M (h.set i en') w' := by
  have hmem : en ∈ h := List.mem_of_getElem? hi
  have hil : i < h.length := (List.getElem?_eq_some_iff.1 hi).1
  have hapart : ∀ j (hj : j < h.length), j ≠ i → ∀ b, (h[j]).foot = some b → en.foot ≠ some b := by
    intro j hj hji b hb hen
    have hpi := List.pairwise_iff_getElem.1 hh.apart
    have hei : h[i] = en := by have := List.getElem?_eq_getElem hil; rw [this] at hi; exact Option.some.inj hi
    rcases Nat.lt_or_gt_of_ne hji with h1 | h1
    · exact hpi j i hj hil h1 b hb (by rw [hei]; exact hen)
    · exact hpi i j hil hj h1 b (by rw [hei]; exact hen) hb
  have hkeep : ∀ j (hj : j < h.length), j ≠ i → (h[j]).holds w' := by
    intro j hj hji
    have h0 := hh.ents _ (List.getElem_mem hj)
    refine En.holds_same h0 fun b hb => hg.block b (En.holds_lt h0 hb) fun e => hapart j hj hji b hb e.symm
  refine ⟨hg.os.trans hh.os, hg.tape.trans hh.tape, hg.output.trans hh.output, Nat.le_trans hh.drawn hd, Nat.le_trans hh.size hg.size, ?_, ?_, ?_, ?_⟩
  · intro k hk hM
    refine (hg.block k (Nat.lt_of_lt_of_le hk hh.size) fun e => ?_).trans (hh.old k hk hM)
    rcases hh.foots en hmem k e.symm with h1 | h1
    · exact hM h1
    · omega
  · intro x hx
    obtain ⟨j, hj, rfl⟩ := List.mem_iff_getElem.1 hx
    rw [List.getElem_set]
    split
    · exact he
    · rename_i hne
      exact hkeep j (by simpa using hj) (fun e => hne e.symm)
  · intro x hx b hb
    obtain ⟨j, hj, rfl⟩ := List.mem_iff_getElem.1 hx
    rw [List.getElem_set] at hb
    split at hb
    · rcases hf b hb with h1 | h1
      · exact hh.foots en hmem b h1
      · exact .inr (Nat.le_trans hh.size h1)
    · exact hh.foots _ (List.getElem_mem _) b hb
  · refine List.pairwise_iff_getElem.2 fun j k hj hk hjk b hb hkb => ?_
    rw [List.getElem_set] at hb hkb
    have hj' : j < h.length := by simpa using hj
    have hk' : k < h.length := by simpa using hk
    have fresh : ∀ m (hm : m < h.length), m ≠ i → (h[m]).foot = some b → en'.foot = some b → False := fun m hm hmi h1 h2 => by
      rcases hf b h2 with h3 | h3
      · exact hapart m hm hmi b h1 h3
      · have := En.holds_lt (hh.ents _ (List.getElem_mem hm)) h1
        omega
    split at hb
    · split at hkb
      · omega
      · rename_i e1 e2
        exact fresh k hk' (fun e => e2 e.symm) hkb hb
    · split at hkb
      · rename_i e1 e2
        exact fresh j hj' (fun e => e1 e.symm) hb hkb
      · exact List.pairwise_iff_getElem.1 hh.apart j k hj' hk' hjk b hb hkb
/-- Fewer entries. -/
theorem Hold.less {h' : List En} (hh : Hold w0 M h w) (hs : h'.Sublist h) : Hold w0 M h' w :=
  ⟨hh.os, hh.tape, hh.output, hh.drawn, hh.size, hh.old, fun en he => hh.ents en (hs.subset he), fun en he => hh.foots en (hs.subset he), hh.apart.sublist hs⟩
theorem Hold.perm {h' : List En} (hh : Hold w0 M h w) (hp : h.Perm h') : Hold w0 M h' w :=
  ⟨hh.os, hh.tape, hh.output, hh.drawn, hh.size, hh.old, fun en he => hh.ents en (hp.mem_iff.2 he), fun en he => hh.foots en (hp.mem_iff.2 he),
    (hp.pairwise_iff (fun {_ _} hxy b hb hx => hxy b hx hb)).1 hh.apart⟩
theorem Hold.below (hh : Hold w0 [] h w) : Below w0.heap.size w0 w := ⟨hh.os, hh.tape, hh.output, hh.size, fun k hk => hh.old k hk (by simp)⟩
theorem Hold.cell0 (hh : Hold w0 M h w) {p : Addr} {v : Value} (hc : w0.cell? p = some v) (hM : p.block ∉ M) : w.cell? p = some v := by
  have hlt : p.block < w0.heap.size := World.block_lt_of_cell? w0 p hc
  rw [World.cell?_of_block (hh.old p.block hlt hM)]
  exact hc
end
/-! ### control -/
/-- No fence but for the loop's record, where a round of a range over a function is walked. -/
abbrev Fr (r : Option Nat) : Fence := { fn := fun _ => True, depth := none, alive := false, round := r }
inductive It where
  | code (c : Code)
  | mark (id : Nat)
  | round (I : Act → World → Prop)
def after (P : Program) (r : Option Nat) : List It → (Exit → Act → World → Prop) → Exit → Act → World → Prop
  | [], Q, e, a, w => Q e a w
  | .code c :: cs, Q, e, a, w => match e with
    | .normal => c.wpIn (Fr r) 0 P (after P r cs Q) a w
    | e => after P r cs Q e a w
  | .mark id :: cs, Q, e, a, w => match e with
    | .exit id' => if id' = id then after P r cs Q .normal a w else after P r cs Q (.exit id') a w
    | e => after P r cs Q e a w
  | .round I :: cs, Q, e, a, w => match e with
    | .normal => I a w
    | e => after P r cs Q e a w
section
variable {P : Program} {Q : Exit → Act → World → Prop} {w0 : World} {M : List Nat} {N : Fm} {r : Option Nat}
/-- WHAT IS TO BE SHOWN: the rest of the code does what is asked, from whatever frame and memory of which so much is known. -/
def WA (P : Program) (Q : Exit → Act → World → Prop) (r : Option Nat) (w0 : World) (M : List Nat) (N : Fm) (cs : List It) (s : List (Nat × Value)) (h : List En) : Prop :=
  ∀ a w, Ag N s a → Hold w0 M h w → after P r cs Q .normal a w
def WR (P : Program) (Q : Exit → Act → World → Prop) (r : Option Nat) (w0 : World) (M : List Nat) (N : Fm) (ops : Array Oper) (rest : List Oper) (cs : List It) (s : List (Nat × Value)) (h : List En) : Prop :=
  ∀ a w, Ag N s a → Hold w0 M h w → wpListIn (Fr r) 0 P ops (after P r cs Q) rest a w
variable {cs : List It} {s : List (Nat × Value)} {h : List En} {ops : Array Oper} {rest : List Oper}
theorem WA.seq {x y : Code} (H : WA P Q r w0 M N (.code x :: .code y :: cs) s h) : WA P Q r w0 M N (.code (.seq x y) :: cs) s h := fun a w ha hw => by
  refine wpIn_seq (wpIn_mono (H a w ha hw) fun e a w q => ?_)
  cases e <;> exact q
theorem WA.skip (H : WA P Q r w0 M N cs s h) : WA P Q r w0 M N (.code .skip :: cs) s h := fun a w ha hw => wpIn_skip (H a w ha hw)
theorem WA.block {id : Nat} {c : Code} (H : WA P Q r w0 M N (.code c :: .mark id :: cs) s h) : WA P Q r w0 M N (.code (.block id c) :: cs) s h := fun a w ha hw => by
  refine wpIn_block (wpIn_mono (H a w ha hw) fun e a w q => ?_)
  cases e <;> exact q
theorem WA.mark {id : Nat} (H : WA P Q r w0 M N cs s h) : WA P Q r w0 M N (.mark id :: cs) s h := fun a w ha hw => H a w ha hw
theorem WA.cond {c : Operand} {x y : Code} {b : Bool} (hc : ev s c = some (.bool b)) (ht : b = true → WA P Q r w0 M N (.code x :: cs) s h) (hf : b = false → WA P Q r w0 M N (.code y :: cs) s h) :
    WA P Q r w0 M N (.code (.cond c x y) :: cs) s h := fun a w ha hw =>
  wpIn_cond_split (ha.eval hc) (fun e => ht e a w ha hw) (fun e => hf e a w ha hw)
theorem WA.cond_t {c : Operand} {x y : Code} {b : Bool} (hc : ev s c = some (.bool b)) (e : b = true) (ht : WA P Q r w0 M N (.code x :: cs) s h) :
    WA P Q r w0 M N (.code (.cond c x y) :: cs) s h := WA.cond hc (fun _ => ht) (fun e' => by rw [e] at e'; cases e')
theorem WA.cond_f {c : Operand} {x y : Code} {b : Bool} (hc : ev s c = some (.bool b)) (e : b = false) (hf : WA P Q r w0 M N (.code y :: cs) s h) :
    WA P Q r w0 M N (.code (.cond c x y) :: cs) s h := WA.cond hc (fun e' => by rw [e] at e'; cases e') (fun _ => hf)
/-- What is left behind a jump out of a block. -/
def popTo (id : Nat) : List It → Option (List It)
  | [] => none
  | .mark id' :: cs => if Nat.beq id id' then some cs else popTo id cs
  | _ :: cs => popTo id cs
theorem after_pop {id : Nat} : ∀ {cs cs' : List It}, popTo id cs = some cs' → ∀ {a : Act} {w : World}, after P r cs' Q .normal a w → after P r cs Q (.exit id) a w
  | [], _, h, _, _, _ => by cases h
  | .mark id' :: cs, cs', h, a, w, H => by
    simp only [popTo] at h
    simp only [after]
    by_cases e : id = id'
    · subst e
      simp at h
      subst h
      simpa using H
    · have e' : Nat.beq id id' = false := beq_ne e
      rw [e'] at h
      rw [if_neg e]
      exact after_pop (by simpa using h) H
  | .code _ :: cs, cs', h, a, w, H => after_pop (cs := cs) h H
  | .round _ :: cs, cs', h, a, w, H => after_pop (cs := cs) h H
theorem WA.exit {id : Nat} {cs' : List It} (hp : popTo id cs = some cs') (H : WA P Q r w0 M N cs' s h) : WA P Q r w0 M N (.code (.exit id) :: cs) s h := fun a w ha hw =>
  wpIn_exit (after_pop hp (H a w ha hw))
theorem after_ret : ∀ (cs : List It) {a : Act} {w : World}, Q .ret a w → after P r cs Q .ret a w
  | [], _, _, H => H
  | .mark _ :: cs, _, _, H => after_ret cs H
  | .code _ :: cs, _, _, H => after_ret cs H
  | .round _ :: cs, _, _, H => after_ret cs H
theorem WA.ret (H : ∀ a w, Ag N s a → Hold w0 M h w → Q .ret a w) : WA P Q r w0 M N (.code .ret :: cs) s h := fun a w ha hw => wpIn_ret (after_ret cs (H a w ha hw))
theorem WA.end_ (H : ∀ a w, Ag N s a → Hold w0 M h w → Q .normal a w) : WA P Q r w0 M N [] s h := fun a w ha hw => H a w ha hw
theorem WA.region {id : Nat} (H : WR P Q r w0 M N ops ops.toList cs s h) : WA P Q r w0 M N (.code (.region id ops false) :: cs) s h := fun a w ha hw => wpIn_region_list (H a w ha hw)
theorem WR.nil (H : WA P Q r w0 M N cs s h) : WR P Q r w0 M N ops [] cs s h := fun a w ha hw => wpListIn_nil (H a w ha hw)
/-- Fewer slots, fewer entries. -/
theorem WA.less {s' : List (Nat × Value)} {h' : List En} (hs : Sub s' s) (hh : h'.Sublist h) (H : WA P Q r w0 M N cs s' h') : WA P Q r w0 M N cs s h := fun a w ha hw => H a w (ha.sub hs) (hw.less hh)
theorem WA.perm {h' : List En} (hh : h.Perm h') (H : WA P Q r w0 M N cs s h') : WA P Q r w0 M N cs s h := fun a w ha hw => H a w ha (hw.perm hh)
/-- A LOOP: whatever g is at a round's head, the slots are (at least) 'sl g', the entries 'en g', and R g holds; each round lowers μ. -/
theorem WA.loop {γ : Type} (sl : γ → List (Nat × Value)) (en : γ → List En) (R : γ → Prop) (μ : γ → Nat) {c : Code} (g0 : γ)
    (hs : Sub (sl g0) s) (hh : (en g0).Sublist h) (h0 : R g0)
    (round : ∀ g, R g → WA P Q r w0 M N (.code c :: .round (fun a w => ∃ g', Ag N (sl g') a ∧ Hold w0 M (en g') w ∧ R g' ∧ μ g' < μ g) :: cs) (sl g) (en g)) :
    WA P Q r w0 M N (.code (.loop c) :: cs) s h := fun a w ha hw => by
  intro b k cs' hro hb hr
  have key : ∀ n g, μ g = n → R g → ∀ a w, Ag N (sl g) a → Hold w0 M (en g) w →
      ∃ e a' w', after P r cs Q e a' w' ∧ ArrivesIn (Machine.fenced P (Fr r)) P (lone (b.atR a (.code c :: .inLoop c :: k)) cs' w) b k cs' e a' w' := by
    intro n
    induction n using Nat.strongRecOn with
    | _ n ih =>
      intro g hn hR a w ha hw
      obtain ⟨e, a1, w1, hq, harr⟩ := round g hR a w ha hw b (.inLoop c :: k) cs' hro hb hr
      cases e with
      | normal =>
        obtain ⟨g', h1, h2, h3, h4⟩ := hq
        obtain ⟨e2, a2, w2, hq2, harr2⟩ := ih (μ g') (hn ▸ h4) g' rfl h3 a1 w1 h1 h2
        exact ⟨e2, a2, w2, hq2, .of_steps (StepsIn.trans harr (.one (fenced_calm hb hr rfl) stepR_inLoop)) harr2⟩
      | exit id => exact ⟨_, a1, w1, hq, .pass (x := .inLoop c) rfl (fun _ _ => .inl (by simp)) harr⟩
      | goto l => exact ⟨_, a1, w1, hq, .pass (x := .inLoop c) rfl (fun _ _ => .inl (by simp)) harr⟩
      | ret => exact ⟨_, a1, w1, hq, .pass (x := .inLoop c) rfl (fun _ _ => .inl (by simp)) harr⟩
      | panic ch => exact ⟨_, a1, w1, hq, .pass (x := .inLoop c) rfl (fun _ _ => .inl (by simp)) harr⟩
      | outgrown => exact ⟨_, a1, w1, hq, .pass (x := .inLoop c) rfl (fun _ _ => .inl (by simp)) harr⟩
  obtain ⟨e, a', w', hq, harr⟩ := key _ g0 rfl h0 a w (ha.sub hs) (hw.less hh)
  exact ⟨e, a', w', hq, .of_steps (.one (fenced_calm hb hr rfl) stepR_loop) harr⟩
end
end Go.J
