/- The calculus, part e: function values that are called, ranges over functions. It speaks of no program. -/
import Derived.Test.YtpbillinpjccdaaGreatJdQ
set_option linter.unusedVariables false
set_option linter.unusedSimpArgs false
set_option linter.unusedSectionVars false
namespace Go.J
open Go.RowKit
/-- CALLING A VALUE: called in w, of which the entries 'own' are handed over, it returns v and hands back hs with 'post v hs'. -/
def Cv (P : Program) (fv : Value) (args : List Value) (own : List En) (w : World) (post : Value → List En → Prop) : Prop :=
  Hold w (foots own) own w → ∀ (o : Oper) (a : Act) (fx : Operand) (xs : Array Operand) (ats : Array TypeId), o.op = .call { callee := .value fx, args := xs, argTypes := ats } → a.eval fx = fv → xs.map a.eval = args.toArray →
    ∀ (next : Act → World → Prop) (Q : Exit → Act → World → Prop), (∀ v hs w', Hold w (foots own) hs w' → post v hs → next (a.put o.dst v) w') → ∀ r, o.wpIn (Fr r) 0 P a w next Q
section
variable {P : Program} {Q : Exit → Act → World → Prop} {w0 : World} {M : List Nat} {n : Nat} {N : Fm} {r : Option Nat} {cs : List It} {s : List (Nat × Value)} {h : List En} {ops : Array Oper} {rest : List Oper} {o : Oper}
/-- A call of a value that may be a round of a loop. -/
theorem WR.callY {d : Nat} {fx : Operand} {xs : Array Operand} {ats : Array TypeId} {fv : Value} {av : List Value} {own hr : List En} {post : Value → List En → Prop} (hG : Gd ops s o true) (hd : o.dst = some d) (hN : Nat.blt d N.n = true)
    (hop : o.op = .call { callee := .value fx, args := xs, argTypes := ats }) (hfx : ev s fx = some fv) (hav : evl s xs.toList = some av) (hp : h.Perm (own ++ hr)) (hc : ∀ w, Hold w0 M h w → Cv P fv av own w post)
    (H : ∀ v hs, post v hs → WR P Q r w0 M N ops rest cs ((d, v) :: s) (hs ++ hr)) : WR P Q r w0 M N ops (o :: rest) cs s h := fun a w ha hw => by
  unfold wpListIn
  rw [if_pos (hG N a ha)]
  have h1 : xs.map a.eval = av.toArray := by
    have := ha.evl hav
    cases xs
    simp at this
    simp [this]
  have hw' := hw.perm hp
  refine hc w hw hw'.own o a fx xs ats hop (ha.eval hfx) h1 _ _ (fun v hs w' hh hpo => ?_) r
  exact H v hs hpo (a.put o.dst v) w' (by rw [hd]; exact ha.put hN v) (hw'.frame hh)
/-! ### rounds -/
def Rq (_P : Program) (w : World) (M : List Nat) (post : Value → List En → Prop) : Ending → World → Prop := fun e w' => ∃ v hs, e = .returned v ∧ Hold w M hs w' ∧ post v hs
/-- What is to be shown at the end of a round's assignments. -/
def Qa (P : Program) (l : Nat) (body : Code) (R : Ending → World → Prop) : Exit → Act → World → Prop
  | .normal, a, w => ∃ w2, (Instr.beginRound l).run P w = .ok () w2 ∧ body.wpIn (Fr (some l)) 0 P (roundPost P l R) a w2
  | _, _, _ => False
theorem Cv.yield {l : Nat} {rec : Loop} {args : List Value} {own : List En} {w : World} {post : Value → List En → Prop} (s : List (Nat × Value)) (hlen : args.length = rec.params.size)
    (hA : Ag ⟨n, []⟩ s { tmps := (rec.params.zip args.toArray).foldl (fun tmps (t, a) => tmps.setIfInBounds t a) rec.tmps, defers := [] })
    (H : WA P (Qa P l rec.body (Rq P w (foots (En.lp l rec :: own)) post)) (some l) w (foots (En.lp l rec :: own)) ⟨n, []⟩ [.code rec.assign] s (En.lp l rec :: own)) : Cv P (.func (.yield l) #[] #[]) args (En.lp l rec :: own) w post :=
  fun hw o a fx xs ats hop hfx hxs next Q HQ r => by
    have h1 : w.heap[l]? = some (.loop rec) := by
      obtain ⟨ob, h1, h2⟩ := hw.ents _ (List.mem_cons_self ..)
      rw [h1]
      exact h2
    have hrun : (execOp a.eval o).run P w = .ok (.round l rec.fn ((rec.params.zip args.toArray).foldl (fun tmps (t, a) => tmps.setIfInBounds t a) rec.tmps) rec.assign rec.body) w := by
      simp only [execOp, hop, resolve, hfx, hxs, Deferred.ofValue]
      have := run_yield (P := P) (args := args.toArray) h1 (by simpa using hlen)
      simpa [invoke] using this
    refine ⟨fun _ _ => trivial, ?_⟩
    rw [semAt_run r hrun (fun _ h => by cases h)]
    refine ⟨fun h => (by cases h), ?_⟩
    have hround : RoundIn (Fr r) (0 - 1) P l rec.fn ((rec.params.zip args.toArray).foldl (fun tmps (t, a) => tmps.setIfInBounds t a) rec.tmps) rec.assign rec.body w (Rq P w (foots (En.lp l rec :: own)) post) := by
      have hF : (Fr r).inRound l = Fr (some l) := by cases r <;> rfl
      refine roundIn_of_wpIn trivial ?_
      rw [hF]
      exact wpIn_mono (H _ w hA hw) fun e a w q => by cases e <;> exact q
    refine hround.mono fun e w' ⟨v, hs, he, hh, hpo⟩ => ?_
    subst he
    exact HQ v hs w' hh hpo
theorem WA.begun {l : Nat} {rec : Loop} {w : World} {post : Value → List En → Prop} (i : Nat) (hi : h[i]? = some (En.lp l rec)) (hst : rec.state = .ready) {body : Code} (hbd : rec.body = body)
    (H : WA P (roundPost P l (Rq P w M post)) (some l) w M N [.code body] s (h.set i (En.lp l { rec with state := .busy }))) : WA P (Qa P l rec.body (Rq P w M post)) (some l) w M N [] s h := fun a w1 ha hw => by
  subst hbd
  have h1 : w1.heap[l]? = some (.loop rec) := by
    obtain ⟨ob, h1, h2⟩ := hw.ent hi
    rw [h1]
    exact h2
  refine ⟨_, run_beginRound h1 hst, ?_⟩
  exact wpIn_mono (H a _ ha (hw.put hi rfl _ (En.lp l { rec with state := .busy }) rfl rfl)) fun e a w q => by cases e <;> exact q
theorem WA.rounded {l : Nat} {rec : Loop} {w : World} {post : Value → List En → Prop} {hs : List En} (i : Nat) (hi : h[i]? = some (En.lp l { rec with state := .busy })) (hst : rec.state = .ready) (hpe : rec.pending = none)
    (hsub : hs.Sublist (h.set i (En.lp l rec))) (hp : post (.bool true) hs) : WA P (roundPost P l (Rq P w M post)) r w M N [] s h := fun a w1 ha hw => by
  have h1 : w1.heap[l]? = some (.loop { rec with state := .busy }) := by
    obtain ⟨ob, h1, h2⟩ := hw.ent hi
    rw [h1]
    exact h2
  have hrec : ({ rec with state := .ready, pending := none } : Loop) = rec := by
    cases rec
    simp only at hst hpe
    subst hst
    subst hpe
    rfl
  refine ⟨_, _, run_endRound none h1, _, hs, rfl, ?_, hp⟩
  refine Hold.less ?_ hsub
  exact hw.put hi rfl _ (En.lp l rec) rfl (by show some _ = some _; rw [← hrec]; rfl)
/-- The record with which a loop begins. -/
structure LoopOk (N : Fm) (s : List (Nat × Value)) (ps : Array Tmp) (assign body : Code) (rec : Loop) : Prop where
  assign : rec.assign = assign
  body : rec.body = body
  params : rec.params = ps
  state : rec.state = .ready
  pending : rec.pending = none
  size : rec.tmps.size = N.n
  slots : ∀ t v, look s t = some v → rec.tmps[t]? = some v
theorem Ag.round2 {ds : List Nat} {ps : Array Tmp} {assign body : Code} {rec : Loop} {t1 t2 : Nat} {a b : Value} (hl : LoopOk ⟨n, ds⟩ s ps assign body rec) (hp : ps = #[t1, t2]) (h1 : Nat.blt t1 n = true) (h2 : Nat.blt t2 n = true) :
    Ag ⟨n, []⟩ ((t2, b) :: (t1, a) :: s) { tmps := (rec.params.zip #[a, b]).foldl (fun tmps (t, a) => tmps.setIfInBounds t a) rec.tmps, defers := [] } := by
  have h0 : Ag ⟨n, []⟩ s { tmps := rec.tmps, defers := [] } := ⟨hl.size, rfl, hl.slots⟩
  have h3 := (h0.put h1 a).put h2 b
  rw [hl.params, hp]
  simpa [Act.put] using h3
theorem WA.rangeFunc {ds : List Nat} {g : Operand} {gf : FuncId} {caps : List Value} {ps : Array Tmp} {assign body : Code} {own hr : List En} (post' : List En → Prop) (hg : ev s g = some (.func (.func gf) #[] caps.toArray)) (hen : Proofs.Enters P gf) (hp : h.Perm (own ++ hr))
    (hc : ∀ D l rec, LoopOk ⟨n, ds⟩ s ps assign body rec → ∀ w, Hold w0 M (En.dfr D :: En.lp l rec :: h) w → Ct P gf (.func (.yield l) #[] #[] :: caps).toArray (En.lp l rec :: own) w (fun _ hs => ∃ hs', hs.Perm (En.lp l rec :: hs') ∧ post' hs'))
    (H : ∀ D hs', post' hs' → WA P Q none w0 M ⟨n, D :: ds⟩ cs s (En.dfr D :: (hs' ++ hr))) : WA P Q none w0 M ⟨n, ds⟩ (.code (.rangeFunc g ps assign body) :: cs) s h := fun a w ha hw => by
  refine wpIn_rangeFunc (F := Fr none) (n := 0) fun fn _ => ?_
  let rec0 : Loop := { state := .ready, pending := none, fn, tmps := a.tmps, params := ps, assign, body, defers := w.heap.size }
  let W2 := (w.alloc (.deferred (some []))).alloc (.loop rec0)
  have hW1 : Hold w0 M (En.dfr w.heap.size :: h) (w.alloc (.deferred (some []))) :=
    hw.new (grownBy_alloc' w _) (Nat.le_refl _) ⟨_, World.alloc_heap_new w _, rfl⟩ (fun b hb => by simp [En.dfr] at hb; omega)
  have hW2 : Hold w0 M (En.lp (w.heap.size + 1) rec0 :: En.dfr w.heap.size :: h) W2 :=
    hW1.new (grownBy_alloc' _ _) (Nat.le_refl _) ⟨_, by have := World.alloc_heap_new (w.alloc (.deferred (some []))) (.loop rec0); rw [World.size_alloc] at this; exact this, rfl⟩ (fun b hb => by simp [En.lp] at hb; simp [← hb])
  have hW3 : Hold w0 M (En.dfr w.heap.size :: En.lp (w.heap.size + 1) rec0 :: h) W2 := hW2.perm (.swap _ _ _)
  have hc' := hc _ _ rec0 ⟨rfl, rfl, rfl, rfl, rfl, ha.1, ha.2.2⟩ W2 hW3
  have hW4 : Hold w0 M ((En.lp (w.heap.size + 1) rec0 :: own) ++ (En.dfr w.heap.size :: hr)) W2 := hW2.perm (by
    refine .cons _ ?_
    exact ((hp.cons _).trans (List.perm_middle.symm))) 
  refine ⟨w.heap.size + 1, _, W2, { target := .fn (.func gf) caps.toArray, args := #[.func (.yield (w.heap.size + 1)) #[] #[]] }, W2, gf, (.func (.yield (w.heap.size + 1)) #[] #[] :: caps).toArray, W2, run_enterLoop_outer fn a.tmps ps assign body, ?_, fun _ _ => trivial, ?_, fun h => (by cases h), ?_⟩
  · have e3 : ∀ v, a.eval (.const v) = v := fun _ => rfl
    simp [resolve, ha.eval hg, e3, Deferred.ofValue]
  · have := hen (.func (.yield (w.heap.size + 1)) #[] #[] :: caps).toArray W2
    simpa [invoke] using this
  · refine (callsIn_wide (n := 0 - 1)).2 ((hc' hW4.own).mono fun e w3 ⟨v, hs, he, hh, hs', hhs, hpo⟩ => ?_)
    subst he
    have hw3 := (hW4.frame hh).perm (hhs.append_right _)
    have hl : w3.heap[w.heap.size + 1]? = some (.loop rec0) := by
      obtain ⟨ob, h1, h2⟩ := hw3.ents _ (List.mem_cons_self ..)
      rw [h1]
      exact h2
    refine ⟨none, _, run_endLoop hl (by simp [rec0]), ?_⟩
    refine H w.heap.size hs' hpo _ _ ⟨ha.1, ?_, ha.2.2⟩ ?_
    · simp [marks, ha.2.1]
    · have h4 := hw3.put (i := 0) rfl rfl (.loop { rec0 with state := .exhausted }) (En.lp (w.heap.size + 1) { rec0 with state := .exhausted }) rfl rfl
      have h5 := h4.less (List.sublist_cons_self _ _)
      exact h5.perm List.perm_middle
theorem Hold.congrM {w : World} {M' : List Nat} (hw : Hold w0 M h w) (hM : ∀ b, b ∈ M ↔ b ∈ M') : Hold w0 M' h w :=
  ⟨hw.os, hw.tape, hw.output, hw.drawn, hw.size, fun k hk hm => hw.old k hk (fun e => hm ((hM k).1 e)), hw.ents, fun en he b hb => (hw.foots en he b hb).imp (hM b).1 id, hw.apart⟩
theorem foots_perm {own own' : List En} (hp : own.Perm own') (b : Nat) : b ∈ foots own ↔ b ∈ foots own' := by
  simp only [mem_foots]
  exact ⟨fun ⟨en, h1, h2⟩ => ⟨en, hp.mem_iff.1 h1, h2⟩, fun ⟨en, h1, h2⟩ => ⟨en, hp.mem_iff.2 h1, h2⟩⟩
theorem Ct.perm {f : FuncId} {args : Array Value} {own own' : List En} {w : World} {post : Value → List En → Prop} (hc : Ct P f args own w post) (hp : own.Perm own') : Ct P f args own' w post := fun hw => by
  have h1 : Hold w (foots own) own w := (hw.perm hp.symm).congrM (fun b => (foots_perm hp b).symm)
  exact (hc h1).mono fun e w' ⟨v, hs, he, hh, hpo⟩ => ⟨v, hs, he, hh.congrM (foots_perm hp), hpo⟩
theorem WR.perm' {h' : List En} (hh : h.Perm h') (H : WR P Q r w0 M N ops rest cs s h') : WR P Q r w0 M N ops rest cs s h := fun a w ha hw => H a w ha (hw.perm hh)
/-- A row, lengthened into its spare room. -/
theorem Hold.growrow {w : World} (hw : Hold w0 M h w) (i : Nat) {A : Option Addr} {n cap E k : Nat} {xs : List Value} (m : Nat) (hi : h[i]? = some (En.row A n cap E k xs)) (hm : n ≤ m) (hc : m ≤ cap) : ∃ ys, ys.length = (m - n) * k ∧ Hold w0 M (h.set i (En.row A m cap E k (xs ++ ys))) w := by
  rcases (row_own (hw.ent hi)) with ⟨hxl, ⟨e1, e2⟩ | ⟨g, cap', cur, e1, _, hg, h3, h4, h5, h6⟩⟩
  · injection e1 with e1 e2' e3
    subst e1
    have hm0 : m = n := by omega
    subst hm0
    refine ⟨[], by simp, ?_⟩
    rw [List.append_nil]
    exact hw.turn hi (World.grownBy.refl w _) (Nat.le_refl _) (hw.ent hi) (fun _ hb => .inl hb)
  · injection e1 with e1 e2 e3
    subst e1
    subst e3
    have hle : m * k ≤ cap * k := Nat.mul_le_mul_right k hc
    have hle2 : n * k ≤ m * k := Nat.mul_le_mul_right k hm
    have hcl : cur.toList.length = cap * k := by simpa using h5
    refine ⟨(cur.toList.take (m * k)).drop (n * k), by rw [List.length_drop, List.length_take, hcl, Nat.sub_mul]; omega, ?_⟩
    refine hw.turn hi (World.grownBy.refl w _) (Nat.le_refl _) ⟨_, hg, ?_, .inr ⟨g, cur, rfl, rfl, hc, h4, h5, ?_⟩⟩ (fun _ hb => .inl hb)
    · rw [List.length_append, hxl, List.length_drop, List.length_take, hcl]; omega
    · conv => rhs; rw [← h6]
      have : cur.toList.take (n * k) = (cur.toList.take (m * k)).take (n * k) := by rw [List.take_take, Nat.min_eq_left hle2]
      rw [this, List.take_append_drop]
theorem WR.growrow (i : Nat) {A : Option Addr} {n cap E k : Nat} {xs : List Value} (m : Nat) (hi : h[i]? = some (En.row A n cap E k xs)) (hm : n ≤ m) (hc : m ≤ cap) (H : ∀ ys : List Value, ys.length = (m - n) * k → WR P Q r w0 M N ops rest cs s (h.set i (En.row A m cap E k (xs ++ ys)))) : WR P Q r w0 M N ops rest cs s h := fun a w ha hw => by
  obtain ⟨ys, h1, h2⟩ := hw.growrow i m hi hm hc
  exact H ys h1 a w ha h2
theorem SlF.pre {w : World} {k : Nat} {A : Option Addr} {n : Nat} {xs : List Value} (hS : SlF w k A n xs) {m : Nat} (hm : m ≤ n) : SlF w k A m (xs.take (m * k)) := by
  have hle : m * k ≤ n * k := Nat.mul_le_mul_right k hm
  refine ⟨by rw [List.length_take, hS.1]; omega, by have := hS.2.1; omega, fun h0 => ?_⟩
  obtain ⟨ad, e, hr⟩ := hS.2.2 (by omega)
  refine ⟨ad, e, fun j v hv => hr j v ?_⟩
  rw [List.getElem?_take] at hv
  split at hv
  · exact hv
  · cases hv
theorem putL_app : ∀ (v a b : List Value), v.length ≤ b.length → putL (a ++ b) a.length v = a ++ (v ++ b.drop v.length)
  | [], a, b, _ => by simp [putL]
  | x :: v, a, [], h => by simp at h
  | x :: v, a, y :: b, h => by
    have ih := putL_app v (a ++ [x]) b (by simpa using h)
    simp only [putL]
    have e : (a ++ y :: b).set a.length x = (a ++ [x]) ++ b := by simp
    rw [e]
    simpa using ih
/-- Two copies make room for one element, and lay it (a new row). -/
theorem ins_new {a z x d : List Value} {k : Nat} (hx : x.length = k) (hz : z.length = k + d.length) : putL (putL (a ++ z) a.length x) (a.length + k) d = a ++ (x ++ d) := by
  rw [putL_app x a z (by omega)]
  have e : a ++ (x ++ z.drop x.length) = (a ++ x) ++ z.drop x.length := by simp
  have e2 : a.length + k = (a ++ x).length := by simp [hx]
  rw [e, e2, putL_app d (a ++ x) _ (by rw [List.length_drop]; omega)]
  have e3 : (z.drop x.length).drop d.length = [] := by
    rw [List.drop_drop]
    exact List.drop_of_length_le (by omega)
  rw [e3]
  simp
/-- The same in the row itself. -/
theorem ins_here {a d y x : List Value} {k : Nat} (hx : x.length = k) (hy : y.length = k) : putL (putL ((a ++ d) ++ y) (a.length + k) d) a.length x = a ++ (x ++ d) := by
  have e0 : (a ++ d) ++ y = (a ++ (d ++ y).take k) ++ (d ++ y).drop k := by
    rw [List.append_assoc, List.append_assoc, List.take_append_drop]
  have e2 : a.length + k = (a ++ (d ++ y).take k).length := by simp [hy]
  rw [e0, e2, putL_app d _ _ (by simp [hy])]
  have e3 : ((d ++ y).drop k).drop d.length = [] := by
    rw [List.drop_drop]
    exact List.drop_of_length_le (by simp [hy, Nat.add_comm])
  rw [e3, List.append_nil]
  have e4 : (a ++ (d ++ y).take k) ++ d = a ++ ((d ++ y).take k ++ d) := by simp
  rw [e4, putL_app x a _ (by simp [hx, hy])]
  congr 2
  rw [List.drop_append]
  simp [hx, hy]
end
end Go.J
