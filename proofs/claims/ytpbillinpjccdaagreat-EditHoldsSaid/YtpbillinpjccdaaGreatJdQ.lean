/- The calculus, part d: contracts of functions, calls, returns. It speaks of no program. -/
import Derived.Test.YtpbillinpjccdaaGreatJcQ
set_option linter.unusedVariables false
set_option linter.unusedSimpArgs false
set_option linter.unusedSectionVars false
namespace Go.J
open Go.RowKit
def foots (own : List En) : List Nat := own.filterMap (·.foot)
theorem mem_foots {own : List En} {b : Nat} : b ∈ foots own ↔ ∃ en ∈ own, en.foot = some b := by simp [foots]
/-- A CONTRACT: called in w, of which the entries 'own' are handed over, it returns v and hands back the entries hs with 'post v hs'; whatever else was there is as it was. -/
def Ct (P : Program) (f : FuncId) (args : Array Value) (own : List En) (w : World) (post : Value → List En → Prop) : Prop :=
  Hold w (foots own) own w → Calls P f args w fun e w' => ∃ v hs, e = .returned v ∧ Hold w (foots own) hs w' ∧ post v hs
def PfL (P : Program) (fn : Func) (w : World) (M : List Nat) (post : Value → List En → Prop) (a : Act) (w' : World) : Prop :=
  LeavesInM (Fr none) 0 P fn a.tmps (fun e w' => ∃ v hs, e = .returned v ∧ Hold w M hs w' ∧ post v hs) a.defers .returning w'
def Pf (P : Program) (fn : Func) (w : World) (M : List Nat) (post : Value → List En → Prop) : Exit → Act → World → Prop
  | .normal, a, w' | .ret, a, w' => PfL P fn w M post a w'
  | _, _, _ => False
theorem Pf_blind (P : Program) (fn : Func) (w : World) (M : List Nat) (post : Value → List En → Prop) : Blind (Pf P fn w M post) := fun _ _ _ _ h => h
def sl0 : Nat → List Value → List (Nat × Value)
  | _, [] => []
  | k, v :: l => (k, v) :: sl0 (k + 1) l
theorem Ag.start0 (args : List Value) (N : Nat) (hN : Nat.ble args.length N = true) : Ag ⟨N, []⟩ (sl0 0 args) { tmps := args.toArray ++ Array.replicate (N - args.toArray.size) undef, defers := [] } := by
  have hN' : args.length ≤ N := Nat.le_of_ble_eq_true hN
  refine ⟨by simp; omega, rfl, fun t v ht => ?_⟩
  have key : ∀ (l : List Value) (k t : Nat) (v : Value), look (sl0 k l) t = some v → k ≤ t ∧ l[t - k]? = some v := by
    intro l
    induction l with
    | nil => intro k t v h; simp [look, sl0] at h
    | cons x l ih =>
      intro k t v h
      simp only [sl0, look] at h
      by_cases e : k = t
      · subst e
        simp at h
        subst h
        simp
      · have e' : Nat.beq k t = false := beq_ne e
        rw [e'] at h
        obtain ⟨h1, h2⟩ := ih (k + 1) t v (by simpa using h)
        refine ⟨by omega, ?_⟩
        rw [show t - k = (t - (k + 1)) + 1 by omega]
        simpa using h2
  obtain ⟨_, h2⟩ := key args 0 t v ht
  have h3 : args.toArray[t]? = some v := by simpa using h2
  have h4 : t < args.toArray.size := (Array.getElem?_eq_some_iff.1 h3).1
  rw [Array.getElem?_append_left h4]
  exact h3
section
variable {P : Program} {w0 : World} {M : List Nat} {n : Nat} {N : Fm} {r : Option Nat} {cs : List It} {s : List (Nat × Value)} {h : List En} {ops : Array Oper} {rest : List Oper} {o : Oper}
theorem Ct.intro {f : FuncId} {fn : Func} {c : Code} {args : List Value} {own : List En} {w : World} {post : Value → List En → Prop} (hf : P.funcs[f]? = some fn) (hb : fn.body = some c) (hN : fn.ntmps = n) (ha : Nat.ble args.length n = true)
    (H : WA P (Pf P fn w (foots own) post) none w (foots own) ⟨n, []⟩ [.code c] (sl0 0 args) own) : Ct P f args.toArray own w post := fun hw => by
  subst hN
  refine (callsIn_wide (n := 0)).1 (callsIn_of_wp_marks (F := Fr none) hf hb trivial ?_ rfl)
  have h1 := H _ w (Ag.start0 args fn.ntmps ha) hw
  exact wpIn_mono h1 fun e a w q => by cases e <;> first | exact q | exact False.elim q
theorem Ct.mono {f : FuncId} {args : Array Value} {own : List En} {w : World} {post post' : Value → List En → Prop} (h : Ct P f args own w post) (hp : ∀ v hs, post v hs → post' v hs) : Ct P f args own w post' := fun hw =>
  (h hw).mono fun _ _ ⟨v, hs, h1, h2, h3⟩ => ⟨v, hs, h1, h2, hp _ _ h3⟩
theorem Ct.to_below {f : FuncId} {args : Array Value} {w : World} {v : Value} (h : Ct P f args [] w fun u hs => u = v ∧ hs = []) : Calls P f args w fun e w' => e = .returned v ∧ Below w.heap.size w w' :=
  (h (Hold.nil w _)).mono fun _ _ ⟨u, hs, h1, h2, h3, h4⟩ => by
    subst h3
    subst h4
    exact ⟨h1, h2.below⟩
theorem Hold.own {w : World} {own hr : List En} (hw : Hold w0 M (own ++ hr) w) : Hold w (J.foots own) own w :=
  ⟨rfl, rfl, rfl, Nat.le_refl _, Nat.le_refl _, fun _ _ _ => rfl, fun en he => hw.ents en (List.mem_append_left _ he), fun en he b hb => .inl (mem_foots.2 ⟨en, he, hb⟩), (List.pairwise_append.1 hw.apart).1⟩
/-- What a callee hands back, beside what the caller kept. -/
theorem Hold.frame {w w' : World} {own hr hs : List En} (hw : Hold w0 M (own ++ hr) w) (hc : Hold w (J.foots own) hs w') : Hold w0 M (hs ++ hr) w' := by
  obtain ⟨ap1, ap2, ap3⟩ := List.pairwise_append.1 hw.apart
  have keep : ∀ en ∈ hr, ∀ b, en.foot = some b → b ∉ J.foots own := fun en he b hb hm => by
    obtain ⟨x, hx, hxb⟩ := mem_foots.1 hm
    exact ap3 x hx en he b hxb hb
  refine ⟨hc.os.trans hw.os, hc.tape.trans hw.tape, hc.output.trans hw.output, Nat.le_trans hw.drawn hc.drawn, Nat.le_trans hw.size hc.size, ?_, ?_, ?_, ?_⟩
  · intro k hk hM
    refine (hc.old k (Nat.lt_of_lt_of_le hk hw.size) fun hm => ?_).trans (hw.old k hk hM)
    obtain ⟨x, hx, hxb⟩ := mem_foots.1 hm
    rcases hw.foots x (List.mem_append_left _ hx) k hxb with h1 | h1
    · exact hM h1
    · omega
  · intro en he
    rcases List.mem_append.1 he with he | he
    · exact hc.ents en he
    · have h0 := hw.ents en (List.mem_append_right _ he)
      exact En.holds_same h0 fun b hb => hc.old b (En.holds_lt h0 hb) (keep en he b hb)
  · intro en he b hb
    rcases List.mem_append.1 he with he | he
    · rcases hc.foots en he b hb with h1 | h1
      · obtain ⟨x, hx, hxb⟩ := mem_foots.1 h1
        exact hw.foots x (List.mem_append_left _ hx) b hxb
      · exact .inr (Nat.le_trans hw.size h1)
    · exact hw.foots en (List.mem_append_right _ he) b hb
  · refine List.pairwise_append.2 ⟨hc.apart, ap2, fun x hx y hy b hb hyb => ?_⟩
    have hlt := En.holds_lt (hw.ents y (List.mem_append_right _ hy)) hyb
    rcases hc.foots x hx b hb with h1 | h1
    · exact keep y hy b hyb h1
    · omega
def evl (s : List (Nat × Value)) : List Operand → Option (List Value)
  | [] => some []
  | x :: l => match ev s x, evl s l with
    | some v, some r => some (v :: r)
    | _, _ => none
theorem Ag.evl {a : Act} (ha : Ag N s a) : ∀ {l : List Operand} {r : List Value}, J.evl s l = some r → l.map a.eval = r
  | [], r, h => by simp [J.evl] at h; simp [h]
  | x :: l, r, h => by
    simp only [J.evl] at h
    split at h
    · rename_i v q h1 h2
      simp only [Option.some.injEq] at h
      subst h
      simp [ha.eval h1, ha.evl h2]
    · cases h
/-- A CALL: the entries 'own' are handed over. -/
theorem Dw.call {fx : Operand} {xs : Array Operand} {ats : Array TypeId} {f : FuncId} {caps av : List Value} {own hr : List En} {post : Value → List En → Prop} (hop : o.op = .call { callee := .value fx, args := xs, argTypes := ats })
    (hfx : ev s fx = some (.func (.func f) #[] caps.toArray)) (hav : evl s xs.toList = some av) (hen : Proofs.Enters P f) (hp : h.Perm (own ++ hr))
    (hc : ∀ w, Hold w0 M h w → Ct P f (av ++ caps).toArray own w post) : Dw P w0 M N s h o (fun v h' => ∃ hs, post v hs ∧ h' = hs ++ hr) := fun a w ha hw next Q H => by
  have h1 : xs.map a.eval = av.toArray := by
    have := ha.evl hav
    cases xs
    simp at this
    simp [this]
  have hrun : (execOp a.eval o).run P w = .ok (.enter f (av ++ caps).toArray) w := by
    simp only [execOp, hop, resolve, ha.eval hfx, h1, Deferred.ofValue]
    simp [invoke, hen (av ++ caps).toArray w]
  have hw' := hw.perm hp
  have key : Calls P f (av ++ caps).toArray w fun
      | .returned v, w'' => next (a.put o.dst v) w''
      | .panicked chain, w'' => Q (.panic chain) a w''
      | .outgrown, _ => LetsOut Q := (hc w hw hw'.own).mono fun e w1 ⟨v, hs, he, hh, hpo⟩ => by
    subst he
    exact H v _ w1 (hw'.frame hh) ⟨hs, hpo, rfl⟩
  refine ⟨by unfold Oper.wp; rw [hrun]; exact key, fun r => ⟨fun _ _ => trivial, ?_⟩⟩
  rw [semAt_run r hrun (fun _ h => by cases h)]
  refine ⟨fun h => (by cases h), ?_⟩
  have k2 := (callsIn_wide (n := 0 - 1)).2 key
  cases r with
  | none => exact k2
  | some l => exact k2.inRound l
/-- A call that is handed nothing over. -/
theorem Dw.call0 {fx : Operand} {xs : Array Operand} {ats : Array TypeId} {f : FuncId} {caps av : List Value} {post : Value → List En → Prop} (hop : o.op = .call { callee := .value fx, args := xs, argTypes := ats })
    (hfx : ev s fx = some (.func (.func f) #[] caps.toArray)) (hav : evl s xs.toList = some av) (hen : Proofs.Enters P f)
    (hc : ∀ w, Hold w0 M h w → Ct P f (av ++ caps).toArray [] w post) : Dw P w0 M N s h o (fun v h' => ∃ hs, post v hs ∧ h' = hs ++ h) := Dw.call hop hfx hav hen (.refl _) hc
/-- .. and only returns a value. -/
theorem Dw.callv {fx : Operand} {xs : Array Operand} {ats : Array TypeId} {f : FuncId} {caps av : List Value} {v : Value} (hop : o.op = .call { callee := .value fx, args := xs, argTypes := ats })
    (hfx : ev s fx = some (.func (.func f) #[] caps.toArray)) (hav : evl s xs.toList = some av) (hen : Proofs.Enters P f)
    (hc : ∀ w, Hold w0 M h w → Ct P f (av ++ caps).toArray [] w (fun u hs => u = v ∧ hs = [])) : Dw P w0 M N s h o (fun u h' => u = v ∧ h' = h) := fun a w ha hw next Q H =>
  Dw.call0 hop hfx hav hen hc a w ha hw next Q fun _ h' w' hh ⟨hs, ⟨h1, h2⟩, h3⟩ => by
    subst h1
    subst h2
    exact H _ _ w' hh ⟨rfl, h3⟩
/-- A call that is handed one entry over. -/
theorem Dw.callo (i : Nat) {en : En} {fx : Operand} {xs : Array Operand} {ats : Array TypeId} {f : FuncId} {caps av : List Value} {post : Value → List En → Prop} (hi : h[i]? = some en) (hop : o.op = .call { callee := .value fx, args := xs, argTypes := ats })
    (hfx : ev s fx = some (.func (.func f) #[] caps.toArray)) (hav : evl s xs.toList = some av) (hen : Proofs.Enters P f)
    (hc : ∀ w, Hold w0 M h w → Ct P f (av ++ caps).toArray [en] w post) : Dw P w0 M N s h o (fun v h' => ∃ hs, post v hs ∧ h' = hs ++ h.eraseIdx i) := Dw.call hop hfx hav hen (perm_pick hi) hc
theorem perm_pick2 {i j : Nat} {a b : En} (hi : h[i]? = some a) (hj : (h.eraseIdx i)[j]? = some b) : h.Perm ([a, b] ++ (h.eraseIdx i).eraseIdx j) := (perm_pick hi).trans ((perm_pick hj).cons a)
theorem Dw.callo2 (i j : Nat) {e1 e2 : En} {fx : Operand} {xs : Array Operand} {ats : Array TypeId} {f : FuncId} {caps av : List Value} {post : Value → List En → Prop} (hi : h[i]? = some e1) (hj : (h.eraseIdx i)[j]? = some e2) (hop : o.op = .call { callee := .value fx, args := xs, argTypes := ats })
    (hfx : ev s fx = some (.func (.func f) #[] caps.toArray)) (hav : evl s xs.toList = some av) (hen : Proofs.Enters P f)
    (hc : ∀ w, Hold w0 M h w → Ct P f (av ++ caps).toArray [e1, e2] w post) : Dw P w0 M N s h o (fun v h' => ∃ hs, post v hs ∧ h' = hs ++ (h.eraseIdx i).eraseIdx j) := Dw.call hop hfx hav hen (perm_pick2 hi hj) hc
/-! ### returns -/
theorem results1 {fn : Func} {t : Nat} (hr : fn.results = #[.tmp t]) {a : Act} {v : Value} (ht : a.tmps[t]? = some v) (w : World) : (results fn a.tmps).run P w = .ok v w := by
  simp [results, hr, Array.getD_eq_getD_getElem?, ht]
def RT (P : Program) (fn : Func) (w0 : World) (M : List Nat) (post : Value → List En → Prop) (N : Fm) (s : List (Nat × Value)) (h : List En) : Prop := ∀ a w, Ag N s a → Hold w0 M h w → PfL P fn w0 M post a w
variable {fn : Func} {post : Value → List En → Prop}
theorem WA.retq (H : RT P fn w0 M post N s h) : WA P (Pf P fn w0 M post) r w0 M N (.code .ret :: cs) s h := .ret fun a w ha hw => H a w ha hw
theorem WA.endq (H : RT P fn w0 M post N s h) : WA P (Pf P fn w0 M post) r w0 M N [] s h := .end_ fun a w ha hw => H a w ha hw
theorem RT.of {hs : List En} {v : Value} (hsub : hs.Sublist h) (hp : post v hs) (H : ∀ a w, Ag ⟨n, []⟩ s a → Hold w0 M h w → (results fn a.tmps).run P w = .ok v w) : RT P fn w0 M post ⟨n, []⟩ s h := fun a w ha hw => by
  unfold PfL
  rw [show a.defers = [] from ha.2.1]
  exact ⟨v, H a w ha hw, v, hs, rfl, hw.less hsub, hp⟩
/-- A block of deferred calls, of which there are none. -/
def En.dfr (D : Nat) : En := ⟨some D, fun o => o = some (.deferred (some []))⟩
/-- The record of a range over a function. -/
def En.lp (l : Nat) (rec : Loop) : En := ⟨some l, fun o => o = some (.loop rec)⟩
theorem Hold.put {w : World} (hw : Hold w0 M h w) {i : Nat} {en : En} (hi : h[i]? = some en) {l : Nat} (hl : en.foot = some l) (o : Obj) (en' : En) (hl' : en'.foot = some l) (ho : en'.ok (some o)) : Hold w0 M (h.set i en') (w.putObj l o) := by
  obtain ⟨ob, h1, _⟩ := (by have := hw.ent hi; unfold En.holds at this; rw [hl] at this; exact this : ∃ o, w.heap[l]? = some o ∧ en.ok (some o))
  refine hw.turn hi (by rw [hl]; exact ⟨rfl, rfl, rfl, by simp, fun k _ hk => World.putObj_heap_other (fun e => hk (by rw [e]))⟩) (Nat.le_refl _) ?_ (fun b hb => .inl (by rw [hl, ← hl', hb]))
  unfold En.holds
  rw [hl']
  exact ⟨o, World.putObj_heap_same (Array.getElem?_eq_some_iff.1 h1).1, ho⟩
theorem RT.undefer {D : Nat} {ds : List Nat} (i : Nat) (hi : h[i]? = some (En.dfr D)) (H : RT P fn w0 M post ⟨n, ds⟩ s (h.eraseIdx i)) : RT P fn w0 M post ⟨n, D :: ds⟩ s h := fun a w ha hw => by
  have h1 : w.heap[D]? = some (.deferred (some [])) := by
    obtain ⟨o, h1, h2⟩ := hw.ent hi
    rw [h1]
    exact h2
  have h2 : Hold w0 M (h.eraseIdx i) (w.putObj D (.deferred none)) := by
    have h3 := (hw.perm (perm_pick hi)).put (i := 0) rfl rfl (.deferred none) ⟨some D, fun o => o = some (.deferred none)⟩ rfl rfl
    exact h3.less (List.sublist_cons_self _ _)
  have h3 := H { a with defers := marks ds } _ ⟨ha.1, rfl, ha.2.2⟩ h2
  unfold PfL at h3 ⊢
  rw [show a.defers = { target := .collected D, args := #[] } :: marks ds from ha.2.1]
  exact ⟨by simp, .inl ⟨D, _, rfl, run_takeDeferred h1, h3⟩⟩
theorem RT.ret0 {hs : List En} (hr : fn.results = #[]) (hsub : hs.Sublist h) (hp : post (.tuple #[]) hs) : RT P fn w0 M post ⟨n, []⟩ s h := .of hsub hp fun a w ha hw => by simp [results, hr]
theorem RT.ret1 {t : Nat} {v : Value} {hs : List En} (hr : fn.results = #[.tmp t]) (hv : look s t = some v) (hsub : hs.Sublist h) (hp : post v hs) : RT P fn w0 M post ⟨n, []⟩ s h := .of hsub hp fun a w ha hw => results1 hr (ha.2.2 t v hv) w
theorem RT.ret2 {t u : Nat} {x y : Value} {hs : List En} (hr : fn.results = #[.tmp t, .tmp u]) (hx : look s t = some x) (hy : look s u = some y) (hsub : hs.Sublist h) (hp : post (.tuple #[x, y]) hs) : RT P fn w0 M post ⟨n, []⟩ s h := .of hsub hp fun a w ha hw => by
  simp [results, hr, Array.getD_eq_getD_getElem?, ha.2.2 t x hx, ha.2.2 u y hy]
theorem RT.ret3 {t u q : Nat} {x y z : Value} {hs : List En} (hr : fn.results = #[.tmp t, .tmp u, .tmp q]) (hx : look s t = some x) (hy : look s u = some y) (hz : look s q = some z) (hsub : hs.Sublist h) (hp : post (.tuple #[x, y, z]) hs) : RT P fn w0 M post ⟨n, []⟩ s h := .of hsub hp fun a w ha hw => by
  simp [results, hr, Array.getD_eq_getD_getElem?, ha.2.2 t x hx, ha.2.2 u y hy, ha.2.2 q z hz]
theorem RT.ret4 {t u q k : Nat} {x y z v : Value} {hs : List En} (hr : fn.results = #[.tmp t, .tmp u, .tmp q, .tmp k]) (hx : look s t = some x) (hy : look s u = some y) (hz : look s q = some z) (hv : look s k = some v) (hsub : hs.Sublist h) (hp : post (.tuple #[x, y, z, v]) hs) : RT P fn w0 M post ⟨n, []⟩ s h := .of hsub hp fun a w ha hw => by
  simp [results, hr, Array.getD_eq_getD_getElem?, ha.2.2 t x hx, ha.2.2 u y hy, ha.2.2 q z hz, ha.2.2 k v hv]
theorem WA.end0 {hs : List En} (hr : fn.results = #[]) (hsub : hs.Sublist h) (hp : post (.tuple #[]) hs) : WA P (Pf P fn w0 M post) r w0 M ⟨n, []⟩ [] s h := .endq (.ret0 hr hsub hp)
theorem WA.ret1 {t : Nat} {v : Value} {hs : List En} (hr : fn.results = #[.tmp t]) (hv : look s t = some v) (hsub : hs.Sublist h) (hp : post v hs) : WA P (Pf P fn w0 M post) r w0 M ⟨n, []⟩ (.code .ret :: cs) s h := .retq (.ret1 hr hv hsub hp)
theorem WA.ret2 {t u : Nat} {x y : Value} {hs : List En} (hr : fn.results = #[.tmp t, .tmp u]) (hx : look s t = some x) (hy : look s u = some y) (hsub : hs.Sublist h) (hp : post (.tuple #[x, y]) hs) : WA P (Pf P fn w0 M post) r w0 M ⟨n, []⟩ (.code .ret :: cs) s h := .retq (.ret2 hr hx hy hsub hp)
theorem WA.ret3 {t u q : Nat} {x y z : Value} {hs : List En} (hr : fn.results = #[.tmp t, .tmp u, .tmp q]) (hx : look s t = some x) (hy : look s u = some y) (hz : look s q = some z) (hsub : hs.Sublist h) (hp : post (.tuple #[x, y, z]) hs) :
    WA P (Pf P fn w0 M post) r w0 M ⟨n, []⟩ (.code .ret :: cs) s h := .retq (.ret3 hr hx hy hz hsub hp)
theorem WA.ret4 {t u q k : Nat} {x y z v : Value} {hs : List En} (hr : fn.results = #[.tmp t, .tmp u, .tmp q, .tmp k]) (hx : look s t = some x) (hy : look s u = some y) (hz : look s q = some z) (hv : look s k = some v) (hsub : hs.Sublist h) (hp : post (.tuple #[x, y, z, v]) hs) :
    WA P (Pf P fn w0 M post) r w0 M ⟨n, []⟩ (.code .ret :: cs) s h := .retq (.ret4 hr hx hy hz hv hsub hp)
/-- A result that lies in a slot, or in a cell. -/
def rvS (tmps : Array Value) : ResultVar → Sem Value
  | .tmp t => pure (tmps.getD t undef)
  | .cell a t => do loadVar t (← asAddr (tmps.getD a undef))
def RV (P : Program) (w0 : World) (M : List Nat) (N : Fm) (s : List (Nat × Value)) (h : List En) (r : ResultVar) (v : Value) : Prop := ∀ a w, Ag N s a → Hold w0 M h w → (rvS a.tmps r).run P w = .ok v w
theorem RV.tmp {t : Nat} {v : Value} (ht : look s t = some v) : RV P w0 M N s h (.tmp t) v := fun a w ha _ => by
  simp [rvS, Array.getD_eq_getD_getElem?, ha.2.2 t v ht]
theorem RV.cellK {t : Nat} {T : TypeId} {ad : Addr} {vs : List Value} (hT : AG P T vs.length) (ht : look s t = some (.pointer (some ad))) (hr : ∀ w, Hold w0 M h w → Rd w ad vs) : RV P w0 M N s h (.cell t T) (.agg vs.toArray) := fun a w ha hw => by
  have h1 := run_loadCells_list (P := P) w ad vs (hr w hw)
  simp [rvS, Array.getD_eq_getD_getElem?, ha.2.2 t _ ht, asAddr, loadVar, hT.1 w, hT.2 w, h1]
theorem results_eq (fn : Func) (tmps : Array Value) : results fn tmps = (do let vs ← fn.results.mapM (rvS tmps); pure (if h : vs.size = 1 then vs[0] else .tuple vs)) := by
  unfold results
  congr 1
theorem RT.retv1 {r1 : ResultVar} {v1 : Value} {hs : List En} (hr : fn.results = #[r1]) (h1 : RV P w0 M ⟨n, []⟩ s h r1 v1) (hsub : hs.Sublist h) (hp : post v1 hs) : RT P fn w0 M post ⟨n, []⟩ s h := .of hsub hp fun a w ha hw => by rw [results_eq, hr]; simp [h1 a w ha hw]
theorem RT.retv2 {r1 r2 : ResultVar} {v1 v2 : Value} {hs : List En} (hr : fn.results = #[r1, r2]) (h1 : RV P w0 M ⟨n, []⟩ s h r1 v1) (h2 : RV P w0 M ⟨n, []⟩ s h r2 v2) (hsub : hs.Sublist h) (hp : post (.tuple #[v1, v2]) hs) :
    RT P fn w0 M post ⟨n, []⟩ s h := .of hsub hp fun a w ha hw => by rw [results_eq, hr]; simp [h1 a w ha hw, h2 a w ha hw]
theorem WA.retv1 {r1 : ResultVar} {v1 : Value} {hs : List En} (hr : fn.results = #[r1]) (h1 : RV P w0 M ⟨n, []⟩ s h r1 v1) (hsub : hs.Sublist h) (hp : post v1 hs) : WA P (Pf P fn w0 M post) r w0 M ⟨n, []⟩ (.code .ret :: cs) s h := .retq (.retv1 hr h1 hsub hp)
theorem WA.retv2 {r1 r2 : ResultVar} {v1 v2 : Value} {hs : List En} (hr : fn.results = #[r1, r2]) (h1 : RV P w0 M ⟨n, []⟩ s h r1 v1) (h2 : RV P w0 M ⟨n, []⟩ s h r2 v2) (hsub : hs.Sublist h) (hp : post (.tuple #[v1, v2]) hs) :
    WA P (Pf P fn w0 M post) r w0 M ⟨n, []⟩ (.code .ret :: cs) s h := .retq (.retv2 hr h1 h2 hsub hp)
/-- An entry told in other words. -/
theorem WA.roweq (i : Nat) {A : Option Addr} {n cap E k : Nat} {xs : List Value} (hi : h[i]? = some (En.row A n cap E k xs)) {Q : Exit → Act → World → Prop} (n' : Nat) (xs' : List Value) (hn : n = n') (hx : xs = xs') (H : WA P Q r w0 M N cs s (h.set i (En.row A n' cap E k xs'))) : WA P Q r w0 M N cs s h := by
  subst hn
  subst hx
  have e : h.set i (En.row A n cap E k xs) = h := by
    apply List.ext_getElem? 
    intro j
    rw [List.getElem?_set]
    split
    · rename_i e
      subst e
      split
      · exact hi.symm
      · rename_i hl
        rw [List.getElem?_eq_none (by omega)]
    · rfl
  rw [e] at H
  exact H
theorem WA.blkeq (i : Nat) {b : Nat} {xs : List Value} {T : TypeId} (hi : h[i]? = some (En.blk b xs T)) {Q : Exit → Act → World → Prop} (xs' : List Value) (hx : xs = xs') (H : WA P Q r w0 M N cs s (h.set i (En.blk b xs' T))) : WA P Q r w0 M N cs s h := by
  subst hx
  have e : h.set i (En.blk b xs T) = h := by
    apply List.ext_getElem?
    intro j
    rw [List.getElem?_set]
    split
    · rename_i e
      subst e
      split
      · exact hi.symm
      · rename_i hl
        rw [List.getElem?_eq_none (by omega)]
    · rfl
  rw [e] at H
  exact H
theorem WA.cutrow {Q : Exit → Act → World → Prop} (i : Nat) {A : Option Addr} {n cap E k : Nat} {xs : List Value} (m : Nat) (hi : h[i]? = some (En.row A n cap E k xs)) (hm : m ≤ n) (H : WA P Q r w0 M N cs s (h.set i (En.row A m cap E k (xs.take (m * k))))) : WA P Q r w0 M N cs s h := fun a w ha hw => H a w ha (hw.cutrow i m hi hm)
/-- A row has room for what it holds. -/
theorem WA.rowcap {Q : Exit → Act → World → Prop} (i : Nat) {A : Option Addr} {n cap E k : Nat} {xs : List Value} (hi : h[i]? = some (En.row A n cap E k xs)) (H : n ≤ cap ∧ n ≤ maxLen → WA P Q r w0 M N cs s h) : WA P Q r w0 M N cs s h := fun a w ha hw => by
  have h1 := (hw.slf_row i hi).2.1
  refine H ⟨?_, h1⟩ a w ha hw
  rcases (row_own (hw.ent hi)).2 with ⟨e1, e2⟩ | ⟨g, cap', cur, e1, _, _, h3, _⟩
  · omega
  · injection e1 with _ _ e3
    omega
theorem WA.drawsE1 {Q : Exit → Act → World → Prop} {id : Nat} {ops : Array Oper} (hm : P.follows .mixedOrders = true) (i : Nat) (H : WH P Q w0 M N ops (h.eraseIdx i) ops.size (Array.replicate ops.size false) cs s h) : WA P Q none w0 M N (.code (.region id ops true) :: cs) s h := .draws hm _ H
theorem WA.drawsE2 {Q : Exit → Act → World → Prop} {id : Nat} {ops : Array Oper} (hm : P.follows .mixedOrders = true) (i j : Nat) (H : WH P Q w0 M N ops ((h.eraseIdx i).eraseIdx j) ops.size (Array.replicate ops.size false) cs s h) : WA P Q none w0 M N (.code (.region id ops true) :: cs) s h := .draws hm _ H
theorem WA.drawsE3 {Q : Exit → Act → World → Prop} {id : Nat} {ops : Array Oper} (hm : P.follows .mixedOrders = true) (i j k : Nat) (H : WH P Q w0 M N ops (((h.eraseIdx i).eraseIdx j).eraseIdx k) ops.size (Array.replicate ops.size false) cs s h) : WA P Q none w0 M N (.code (.region id ops true) :: cs) s h := .draws hm _ H
theorem Hold.rdx {w : World} (hh : Hold w0 [] h w) {b off k : Nat} {cs vs : List Value} (hr : Rd w0 ⟨b, 0, none⟩ cs) (hs : sb cs off k = some vs) : Rd w ⟨b, off, none⟩ vs := fun j v hv => by
  have h1 := hr (off + j) v ((sb_get hs).2 j v hv)
  rw [addr_add] at h1 ⊢
  rw [Nat.zero_add] at h1
  exact hh.cell0 h1 (by simp)
end
end Go.J
