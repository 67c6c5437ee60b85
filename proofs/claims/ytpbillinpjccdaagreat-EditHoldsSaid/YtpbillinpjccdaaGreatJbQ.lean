/- The calculus, part b: rules for single operations. It speaks of no program. -/
import Derived.Test.YtpbillinpjccdaaGreatJaQ
set_option linter.unusedVariables false
set_option linter.unusedSimpArgs false
set_option linter.unusedSectionVars false
namespace Go.J
open Go.RowKit
theorem perm_pick : ∀ {h : List En} {i : Nat} {en : En}, h[i]? = some en → h.Perm (en :: h.eraseIdx i)
  | [], _, _, h => by simp at h
  | x :: l, 0, en, h => by
    simp at h
    subst h
    exact .refl _
  | x :: l, i + 1, en, h => by
    simp at h
    exact ((perm_pick h).cons x).trans (.swap _ _ _)
section
variable {P : Program} {Q : Exit → Act → World → Prop} {w0 : World} {M : List Nat} {N : Fm} {r : Option Nat} {cs : List It} {s : List (Nat × Value)} {h : List En} {ops : Array Oper} {rest : List Oper} {o : Oper}
/-! ### guards -/
def Gd (ops : Array Oper) (s : List (Nat × Value)) (o : Oper) (b : Bool) : Prop := ∀ N a, Ag N s a → Region.wanted o (yielded ops a.tmps) = b
theorem G0 (hg : o.guard = none) : Gd ops s o true := fun _ _ _ => by simp [Region.wanted, hg]
theorem Gs {j d : Nat} {want b : Bool} (hg : o.guard = some (j, want)) (hj : (ops[j]?).bind (·.dst) = some d) (hd : look s d = some (.bool b)) : Gd ops s o (b == want) := fun N a ha => by
  have := ha.2.2 d _ hd
  simp only [Region.wanted, hg, yielded, hj, Option.bind_some, this]
  cases b <;> cases want <;> rfl
theorem Gt {j d : Nat} {want b : Bool} (hg : o.guard = some (j, want)) (hj : (ops[j]?).bind (·.dst) = some d) (hd : look s d = some (.bool b)) (e : b = want) : Gd ops s o true := fun N a ha => by
  rw [Gs hg hj hd N a ha, e]; cases want <;> rfl
theorem Gf {j d : Nat} {want b : Bool} (hg : o.guard = some (j, want)) (hj : (ops[j]?).bind (·.dst) = some d) (hd : look s d = some (.bool b)) (e : b = !want) : Gd ops s o false := fun N a ha => by
  rw [Gs hg hj hd N a ha, e]; cases want <;> rfl
theorem Gu {j d : Nat} {want : Bool} (hg : o.guard = some (j, want)) (hj : (ops[j]?).bind (·.dst) = some d) (hd : look s d = some undef) : Gd ops s o false := fun N a ha => by
  have := ha.2.2 d _ hd
  simp only [Region.wanted, hg, yielded, hj, Option.bind_some, this]
  rfl
theorem semAt_run (r : Option Nat) {ρ : Operand → Value} {x : Next} {w' w : World} (h : (execOp ρ o).run P w = .ok x w') (hx : ∀ d, x ≠ .defer d) : (o.semAt r ρ).run P w = .ok x w' := by
  cases r with
  | none => exact h
  | some l =>
    unfold Oper.semAt
    cases hop : o.op <;> first | exact h | skip
    rename_i c
    simp only [execOp, hop, Sem.run_bind] at h
    cases hr : (resolve ρ c o.type).run P w with
    | ok d w1 =>
      rw [hr] at h
      simp only [Result.andThen, Sem.run_pure, Result.ok.injEq] at h
      exact absurd h.1.symm (hx d)
    | halt e w1 =>
      rw [hr] at h
      cases h
/-! ### an operation that yields a value and leaves the world; one that is carried out -/
def Ex (P : Program) (w0 : World) (M : List Nat) (N : Fm) (s : List (Nat × Value)) (h : List En) (o : Oper) (v : Value) : Prop :=
  ∀ a w, Ag N s a → Hold w0 M h w → (execOp a.eval o).run P w = .ok (.value v) w
def Dw (P : Program) (w0 : World) (M : List Nat) (N : Fm) (s : List (Nat × Value)) (h : List En) (o : Oper) (post : Value → List En → Prop) : Prop :=
  ∀ a w, Ag N s a → Hold w0 M h w → ∀ (next : Act → World → Prop) (Q : Exit → Act → World → Prop), (∀ v h' w', Hold w0 M h' w' → post v h' → next (a.put o.dst v) w') → o.wp P a w next Q ∧ ∀ r, o.wpIn (Fr r) 0 P a w next Q
theorem WR.val {d : Nat} {v : Value} (hG : Gd ops s o true) (hd : o.dst = some d) (hN : Nat.blt d N.n = true) (hE : Ex P w0 M N s h o v) (H : WR P Q r w0 M N ops rest cs ((d, v) :: s) h) :
    WR P Q r w0 M N ops (o :: rest) cs s h := fun a w ha hw => by
  unfold wpListIn
  rw [if_pos (hG N a ha)]
  refine ⟨fun _ _ => trivial, ?_⟩
  rw [semAt_run r (hE a w ha hw) (fun _ h => by cases h)]
  have := H (a.put o.dst v) w (by rw [hd]; exact ha.put hN v) hw
  exact this
theorem WR.off {d : Nat} (hG : Gd ops s o false) (hd : o.dst = some d) (hN : Nat.blt d N.n = true) (H : WR P Q r w0 M N ops rest cs ((d, undef) :: s) h) :
    WR P Q r w0 M N ops (o :: rest) cs s h := fun a w ha hw => by
  unfold wpListIn
  rw [if_neg (by rw [hG N a ha]; simp)]
  exact ⟨fun _ _ => trivial, H (a.put o.dst undef) w (by rw [hd]; exact ha.put hN undef) hw⟩
theorem WR.dw {d : Nat} {post : Value → List En → Prop} (hG : Gd ops s o true) (hd : o.dst = some d) (hN : Nat.blt d N.n = true) (hD : Dw P w0 M N s h o post)
    (H : ∀ v h', post v h' → WR P Q r w0 M N ops rest cs ((d, v) :: s) h') : WR P Q r w0 M N ops (o :: rest) cs s h := fun a w ha hw => by
  unfold wpListIn
  rw [if_pos (hG N a ha)]
  refine (hD a w ha hw _ _ fun v h' w' hw' hp => ?_).2 r
  exact H v h' hp (a.put o.dst v) w' (by rw [hd]; exact ha.put hN v) hw'
theorem WR.dw0 {post : Value → List En → Prop} (hG : Gd ops s o true) (hd : o.dst = none) (hD : Dw P w0 M N s h o post)
    (H : ∀ v h', post v h' → WR P Q r w0 M N ops rest cs s h') : WR P Q r w0 M N ops (o :: rest) cs s h := fun a w ha hw => by
  unfold wpListIn
  rw [if_pos (hG N a ha)]
  refine (hD a w ha hw _ _ fun v h' w' hw' hp => ?_).2 r
  rw [hd]
  exact H v h' hp a w' ha hw'
theorem Dw.of_run {post : Value → List En → Prop} (hr : ∀ a w, Ag N s a → Hold w0 M h w → ∃ v h' w', ((execOp a.eval o).run P w = .ok (.value v) w' ∨ ((execOp a.eval o).run P w = .ok .skip w' ∧ v = undef)) ∧ Hold w0 M h' w' ∧ post v h') :
    Dw P w0 M N s h o post := fun a w ha hw next Q H => by
  obtain ⟨v, h', w', hrun, hh, hp⟩ := hr a w ha hw
  rcases hrun with hrun | ⟨hrun, rfl⟩
  · refine ⟨by unfold Oper.wp; rw [hrun]; exact H _ h' w' hh hp, fun r => ⟨fun _ _ => trivial, ?_⟩⟩
    rw [semAt_run r hrun (fun _ h => by cases h)]
    exact H _ h' w' hh hp
  · refine ⟨by unfold Oper.wp; rw [hrun]; exact H _ h' w' hh hp, fun r => ⟨fun _ _ => trivial, ?_⟩⟩
    rw [semAt_run r hrun (fun _ h => by cases h)]
    exact H _ h' w' hh hp
theorem Ex.dw {v : Value} (hE : Ex P w0 M N s h o v) : Dw P w0 M N s h o (fun u h' => u = v ∧ h' = h) := .of_run fun a w ha hw => ⟨v, h, w, .inl (hE a w ha hw), hw, rfl, rfl⟩
/-! ### a region that draws its order -/
def WH (P : Program) (Q : Exit → Act → World → Prop) (w0 : World) (M : List Nat) (N : Fm) (ops : Array Oper) (hS : List En) (fuel : Nat) (listed : Array Bool) (cs : List It) (s : List (Nat × Value)) (h : List En) : Prop :=
  ∀ a w, Ag N s a → Hold w0 M h w → wpAnyH P .any ops (after P none cs Q) (Hold w0 M hS) fuel listed a w
variable {hS : List En} {fuel : Nat} {listed : Array Bool}
theorem after_panic {c : List PanicEntry} {a a' : Act} {w : World} (hQ : ∀ c a a' w, Q (.panic c) a w → Q (.panic c) a' w) : ∀ cs : List It, after P none cs Q (.panic c) a w → after P none cs Q (.panic c) a' w
  | [], H => hQ c a a' w H
  | .code _ :: cs, H => after_panic hQ cs H
  | .mark _ :: cs, H => after_panic hQ cs H
  | .round _ :: cs, H => after_panic hQ cs H
/-- A post that does not look at the frame at a panic. -/
def Blind (Q : Exit → Act → World → Prop) : Prop := ∀ c a a' w, Q (.panic c) a w → Q (.panic c) a' w
theorem WA.draws {id : Nat} (hm : P.follows .mixedOrders = true) (hS : List En) (H : WH P Q w0 M N ops hS ops.size (Array.replicate ops.size false) cs s h) :
    WA P Q none w0 M N (.code (.region id ops true) :: cs) s h := fun a w ha hw => wpIn_wide.2 (wp_region_held (S := Hold w0 M hS) hm (H a _ ha hw.drew))
theorem WA.draws0 {id : Nat} (hm : P.follows .mixedOrders = true) (H : WH P Q w0 M N ops h ops.size (Array.replicate ops.size false) cs s h) :
    WA P Q none w0 M N (.code (.region id ops true) :: cs) s h := WA.draws hm h H
theorem WH.take (i : Nat) {d : Nat} {v : Value} (hi : ops[i]? = some o) (hQ : Blind Q) (hs : Region.noSelect ops = true) (hf : Region.free .any ops listed i = true) (hr : (Region.ready .any ops listed).contains i = true)
    (hSub : hS.Sublist h) (hG : Gd ops s o true) (hd : o.dst = some d) (hN : Nat.blt d N.n = true) (hE : Ex P w0 M N s hS o v)
    (H : WH P Q w0 M N ops hS fuel (listed.setIfInBounds i true) cs ((d, v) :: s) h) : WH P Q w0 M N ops hS (fuel + 1) listed cs s h := fun a w ha hw => by
  refine wpAnyH_take hi hs hf hr (fun _ _ _ q => after_panic hQ cs q) (.inl ⟨hG N a ha, fun w' hw' => hE a w' ha hw'⟩) (hw.less hSub) ?_
  exact H (a.put o.dst v) w (by rw [hd]; exact ha.put hN v) hw
theorem WH.off (i : Nat) {d : Nat} (hi : ops[i]? = some o) (hQ : Blind Q) (hs : Region.noSelect ops = true) (hf : Region.free .any ops listed i = true) (hr : (Region.ready .any ops listed).contains i = true)
    (hSub : hS.Sublist h) (hG : Gd ops s o false) (hd : o.dst = some d) (hN : Nat.blt d N.n = true)
    (H : WH P Q w0 M N ops hS fuel (listed.setIfInBounds i true) cs ((d, undef) :: s) h) : WH P Q w0 M N ops hS (fuel + 1) listed cs s h := fun a w ha hw => by
  refine wpAnyH_take hi hs hf hr (fun _ _ _ q => after_panic hQ cs q) (.inr ⟨hG N a ha, rfl⟩) (hw.less hSub) ?_
  exact H (a.put o.dst undef) w (by rw [hd]; exact ha.put hN undef) hw
/-- The one operation that may come up now. -/
theorem WH.dw (i : Nat) {d : Nat} {post : Value → List En → Prop} (hi : ops[i]? = some o) (hr : Region.ready .any ops listed = [i]) (hG : Gd ops s o true) (hd : o.dst = some d) (hN : Nat.blt d N.n = true) (hD : Dw P w0 M N s h o post)
    (H : ∀ v h', post v h' → hS.Sublist h' ∧ WH P Q w0 M N ops hS fuel (listed.setIfInBounds i true) cs ((d, v) :: s) h') : WH P Q w0 M N ops hS (fuel + 1) listed cs s h := fun a w ha hw => by
  refine wpAnyH_all hr (by simp) fun j hj => ?_
  obtain rfl : j = i := by simpa using hj
  unfold wpOp
  simp only [hi]
  rw [if_pos (hG N a ha)]
  refine .inl (hD a w ha hw _ _ fun v h' w' hw' hp => ?_).1
  obtain ⟨h1, h2⟩ := H v h' hp
  exact ⟨hw'.less h1, h2 (a.put o.dst v) w' (by rw [hd]; exact ha.put hN v) hw'⟩
theorem WH.dw0 (i : Nat) {post : Value → List En → Prop} (hi : ops[i]? = some o) (hr : Region.ready .any ops listed = [i]) (hG : Gd ops s o true) (hd : o.dst = none) (hD : Dw P w0 M N s h o post)
    (H : ∀ v h', post v h' → hS.Sublist h' ∧ WH P Q w0 M N ops hS fuel (listed.setIfInBounds i true) cs s h') : WH P Q w0 M N ops hS (fuel + 1) listed cs s h := fun a w ha hw => by
  refine wpAnyH_all hr (by simp) fun j hj => ?_
  obtain rfl : j = i := by simpa using hj
  unfold wpOp
  simp only [hi]
  rw [if_pos (hG N a ha)]
  refine .inl (hD a w ha hw _ _ fun v h' w' hw' hp => ?_).1
  obtain ⟨h1, h2⟩ := H v h' hp
  rw [hd]
  exact ⟨hw'.less h1, h2 a w' ha hw'⟩
/-- One of several operations that may come up now comes up. -/
def WO (P : Program) (Q : Exit → Act → World → Prop) (w0 : World) (M : List Nat) (N : Fm) (ops : Array Oper) (hS : List En) (fuel : Nat) (listed : Array Bool) (cs : List It) (s : List (Nat × Value)) (h : List En) (i : Nat) : Prop :=
  ∀ a w, Ag N s a → Hold w0 M h w → wpOp P ops (after P none cs Q) i (fun a' w' => Hold w0 M hS w' ∧ wpAnyH P .any ops (after P none cs Q) (Hold w0 M hS) fuel (listed.setIfInBounds i true) a' w') a w
theorem WH.two {i j : Nat} (hr : Region.ready .any ops listed = [i, j]) (Hi : WO P Q w0 M N ops hS fuel listed cs s h i) (Hj : WO P Q w0 M N ops hS fuel listed cs s h j) : WH P Q w0 M N ops hS (fuel + 1) listed cs s h := fun a w ha hw => by
  refine wpAnyH_all hr (by simp) fun q hq => ?_
  rcases List.mem_cons.1 hq with rfl | hq
  · exact Hi a w ha hw
  · obtain rfl : q = j := by simpa using hq
    exact Hj a w ha hw
theorem WO.dw (i : Nat) {d : Nat} {post : Value → List En → Prop} (hi : ops[i]? = some o) (hG : Gd ops s o true) (hd : o.dst = some d) (hN : Nat.blt d N.n = true) (hD : Dw P w0 M N s h o post)
    (H : ∀ v h', post v h' → hS.Sublist h' ∧ WH P Q w0 M N ops hS fuel (listed.setIfInBounds i true) cs ((d, v) :: s) h') : WO P Q w0 M N ops hS fuel listed cs s h i := fun a w ha hw => by
  unfold wpOp
  simp only [hi]
  rw [if_pos (hG N a ha)]
  refine .inl (hD a w ha hw _ _ fun v h' w' hw' hp => ?_).1
  obtain ⟨h1, h2⟩ := H v h' hp
  exact ⟨hw'.less h1, h2 (a.put o.dst v) w' (by rw [hd]; exact ha.put hN v) hw'⟩
theorem WH.done (hr : Region.ready .any ops listed = []) (H : WA P Q none w0 M N cs s h) : WH P Q w0 M N ops hS fuel listed cs s h := fun a w ha hw => wpAnyH_done hr (H a w ha hw) fuel
/-! ### operations that look at slots alone -/
theorem Ex.move {x : Operand} {v : Value} (hop : o.op = .move x) (hx : ev s x = some v) : Ex P w0 M N s h o v := fun a w ha _ => by simp [execOp, hop, ha.eval hx]
theorem Ex.assign {x : Operand} {v : Value} (hop : o.op = .assign x) (hx : ev s x = some v) : Ex P w0 M N s h o v := fun a w ha _ => by simp [execOp, hop, ha.eval hx]
theorem Ex.pick_t {c x y : Operand} {b : Bool} {v : Value} (hop : o.op = .pick c x y) (hc : ev s c = some (.bool b)) (e : b = true) (hx : ev s x = some v) : Ex P w0 M N s h o v := fun a w ha _ => by
  simp [execOp, hop, ha.eval hc, ha.eval hx, e, asBool]
theorem Ex.pick_f {c x y : Operand} {b : Bool} {v : Value} (hop : o.op = .pick c x y) (hc : ev s c = some (.bool b)) (e : b = false) (hy : ev s y = some v) : Ex P w0 M N s h o v := fun a w ha _ => by
  simp [execOp, hop, ha.eval hc, ha.eval hy, e, asBool]
theorem Ex.not {x : Operand} {t : TypeId} {b : Bool} (hop : o.op = .unOp .not t x) (hx : ev s x = some (.bool b)) : Ex P w0 M N s h o (.bool !b) := fun a w ha _ => by
  simp [execOp, hop, ha.eval hx, Op.unary]
theorem Ex.lss {x y : Operand} {t t' : TypeId} {k : IntKind} {p q : Int} (hop : o.op = .binOp .lss t x y t') (hx : ev s x = some (.int k p)) (hy : ev s y = some (.int k q)) : Ex P w0 M N s h o (.bool (decide (p < q))) := fun a w ha _ => by
  simp [execOp, hop, ha.eval hx, ha.eval hy, eqGuard_at_int, binOp_lss]
theorem Ex.leq {x y : Operand} {t t' : TypeId} {k : IntKind} {p q : Int} (hop : o.op = .binOp .leq t x y t') (hx : ev s x = some (.int k p)) (hy : ev s y = some (.int k q)) : Ex P w0 M N s h o (.bool (decide (p ≤ q))) := fun a w ha _ => by
  simp [execOp, hop, ha.eval hx, ha.eval hy, eqGuard_at_int, binOp_leq]
theorem Ex.gtr {x y : Operand} {t t' : TypeId} {k : IntKind} {p q : Int} (hop : o.op = .binOp .gtr t x y t') (hx : ev s x = some (.int k p)) (hy : ev s y = some (.int k q)) : Ex P w0 M N s h o (.bool (decide (q < p))) := fun a w ha _ => by
  simp [execOp, hop, ha.eval hx, ha.eval hy, eqGuard_at_int, binOp_gtr]
theorem Ex.geq {x y : Operand} {t t' : TypeId} {k : IntKind} {p q : Int} (hop : o.op = .binOp .geq t x y t') (hx : ev s x = some (.int k p)) (hy : ev s y = some (.int k q)) : Ex P w0 M N s h o (.bool (decide (q ≤ p))) := fun a w ha _ => by
  simp [execOp, hop, ha.eval hx, ha.eval hy, eqGuard_at_int, binOp_geq]
theorem Ex.eql {x y : Operand} {t t' : TypeId} {k : IntKind} {p q : Int} (hop : o.op = .binOp .eql t x y t') (hx : ev s x = some (.int k p)) (hy : ev s y = some (.int k q)) : Ex P w0 M N s h o (.bool (decide (p = q))) := fun a w ha _ => by
  simp [execOp, hop, ha.eval hx, ha.eval hy, eqGuard_at_int, binOp_eql]; rw [Bool.eq_iff_iff]; simp
theorem Ex.neq {x y : Operand} {t t' : TypeId} {k : IntKind} {p q : Int} (hop : o.op = .binOp .neq t x y t') (hx : ev s x = some (.int k p)) (hy : ev s y = some (.int k q)) : Ex P w0 M N s h o (.bool (!decide (p = q))) := fun a w ha _ => by
  simp [execOp, hop, ha.eval hx, ha.eval hy, eqGuard_at_int, binOp_neq, bne]; rw [Bool.eq_iff_iff]; simp
theorem wrap_i64 {x : Int} (h1 : -9223372036854775808 ≤ x) (h2 : x ≤ 9223372036854775807) : IntKind.i64.wrap x = x := by rw [IntKind.wrap_i64]; omega
theorem Ex.add {x y : Operand} {t t' : TypeId} {p q : Int} (hop : o.op = .binOp .add t x y t') (hx : ev s x = some (.int .i64 p)) (hy : ev s y = some (.int .i64 q)) (h1 : -9223372036854775808 ≤ p + q) (h2 : p + q ≤ 9223372036854775807) :
    Ex P w0 M N s h o (.int .i64 (p + q)) := fun a w ha _ => by simp [execOp, hop, ha.eval hx, ha.eval hy, eqGuard_at_int, binOp_add, Op.intArith, wrap_i64 h1 h2]
theorem Ex.sub {x y : Operand} {t t' : TypeId} {p q : Int} (hop : o.op = .binOp .sub t x y t') (hx : ev s x = some (.int .i64 p)) (hy : ev s y = some (.int .i64 q)) (h1 : -9223372036854775808 ≤ p - q) (h2 : p - q ≤ 9223372036854775807) :
    Ex P w0 M N s h o (.int .i64 (p - q)) := fun a w ha _ => by simp [execOp, hop, ha.eval hx, ha.eval hy, eqGuard_at_int, binOp_sub, Op.intArith, wrap_i64 h1 h2]
def nth : List Value → Nat → Option Value
  | [], _ => none
  | v :: _, 0 => some v
  | _ :: l, n + 1 => nth l n
theorem nth_eq : ∀ (l : List Value) (n : Nat), nth l n = l[n]?
  | [], _ => rfl
  | _ :: _, 0 => rfl
  | _ :: l, n + 1 => by simp [nth, nth_eq l n]
theorem Ex.extract {x : Operand} {i : Nat} {vs : List Value} {v : Value} (hop : o.op = .extract x i) (hx : ev s x = some (.tuple vs.toArray)) (hv : nth vs i = some v) : Ex P w0 M N s h o v := fun a w ha _ => by
  rw [nth_eq] at hv
  simp [execOp, hop, ha.eval hx, Instr.extract, hv]
theorem Ex.makeFunc1 {fn : Fn} {x : Operand} {v : Value} (hop : o.op = .makeFunc fn #[] #[x]) (hx : ev s x = some v) : Ex P w0 M N s h o (.func fn #[] #[v]) := fun a w ha _ => by simp [execOp, hop, Instr.makeFunc, ha.eval hx]
theorem Ex.makeFunc2 {fn : Fn} {x y : Operand} {v u : Value} (hop : o.op = .makeFunc fn #[] #[x, y]) (hx : ev s x = some v) (hy : ev s y = some u) : Ex P w0 M N s h o (.func fn #[] #[v, u]) := fun a w ha _ => by simp [execOp, hop, Instr.makeFunc, ha.eval hx, ha.eval hy]
theorem Ex.nilCheck {x : Operand} {ad : Addr} (hop : o.op = .nilCheck x) (hx : ev s x = some (.pointer (some ad))) : Ex P w0 M N s h o (.pointer (some ad)) := fun a w ha _ => by simp [execOp, hop, ha.eval hx]
theorem Ex.len {x : Operand} {A : Option Addr} {n c : Nat} {t e : TypeId} (hop : o.op = .call { callee := .builtin .len, args := #[x], argTypes := #[t] }) (ht : P.underlying t = some (.slice e)) (hx : ev s x = some (.slice A n c)) :
    Ex P w0 M N s h o (.int .i64 n) := fun a w ha _ => by
  simp [execOp, hop, ha.eval hx, resolve, invoke, builtin, Builtin.len_, run_underlying ht, goInt]
/-- '==' and '!=' at values that are no whole numbers. -/
theorem Ex.bin {op : BinOp} {x y : Operand} {t t' : TypeId} {u v r : Value} (hop : o.op = .binOp op t x y t') (hx : ev s x = some u) (hy : ev s y = some v) (hr : ∀ x y w, (do eqGuard op t x y u v; binOp op t u v : Sem Value).run P w = .ok r w) : Ex P w0 M N s h o r := fun a w ha _ => by
  have := hr x y w
  simp only [execOp, hop, ha.eval hx, ha.eval hy]
  simp only [Sem.run_bind] at this ⊢
  rw [this]
  rfl
theorem WR.split {d : Nat} {b : Bool} (_hl : look s d = some (.bool b)) (ht : b = true → WR P Q r w0 M N ops rest cs s h) (hf : b = false → WR P Q r w0 M N ops rest cs s h) : WR P Q r w0 M N ops rest cs s h := by
  cases b
  · exact hf rfl
  · exact ht rfl
theorem WH.split {d : Nat} {b : Bool} (_hl : look s d = some (.bool b)) (ht : b = true → WH P Q w0 M N ops hS fuel listed cs s h) (hf : b = false → WH P Q w0 M N ops hS fuel listed cs s h) : WH P Q w0 M N ops hS fuel listed cs s h := by
  cases b
  · exact hf rfl
  · exact ht rfl
theorem WA.round {γ : Type} {sl : γ → List (Nat × Value)} {en : γ → List En} {R : γ → Prop} {μ : γ → Nat} {g : γ} (g' : γ) (hs : Sub (sl g') s) (hh : (en g').Sublist h) (hR : R g') (hm : μ g' < μ g) :
    WA P Q r w0 M N (.round (fun a w => ∃ g', Ag N (sl g') a ∧ Hold w0 M (en g') w ∧ R g' ∧ μ g' < μ g) :: cs) s h := fun _ _ ha hw => ⟨g', ha.sub hs, hw.less hh, hR, hm⟩
theorem Sub.app : ∀ {a b s : List (Nat × Value)}, Sub a s → Sub b s → Sub (a ++ b) s
  | [], _, _, _, hb => hb
  | (t, v) :: a, b, s, ha, hb => fun u x hu => by
    by_cases e : t = u
    · subst e
      have h1 : look ((t, v) :: a) t = some x := by
        simp only [List.cons_append, look] at hu ⊢
        simpa using hu
      exact ha t x h1
    · have e' : Nat.beq t u = false := beq_ne e
      simp only [List.cons_append, look, e'] at hu
      have key : ∀ (l : List (Nat × Value)), look (l ++ b) u = some x → look l u = some x ∨ look b u = some x := by
        intro l
        induction l with
        | nil => exact fun h => .inr h
        | cons y l ih =>
          intro h
          obtain ⟨c, z⟩ := y
          simp only [List.cons_append, look] at h ⊢
          cases hc : Nat.beq c u with
          | true => rw [hc] at h; exact .inl h
          | false => rw [hc] at h; exact ih h
      rcases key a hu with h1 | h1
      · exact ha u x (by simp only [look, e']; exact h1)
      · exact hb u x h1
/-- A loop, of which some slots and entries turn, and others are kept. -/
theorem WA.loopK {γ : Type} (keep : List (Nat × Value)) (E : List En) (ch : γ → List (Nat × Value)) (chE : γ → List En) (R : γ → Prop) (μ : γ → Nat) {c : Code} (g0 : γ) (hk : Sub keep s) (hs : Sub (ch g0) s) (hh : (chE g0 ++ E).Sublist h) (h0 : R g0)
    (round : ∀ g, R g → WA P Q r w0 M N (.code c :: .round (fun a w => ∃ g', Ag N (ch g' ++ keep) a ∧ Hold w0 M (chE g' ++ E) w ∧ R g' ∧ μ g' < μ g) :: cs) (ch g ++ keep) (chE g ++ E)) :
    WA P Q r w0 M N (.code (.loop c) :: cs) s h := WA.loop (fun g => ch g ++ keep) (fun g => chE g ++ E) R μ g0 (hs.app hk) hh h0 round
theorem WA.roundK {γ : Type} {keep : List (Nat × Value)} {E : List En} {ch : γ → List (Nat × Value)} {chE : γ → List En} {R : γ → Prop} {μ : γ → Nat} {g : γ} (g' : γ) (hk : Sub keep s) (hs : Sub (ch g') s) (hh : (chE g' ++ E).Sublist h) (hR : R g') (hm : μ g' < μ g) :
    WA P Q r w0 M N (.round (fun a w => ∃ g', Ag N (ch g' ++ keep) a ∧ Hold w0 M (chE g' ++ E) w ∧ R g' ∧ μ g' < μ g) :: cs) s h := fun _ _ ha hw => ⟨g', ha.sub (hs.app hk), hw.less hh, hR, hm⟩
/-- The same, the entries all told. -/
theorem WA.loopT {γ : Type} (keep : List (Nat × Value)) (ch : γ → List (Nat × Value)) (chE : γ → List En) (R : γ → Prop) (μ : γ → Nat) {c : Code} (g0 : γ) (hk : Sub keep s) (hs : Sub (ch g0) s) (hh : (chE g0).Sublist h) (h0 : R g0)
    (round : ∀ g, R g → WA P Q r w0 M N (.code c :: .round (fun a w => ∃ g', Ag N (ch g' ++ keep) a ∧ Hold w0 M (chE g') w ∧ R g' ∧ μ g' < μ g) :: cs) (ch g ++ keep) (chE g)) :
    WA P Q r w0 M N (.code (.loop c) :: cs) s h := WA.loop (fun g => ch g ++ keep) chE R μ g0 (hs.app hk) hh h0 round
theorem WA.roundT {γ : Type} {keep : List (Nat × Value)} {ch : γ → List (Nat × Value)} {chE : γ → List En} {R : γ → Prop} {μ : γ → Nat} {g : γ} (g' : γ) (hk : Sub keep s) (hs : Sub (ch g') s) (hh : (chE g').Sublist h) (hR : R g') (hm : μ g' < μ g) :
    WA P Q r w0 M N (.round (fun a w => ∃ g', Ag N (ch g' ++ keep) a ∧ Hold w0 M (chE g') w ∧ R g' ∧ μ g' < μ g) :: cs) s h := fun _ _ ha hw => ⟨g', ha.sub (hs.app hk), hw.less hh, hR, hm⟩
/-- One entry to the front. -/
theorem WA.front (i : Nat) {en : En} (hi : h[i]? = some en) (H : WA P Q r w0 M N cs s (en :: h.eraseIdx i)) : WA P Q r w0 M N cs s h := .perm (perm_pick hi) H
end
end Go.J
