/- The calculus, part h: strings out of runes, strings compared. It speaks of no program. -/
import Derived.Test.YtpbillinpjccdaaGreatJgQ
import Derived.Laws.Cover4
import Derived.Laws.Strings
set_option linter.unusedVariables false
set_option linter.unusedSimpArgs false
set_option linter.unusedSectionVars false
namespace Go.J
open Go.RowKit
section
variable {P : Program} {Q : Exit → Act → World → Prop} {w0 : World} {M : List Nat} {n : Nat} {N : Fm} {r : Option Nat} {cs : List It} {s : List (Nat × Value)} {h : List En} {ops : Array Oper} {rest : List Oper} {o : Oper}
theorem Ex.runesStr {src dst e : TypeId} {x : Operand} {A : Option Addr} {m c : Nat} {l : List Int} (hop : o.op = .convert src dst x) (hs : P.underlying src = some (.slice e)) (he : P.underlying e = some (.int .i32)) (hd : P.underlying dst = some .string) (hx : ev s x = some (.slice A m c))
    (hm : ∀ w, Hold w0 M h w → SlF w 1 A m (l.map (Value.int .i32))) : Ex P w0 M N s h o (.string (runesBytes l)) := fun a w ha hw => by
  have hS := hm w hw
  have hl : l.length = m := by have := hS.1; simpa using this
  have hrun : (convert src dst (.slice A m c)).run P w = .ok (.string (runesBytes l)) w := by
    cases A with
    | none =>
      have h0 : m = 0 := by
        rcases Nat.eq_zero_or_pos m with h | h
        · exact h
        · have := hS.some_ h; cases this
      have hn : l = [] := List.eq_nil_of_length_eq_zero (by omega)
      subst hn
      exact run_convert_runes_nil w src dst e m c hs he hd
    | some ad =>
      rw [run_convert_runes_string w src dst e _ _ _ hs he hd]
      apply run_runesToString
      have hr : Rd w ad (l.map (Value.int .i32)) := by
        rcases Nat.eq_zero_or_pos m with h | h
        · intro j v hv
          have hn : l = [] := List.eq_nil_of_length_eq_zero (by omega)
          subst hn
          simp at hv
        · obtain ⟨ad', e1, hr⟩ := hS.2.2 h
          cases e1
          exact hr
      have := run_loadCells_list (P := P) w ad (l.map (Value.int .i32)) hr
      rw [List.length_map, hl] at this
      exact this
  simp [execOp, hop, ha.eval hx, hrun]
theorem Ex.eqlStr {x y : Operand} {t t' : TypeId} {p q : ByteArray} (hop : o.op = .binOp .eql t x y t') (ht : P.underlying t = some .string) (hx : ev s x = some (.string p)) (hy : ev s y = some (.string q)) : Ex P w0 M N s h o (.bool (p.toList == q.toList)) := fun a w ha _ => by
  simp [execOp, hop, ha.eval hx, ha.eval hy, eqGuard_at_string, binOp_string_eql]
end
theorem flat_rc (l : List Int) : l.flatMap (fun x => [Value.int .i32 x]) = l.map (Value.int .i32) := by
  induction l with
  | nil => rfl
  | cons x l ih => simp [ih]
/-- The bytes of runes. -/
def rbytes (l : List Int) : List UInt8 := l.flatMap fun r => (Utf8.encode r).data.toList
theorem runesBytes_data (l : List Int) : (runesBytes l).toList = rbytes l := by
  rw [ByteArray.toList_eq]
  have key : ∀ (l : List Int) (s : ByteArray), (l.foldl (fun r n => r ++ Utf8.encode n) s).data.toList = s.data.toList ++ rbytes l := by
    intro l
    induction l with
    | nil => intro s; simp [rbytes]
    | cons n l ih =>
      intro s
      simp only [List.foldl_cons, ih, rbytes, List.flatMap_cons, ByteArray.data_append, Array.toList_append, List.append_assoc]
  have := key l ByteArray.empty
  simpa [runesBytes] using this
theorem bytes_data (l : List UInt8) : (⟨l.toArray⟩ : ByteArray).toList = l := ByteArray.toList_mk l
end Go.J
