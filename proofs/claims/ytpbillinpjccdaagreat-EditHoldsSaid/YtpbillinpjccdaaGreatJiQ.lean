/- A new slice of a given length. It speaks of no program. -/
import Derived.Test.YtpbillinpjccdaaGreatRaQ
import Derived.Laws.MakeOwn
set_option linter.unusedVariables false
set_option linter.unusedSimpArgs false
set_option linter.unusedSectionVars false
namespace Go.J
open Go.RowKit Go.R
section
variable {P : Program} {w0 : World} {M : List Nat} {N : Fm} {s : List (Nat × Value)} {h : List En} {o : Oper}
theorem Ex.rem {x y : Operand} {t t' : TypeId} {k : IntKind} {p q : Int} (hop : o.op = .binOp .rem t x y t') (hx : ev s x = some (.int k p)) (hy : ev s y = some (.int k q)) (h0 : 0 ≤ p) (hq : 0 < q) :
    Ex P w0 M N s h o (.int k (p % q)) := fun a w ha _ => by
  have h1 : ¬ q = 0 := by omega
  simp [execOp, hop, ha.eval hx, ha.eval hy, eqGuard_at_int, binOp_rem, Op.intDiv, h1, Int.tmod_eq_emod_of_nonneg h0]
end
end Go.J
