/- Two facts more of the whole program: how it was lifted and made. -/
import Derived.Test.YtpbillinpjccdaaGreatRows
import Derived.Test.YtpbillinpjccdaaGreatChecked
import Derived.ProofKit
import Derived.WalkKit
import Derived.SizedLaws
set_option linter.unusedVariables false
set_option linter.unusedSimpArgs false
set_option linter.unusedSectionVars false
namespace Go.Proofs.YtpbillinpjccdaaGreat.Fu
open Go.ChangeShapes Go.WideShapes Go.ChangeAt Go.RowKit
theorem lifted : (Rows.editInsertsRow.lifted == Tryz.prog.liftsFinal) = true := by kernel_rfl
theorem made : (Tryz.prog.make == some Rows.editInsertsRow.make) = true := by kernel_rfl
end Go.Proofs.YtpbillinpjccdaaGreat.Fu
