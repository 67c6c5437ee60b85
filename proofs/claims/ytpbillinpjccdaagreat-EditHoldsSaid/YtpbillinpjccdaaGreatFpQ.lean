/- Contracts: the reference of edits. -/
import Derived.Test.YtpbillinpjccdaaGreatFoQ
namespace Go.Proofs.YtpbillinpjccdaaGreat.Fp
open Go.RowKit Go.J Go.R Go.Proofs.YtpbillinpjccdaaGreat.Fa Go.Proofs.YtpbillinpjccdaaGreat.Fb Go.Proofs.YtpbillinpjccdaaGreat.Fc Go.Proofs.YtpbillinpjccdaaGreat.Fd Go.Proofs.YtpbillinpjccdaaGreat.Fe Go.Proofs.YtpbillinpjccdaaGreat.Fg Go.Proofs.YtpbillinpjccdaaGreat.Fh Go.Proofs.YtpbillinpjccdaaGreat.Fi Go.Proofs.YtpbillinpjccdaaGreat.Fj Go.Proofs.YtpbillinpjccdaaGreat.Fk Go.Proofs.YtpbillinpjccdaaGreat.Fl Go.Proofs.YtpbillinpjccdaaGreat.Fm Go.Proofs.YtpbillinpjccdaaGreat.Fn Go.Proofs.YtpbillinpjccdaaGreat.Fo
set_option linter.unusedVariables false
set_option linter.unusedSimpArgs false
end Go.Proofs.YtpbillinpjccdaaGreat.Fp
