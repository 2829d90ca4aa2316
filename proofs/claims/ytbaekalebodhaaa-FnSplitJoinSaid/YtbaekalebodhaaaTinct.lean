/- Contracts of the functions on tinctures. Conditions: as each theorem says. -/
import Derived.Test.YtbaekalebodhaaaRows
import Derived.Test.YtbaekalebodhaaaPlain
namespace Go.Proofs.Ytbaekalebodhaaa
set_option linter.unusedSimpArgs false
set_option linter.unusedVariables false
open Go.ChangeShapes Go.WideShapes Go.ChangeAt Go.RowKit

end Go.Proofs.Ytbaekalebodhaaa
