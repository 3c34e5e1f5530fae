/- Two programs with the same values are alike. -/
import Derived.Test.YtinpmdekdfgiiaaE6
set_option linter.unusedVariables false
set_option linter.unusedSimpArgs false
namespace Go.Proofs.Ytinpmdekdfgiiaa
open Go.RowKit

end Go.Proofs.Ytinpmdekdfgiiaa
