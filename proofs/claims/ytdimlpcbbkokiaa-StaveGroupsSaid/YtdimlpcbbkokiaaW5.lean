/- Walks: Skew and Unskew; the profile of an image; its full rows. -/
import Derived.Test.YtdimlpcbbkokiaaW4
namespace Go.Proofs.Ytdimlpcbbkokiaa
open Go.RowKit
set_option linter.unusedVariables false

end Go.Proofs.Ytdimlpcbbkokiaa
