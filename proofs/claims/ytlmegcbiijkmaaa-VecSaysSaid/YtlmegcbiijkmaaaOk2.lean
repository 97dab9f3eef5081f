/- Edits: whether one may be, ends another one, stands ahead of it. No condition. -/
import Derived.Test.YtlmegcbiijkmaaaOk1
namespace Go.Proofs.Ytlmegcbiijkmaaa
open Go.RowKit Go.Bx Go.Sx
set_option linter.unusedSimpArgs false
set_option linter.unusedVariables false
end Go.Proofs.Ytlmegcbiijkmaaa
