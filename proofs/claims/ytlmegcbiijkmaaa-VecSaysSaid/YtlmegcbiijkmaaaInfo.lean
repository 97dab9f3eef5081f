/- What the program says of bytes. No condition. -/
import Derived.Test.YtlmegcbiijkmaaaBase
import Derived.Test.YtlmegcbiijkmaaaProg
namespace Go.Proofs.Ytlmegcbiijkmaaa
open Go.RowKit Go.Bx

theorem infoB : (Try.prog.info? 5).map (fun i => (i.zero, i.size, i.bytes)) = some (some (.int .u8 0), 1, 1) := by kernel_rfl
end Go.Proofs.Ytlmegcbiijkmaaa
