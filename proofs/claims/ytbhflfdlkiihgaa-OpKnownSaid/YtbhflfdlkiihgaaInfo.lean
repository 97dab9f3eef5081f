/- What the program says of bytes. No condition. -/
import Derived.Test.YtbhflfdlkiihgaaBase
import Derived.Test.YtbhflfdlkiihgaaProg
namespace Go.Proofs.Ytbhflfdlkiihgaa
open Go.RowKit Go.Bx

theorem infoB : (Try.prog.info? 5).map (fun i => (i.zero, i.size, i.bytes)) = some (some (.int .u8 0), 1, 1) := by kernel_rfl
end Go.Proofs.Ytbhflfdlkiihgaa
