/- The element type of a list of bytes. -/
import Derived.Test.YtjhnnnklfhbebaaOwn
import Derived.Test.YtjhnnnklfhbebaaChecked
namespace Go.Proofs.Ytjhnnnklfhbebaa
open Go.RowKit
set_option linter.unusedVariables false

theorem infoB : (Try.prog.info? 5).map (fun i => (i.zero, i.size, i.bytes)) = some (some (.int .u8 0), 1, 1) := by kernel_rfl
end Go.Proofs.Ytjhnnnklfhbebaa
