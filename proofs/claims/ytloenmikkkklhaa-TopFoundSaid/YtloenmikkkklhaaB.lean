/-
  Closed facts of this seat's program.
-/
import Derived.Test.YtloenmikkkklhaaProg
import Derived.Test.YtloenmikkkklhaaK
import Derived.Shelf.Abstract
namespace Go.Proofs.Ytloenmikkkklhaa
open Go.RowKit
theorem info_int : (Try.prog.info? 3).map (fun i => (i.zero, i.size, i.bytes)) = some (some (.int .i64 0), 1, 8) := by kernel_rfl
end Go.Proofs.Ytloenmikkkklhaa
