import Derived.Test.YtdffaepbkecoeaaGreatRows
import Derived.ProofKit
import Derived.OpenShut
import Derived.ShutString
import Derived.ChangeOld
import Derived.SizedLaws
namespace Go.Proofs.YtdffaepbkecoeaaGreat
open Go.ChangeShapes Go.WideShapes Go.ChangeAt Go.RowKit
set_option maxRecDepth 100000 in
theorem g_make : (Tryz.pinned.checked.prog.make == some Rows.runKnownRow.make) = true := by kernel_rfl
end Go.Proofs.YtdffaepbkecoeaaGreat
