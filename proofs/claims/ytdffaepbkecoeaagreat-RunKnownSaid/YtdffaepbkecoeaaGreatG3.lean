import Derived.Test.YtdffaepbkecoeaaGreatRows
import Derived.ProofKit
import Derived.OpenShut
import Derived.ShutString
import Derived.ChangeOld
import Derived.SizedLaws
namespace Go.Proofs.YtdffaepbkecoeaaGreat
open Go.ChangeShapes Go.WideShapes Go.ChangeAt Go.RowKit
set_option maxRecDepth 100000 in
theorem g_w1 : (behindMainWord (wordsSigns Tryz.pinned.checked.prog.initOrder.toList)).isEmpty = false := by kernel_rfl
set_option maxRecDepth 100000 in
theorem g_w2 : ((stripLifts liftWords (behindMainWord (wordsSigns Tryz.pinned.checked.prog.initOrder.toList))).2.head? == some "cut".toList) = true := by kernel_rfl
end Go.Proofs.YtdffaepbkecoeaaGreat
