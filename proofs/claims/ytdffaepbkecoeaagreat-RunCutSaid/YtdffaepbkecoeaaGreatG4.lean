import Derived.Test.YtdffaepbkecoeaaGreatRows
import Derived.ProofKit
import Derived.OpenShut
import Derived.ShutString
import Derived.ChangeOld
import Derived.SizedLaws
namespace Go.Proofs.YtdffaepbkecoeaaGreat
open Go.ChangeShapes Go.WideShapes Go.ChangeAt Go.RowKit
set_option maxRecDepth 100000 in
theorem g_w3 : ((stripLifts liftWords (behindMainWord (wordsSigns Tryz.pinned.checked.prog.initOrder.toList))).1.contains "reflectrows" || !(stripLifts liftWords (behindMainWord (wordsSigns Tryz.pinned.checked.prog.initOrder.toList))).1.contains "leanrows") = true := by kernel_rfl
set_option maxRecDepth 100000 in
theorem g_w4 : Tryz.pinned.checked.prog.doorFits (stripLifts liftWords (behindMainWord (wordsSigns Tryz.pinned.checked.prog.initOrder.toList))).1 = true := by kernel_rfl
end Go.Proofs.YtdffaepbkecoeaaGreat
