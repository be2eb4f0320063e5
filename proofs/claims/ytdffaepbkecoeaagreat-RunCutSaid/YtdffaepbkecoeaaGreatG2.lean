import Derived.Test.YtdffaepbkecoeaaGreatRows
import Derived.ProofKit
import Derived.OpenShut
import Derived.ShutString
import Derived.ChangeOld
import Derived.SizedLaws
namespace Go.Proofs.YtdffaepbkecoeaaGreat
open Go.ChangeShapes Go.WideShapes Go.ChangeAt Go.RowKit
set_option maxRecDepth 100000 in
theorem g_maps : mapsRowed Tryz.pinned.checked.prog = true := by kernel_rfl
set_option maxRecDepth 100000 in
theorem g_heard : (Tryz.pinned.checked.prog.stopsHeard) = true := by kernel_rfl
set_option maxRecDepth 100000 in
theorem g_later : Tryz.pinned.checked.prog.laysLater = false := by kernel_rfl
set_option maxRecDepth 100000 in
theorem g_refl : Tryz.pinned.checked.prog.bearsReflect = false := by kernel_rfl
end Go.Proofs.YtdffaepbkecoeaaGreat
