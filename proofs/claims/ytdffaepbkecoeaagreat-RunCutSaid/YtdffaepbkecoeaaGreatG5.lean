import Derived.Test.YtdffaepbkecoeaaGreatG1
import Derived.Test.YtdffaepbkecoeaaGreatG2
import Derived.Test.YtdffaepbkecoeaaGreatG3
import Derived.Test.YtdffaepbkecoeaaGreatG4
namespace Go.Proofs.YtdffaepbkecoeaaGreat
open Go.ChangeShapes Go.WideShapes Go.ChangeAt Go.RowKit
theorem mayEnter_of {P : Program} (h1 : (behindMainWord (wordsSigns P.initOrder.toList)).isEmpty = false) (h2 : ((stripLifts liftWords (behindMainWord (wordsSigns P.initOrder.toList))).2.head? == some "cut".toList) = true) (h3 : P.laysLater = false) (h4 : P.bearsReflect = false)
    (h5 : ((stripLifts liftWords (behindMainWord (wordsSigns P.initOrder.toList))).1.contains "reflectrows" || !(stripLifts liftWords (behindMainWord (wordsSigns P.initOrder.toList))).1.contains "leanrows") = true)
    (h6 : P.doorFits (stripLifts liftWords (behindMainWord (wordsSigns P.initOrder.toList))).1 = true) : P.mayEnter = true := by
  unfold Program.mayEnter
  generalize behindMainWord (wordsSigns P.initOrder.toList) = L at *
  cases L with
  | nil => cases h1
  | cons c rest => simp only [h2, h3, h4, h5, h6, Bool.not_false, Bool.or_true, Bool.and_true]
theorem g_enter : Tryz.pinned.checked.prog.mayEnter = true := mayEnter_of g_w1 g_w2 g_later g_refl g_w3 g_w4
theorem and_of {a b : Bool} (h1 : a = true) (h2 : b = true) : (a && b) = true := by rw [h1, h2]; rfl
end Go.Proofs.YtdffaepbkecoeaaGreat
