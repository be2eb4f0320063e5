import Derived.Test.YtofkamnmgpkehabIsaInfo
import Derived.Test.YtofkamnmgpkehabIsaRefs
namespace Go.Proofs.Ytofkamnmgpkehab
open Go.RowKit
def isOp (k : Nat) : Bool := decide (1 ≤ k ∧ k ≤ 59)
theorem rowVal_none (k : Nat) (hk : ¬ (1 ≤ k ∧ k ≤ 59)) : rowVal k = zeroRow := by
  have : rowOf k = ([], 0, 0, 0, 0, 0) := by
    unfold rowOf
    by_cases h : k = 0
    · subst h; rfl
    · rw [List.getD_eq_getElem?_getD, List.getElem?_eq_none (by show 60 ≤ k; omega)]; rfl
  simp [rowVal, rowCells, wordOf, widthOf, mostOf, takesOf, givesOf, kindOf, this, zeroRow]
theorem info_any (k : Nat) (h2 : k < 256) (w : World) :
    Calls Try.prog 49 #[.int .u8 k] w fun e w' => e = .returned (.tuple #[rowVal k, .bool (isOp k)]) ∧ Below w.heap.size w w' := by
  by_cases hk : 1 ≤ k ∧ k ≤ 59
  · rw [show isOp k = true from by simp [isOp, hk]]; exact info_yes k hk.1 hk.2 w
  · rw [show isOp k = false from by simpa [isOp] using hk, rowVal_none k hk]; exact info_no k (by omega) h2 w
theorem refinfo_any (k : Nat) (h2 : k < 256) (w : World) :
    Calls Try.prog 53 #[.int .u8 k] w fun e w' => e = .returned (.tuple #[rowVal k, .bool (isOp k)]) ∧ Below w.heap.size w w' := by
  by_cases hk : 1 ≤ k ∧ k ≤ 59
  · rw [show isOp k = true from by simp [isOp, hk]]; exact refinfo_yes k hk.1 hk.2 w
  · rw [show isOp k = false from by simpa [isOp] using hk, rowVal_none k hk]; exact refinfo_no k (by omega) h2 w
end Go.Proofs.Ytofkamnmgpkehab
