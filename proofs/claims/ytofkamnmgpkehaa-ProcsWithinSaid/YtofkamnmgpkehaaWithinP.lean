import Derived.Test.YtofkamnmgpkehaaWithinW
import Derived.Test.YtofkamnmgpkehaaOpenC
namespace Go.Proofs.Ytofkamnmgpkehaa
open Go.RowKit
theorem procsWithin_walk (vc vj vn : Value) (code : List (Nat × Nat)) (js ats : List Nat) (a b : Int) (w : World) (hc : Instrs w vc code) (hj : RowU w w.heap.size vj js) (hn : NamesU w w.heap.size vn ats) (ha : (Lit.int .u32 a).wf = true) (hb : (Lit.int .u32 b).wf = true) :
    Calls Try.prog 4 #[.agg #[vc, vj, vn], .int .u32 a, .int .u32 b] w fun e w' => e = .returned (.bool true) ∧ Below w.heap.size w w' := by
  obtain ⟨x, rfl, hx⟩ := u32_of ha
  obtain ⟨y, rfl, hy⟩ := u32_of hb
  exact procsWithin_full vc vj vn code js ats x y hx hy w hc hj hn
end Go.Proofs.Ytofkamnmgpkehaa
