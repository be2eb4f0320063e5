import Derived.Test.YtofkamnmgpkehabOwn
import Derived.BigQuiet
/- A region that draws its order, only reads what was there, and whose callees may lay new blocks: walked once. Over any program. -/
namespace Go.Proofs.Ytofkamnmgpkehab
open Go.RowKit
/-- A world in which what was there in w stands as it was. -/
def BelW (w : World) : Type := { W : World // Below w.heap.size w W }
theorem BelW.to {w : World} (T : BelW w) {W : World} (h : Below T.val.heap.size T.val W) : ∃ S : BelW w, W = S.val := ⟨⟨W, Bel.tr T.2 h⟩, rfl⟩
theorem BelW.cell {w : World} {b j : Nat} {v : Value} (h : w.cell? ⟨b, j, none⟩ = some v) (T : BelW w) : T.val.cell? ⟨b, j, none⟩ = some v := (T.2.cell (p := ⟨b, j, none⟩) (World.block_lt_of_cell? _ _ h)).trans h
theorem wp_region_quietB {P : Program} {id : Nat} {Q : Exit → Act → World → Prop} {a : Act} {w : World} {l : List Oper} (hm : P.follows .mixedOrders = true) (hB : Region.lexB .any l.toArray = true)
    (h : wpQuiet P l.toArray (fun w' => ∃ T : BelW w, w' = T.val) (fun a' => ∀ w', (∃ T : BelW w, w' = T.val) → Q .normal a' w') l a) : (Code.region id l.toArray true).wp P Q a w :=
  wp_region_quiet (C := fun w' => ∃ T : BelW w, w' = T.val) hm hB ⟨⟨_, (Below.refl _ _).drew⟩, rfl⟩ (by simpa using h)
end Go.Proofs.Ytofkamnmgpkehab
