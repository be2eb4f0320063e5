import Derived.Test.YtofkamnmgpkehabWithin
import Derived.Test.YtofkamnmgpkehabSmall
import Derived.Test.YtofkamnmgpkehabSearch
/- The walk of ProcsWithin. -/
namespace Go.Proofs.Ytofkamnmgpkehab
open Go.RowKit
theorem NamesU.calm {w W : World} {B : Nat} {v : Value} {l : List Nat} (h : NamesU w w.heap.size v l) (hb : Below w.heap.size w W) (hB : w.heap.size ≤ B) : NamesU W B v l := by
  obtain ⟨a, cap, h1, h2, h3, h4, h5⟩ := h
  refine ⟨a, cap, h1, h2, h3, h4, fun h0 => ?_⟩
  obtain ⟨b, off, e, hlt, hc⟩ := h5 h0
  refine ⟨b, off, e, Nat.lt_of_lt_of_le hlt hB, fun k hk => ?_⟩
  obtain ⟨s, e1, e2⟩ := hc k hk
  exact ⟨s, (hb.cell (p := ⟨b, off + k * 2, none⟩) hlt).trans e1, (hb.cell (p := ⟨b, off + k * 2 + 1, none⟩) hlt).trans e2⟩
theorem cells_new3 (w : World) (a b c : Value) (t : TypeId) : (w.alloc (.cells #[a, b, c] t)).cell? ⟨w.heap.size, 0, none⟩ = some a ∧ (w.alloc (.cells #[a, b, c] t)).cell? ⟨w.heap.size, 1, none⟩ = some b ∧ (w.alloc (.cells #[a, b, c] t)).cell? ⟨w.heap.size, 2, none⟩ = some c := ⟨by simp [go_sem], by simp [go_sem], by simp [go_sem]⟩
/-- What the walk of a law keeps of its first argument: the struct in a block of its own, the lists as they came. -/
structure CodeAt (w : World) (W : World) (vc vj vn : Value) (code : List (Nat × Nat)) (js ats : List Nat) : Prop where
  b : Below w.heap.size w W
  lt : w.heap.size < W.heap.size
  c0 : W.cell? ⟨w.heap.size, 0, none⟩ = some vc
  c1 : W.cell? ⟨w.heap.size, 1, none⟩ = some vj
  c2 : W.cell? ⟨w.heap.size, 2, none⟩ = some vn
  hc : Instrs W vc code
  hj : RowU W W.heap.size vj js
  hn : NamesU W W.heap.size vn ats
theorem CodeAt.calm {w W W' : World} {vc vj vn : Value} {code : List (Nat × Nat)} {js ats : List Nat} (h : CodeAt w W vc vj vn code js ats) (hb : Below W.heap.size W W') : CodeAt w W' vc vj vn code js ats :=
  ⟨Bel.tr h.b hb, Nat.lt_of_lt_of_le h.lt hb.size, (hb.cell (p := ⟨w.heap.size, 0, none⟩) h.lt).trans h.c0, (hb.cell (p := ⟨w.heap.size, 1, none⟩) h.lt).trans h.c1, (hb.cell (p := ⟨w.heap.size, 2, none⟩) h.lt).trans h.c2, h.hc.below hb, h.hj.calm hb hb.size, h.hn.calm hb hb.size⟩
theorem CodeAt.new {w : World} {vc vj vn : Value} {code : List (Nat × Nat)} {js ats : List Nat} (hc : Instrs w vc code) (hj : RowU w w.heap.size vj js) (hn : NamesU w w.heap.size vn ats) (t : TypeId) : CodeAt w (w.alloc (.cells #[vc, vj, vn] t)) vc vj vn code js ats :=
  have hb := Bel.new w (.cells #[vc, vj, vn] t)
  ⟨hb, by simp, (cells_new3 _ _ _ _ _).1, (cells_new3 _ _ _ _ _).2.1, (cells_new3 _ _ _ _ _).2.2, hc.below hb, hj.calm hb hb.size, hn.calm hb hb.size⟩
end Go.Proofs.Ytofkamnmgpkehab
