import Derived.Test.YtofkamnmgpkehaaDoorSame
import Derived.Deep.RegionHeld3
namespace Go.Proofs.YtofkamnmgpkehaaDoor
open Go.RowKit
theorem own_start {w : World} {base e sz n : Nat} {v : Value} {xs : List Value} (h : w.ownsRow base e sz v n xs) (hn : 0 < n) : ∃ g cap, v = .slice (some ⟨g, 0, none⟩) n cap ∧ base ≤ g ∧ g < w.heap.size := by
  obtain ⟨hl, h⟩ := h
  rcases h with ⟨rfl, rfl⟩ | ⟨g, cap, cur, rfl, hb, hg, hn, hm, hcs, ht⟩
  · omega
  · exact ⟨g, cap, rfl, hb, (Array.getElem?_eq_some_iff.1 hg).1⟩
theorem own_from {w : World} {e sz n B : Nat} {v : Value} {xs : List Value} (h : w.ownsRow 0 e sz v n xs) (hB : ∀ g, v.ownBlock = some g → B ≤ g) : w.ownsRow B e sz v n xs := by
  obtain ⟨hl, h⟩ := h
  rcases h with h | ⟨g, cap, cur, hv, hb, rest⟩
  · exact ⟨hl, .inl h⟩
  · exact ⟨hl, .inr ⟨g, cap, cur, hv, hB g (by rw [hv]; rfl), rest⟩⟩
end Go.Proofs.YtofkamnmgpkehaaDoor
