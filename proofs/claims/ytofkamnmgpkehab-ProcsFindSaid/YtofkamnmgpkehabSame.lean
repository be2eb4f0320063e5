import Derived.Test.YtofkamnmgpkehabOwn
namespace Go.Proofs.Ytofkamnmgpkehab
open Go.RowKit
theorem beq_self_int (x : Int) : (x == x) = true := by simp
theorem below_drewN {B : Nat} {w w' : World} (h : Below B w w') (n : Nat) : Below B w (w'.drewN n) := ⟨h.os, h.tape, h.output, h.size, h.block⟩
/-- A slice of ints that are not below 0. -/
def Ints (w : World) (v : Value) (l : List Nat) : Prop := Reads w 1 v l.length (encN .i64 l)
theorem Ints.opened {w : World} {v : Value} {l : List Nat} (h : Ints w v l) : ∃ (a : Option Addr) (cap : Nat), v = .slice a l.length cap ∧ l.length ≤ cap ∧ cap ≤ maxLen ∧ (a = none → cap = 0) ∧
    (0 < l.length → ∃ b off, a = some ⟨b, off, none⟩ ∧ b < w.heap.size ∧ ∀ k, k < l.length → w.cell? ⟨b, off + k, none⟩ = some (.int .i64 (l.getD k 0 : Nat))) := by
  obtain ⟨a, cap, hv, hl, hn, hm, ha, hp⟩ := h
  refine ⟨a, cap, hv, hn, hm, ha, fun h0 => ?_⟩
  obtain ⟨b, off, e, hlt, hc⟩ := hp h0
  exact ⟨b, off, e, hlt, fun k hk => by rw [hc k (by rw [encN_length]; omega), encN_at _ l k hk]⟩
end Go.Proofs.Ytofkamnmgpkehab
