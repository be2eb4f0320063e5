import Derived.Test.YtofkamnmgpkehaaMark
import Derived.Test.YtofkamnmgpkehaaSame
import Derived.Test.YtofkamnmgpkehaaLittle
import Derived.Deep.RegionHeld3
/- Lists that are handed in with marks behind them. -/
namespace Go.Proofs.Ytofkamnmgpkehaa
open Go.RowKit
noncomputable def marksB (k : Int) (n m : Nat) : List Nat := (List.range m).map fun (i : Nat) => mkB k (n + i : Nat)
theorem marksB_length (k : Int) (n m : Nat) : (marksB k n m).length = m := by simp [marksB]
theorem marksB_succ (k : Int) (n m : Nat) : marksB k n (m + 1) = marksB k n m ++ [mkB k (n + m : Nat)] := by simp [marksB, List.range_succ]
noncomputable def marksC (k : Int) (n m : Nat) : List (Nat × Nat) := (List.range m).map fun (i : Nat) => mkC k (n + i : Nat)
theorem marksC_length (k : Int) (n m : Nat) : (marksC k n m).length = m := by simp [marksC]
theorem marksC_succ (k : Int) (n m : Nat) : marksC k n (m + 1) = marksC k n m ++ [mkC k (n + m : Nat)] := by simp [marksC, List.range_succ]
theorem take_snocD {α : Type} (l : List α) (k : Nat) (d : α) (hk : k < l.length) : l.take (k + 1) = l.take k ++ [l.getD k d] := by
  rw [List.take_add_one, List.getElem?_eq_getElem hk]
  simp [List.getElem?_eq_getElem hk]
theorem run_buildSlice41 (x : Int) (w : World) : (Instr.buildSlice 53 1 #[(0, .int .u8 x)]).run Try.prog w = .ok (.slice (some ⟨w.heap.size, 0, none⟩) 1 1) (w.alloc (.cells #[.int .u8 x] 5)) := by kernel_rfl
theorem own_start {w : World} {base e sz n : Nat} {v : Value} {xs : List Value} (h : w.ownsRow base e sz v n xs) (hn : 0 < n) : ∃ g cap, v = .slice (some ⟨g, 0, none⟩) n cap ∧ base ≤ g ∧ g < w.heap.size := by
  obtain ⟨hl, h⟩ := h
  rcases h with ⟨rfl, rfl⟩ | ⟨g, cap, cur, rfl, hb, hg, hn, hm, hcs, ht⟩
  · omega
  · exact ⟨g, cap, rfl, hb, (Array.getElem?_eq_some_iff.1 hg).1⟩
theorem own_from {w : World} {e sz n B : Nat} {v : Value} {xs : List Value} (h : w.ownsRow 0 e sz v n xs) (hB : ∀ g, v.ownBlock = some g → B ≤ g) : w.ownsRow B e sz v n xs := by
  obtain ⟨hl, h⟩ := h
  rcases h with h | ⟨g, cap, cur, hv, hb, rest⟩
  · exact ⟨hl, .inl h⟩
  · exact ⟨hl, .inr ⟨g, cap, cur, hv, hB g (by rw [hv]; rfl), rest⟩⟩
def LentPostB (l : List Nat) (w : World) (e : Ending) (w' : World) : Prop :=
  ∃ g cap, e = .returned (.slice (some ⟨g, 0, none⟩) (l.length + 64) cap) ∧ w'.ownsRow 0 5 1 (.slice (some ⟨g, 0, none⟩) (l.length + 64) cap) (l.length + 64) (encN .u8 (l ++ marksB 0 0 64)) ∧ Below w.heap.size w w' ∧ w.heap.size ≤ g
theorem info36' : (Try.prog.info? 40).map (fun i => (i.zero, i.size, i.bytes)) = some (some (.agg #[.int .u8 0, .int .u32 0]), 2, 8) := by kernel_rfl
theorem run_buildSlice43' (x y : Int) (w : World) : (Instr.buildSlice 22 1 #[(0, .agg #[.int .u8 x, .int .u32 y])]).run Try.prog w = .ok (.slice (some ⟨w.heap.size, 0, none⟩) 1 1) (w.alloc (.cells #[.int .u8 x, .int .u32 y] 40)) := by kernel_rfl
def LentPostC (l : List (Nat × Nat)) (w : World) (e : Ending) (w' : World) : Prop :=
  ∃ g cap, e = .returned (.slice (some ⟨g, 0, none⟩) (l.length + 64) cap) ∧ w'.ownsRow 0 40 2 (.slice (some ⟨g, 0, none⟩) (l.length + 64) cap) (l.length + 64) (encI (l ++ marksC 0 0 64)) ∧ Below w.heap.size w w' ∧ w.heap.size ≤ g
end Go.Proofs.Ytofkamnmgpkehaa
