import Derived.Test.YtofkamnmgpkehabIsaInfo
namespace Go.Proofs.Ytofkamnmgpkehab
open Go.RowKit
def wordCells : Array Value := ((List.range 60).map fun k => Value.string ⟨(wordOf k).toArray⟩).toArray
def zeroWords : Array Value := ((List.range 60).map fun _ => Value.string ⟨#[]⟩).toArray
theorem zero85 (w : World) : (zeroValue 107).run Try.prog w = .ok (.agg zeroWords) w := by kernel_rfl
theorem info85 : (Try.prog.info? 107).map (·.size) = some wordCells.size := by kernel_rfl
theorem words_size : zeroWords.size = wordCells.size := by kernel_rfl
theorem words_one : wordCells.all (·.oneCell') = true := by kernel_rfl
theorem words_at (k : Nat) (hk : k < 60) : wordCells[k]? = some (.string ⟨(wordOf k).toArray⟩) := by
  unfold wordCells
  rw [List.getElem?_toArray, List.getElem?_map, List.getElem?_range hk]; rfl

set_option maxRecDepth 100000 in
set_option maxHeartbeats 400000 in
theorem word_yes (k : Nat) (hk : 1 ≤ k) (h2 : k ≤ 59) (w : World) :
    Calls Try.prog 58 #[.int .i64 k] w fun e w' => e = .returned (.string ⟨(wordOf k).toArray⟩) ∧ Below w.heap.size w w' := by
  have hz := zero85
  have hi := info85
  have ho := words_one
  have hs := words_size
  have hc : ∀ W : World, (W.alloc (.cells wordCells 107)).cell? ⟨W.heap.size, k, none⟩ = some (.string ⟨(wordOf k).toArray⟩) := by
    intro W; rw [cell_of_row _ _ _ _ _ _ (heap_alloc_new W _), words_at k (by omega)]
  generalize zeroWords = Z at hz hs
  have Hi := Lib.hid hi
  have Ho := Lib.hid ho
  have Hs := Lib.hid hs
  clear hi ho hs
  generalize hV : wordOf k = V at hc
  clear hV
  have hc := hc w
  go_enter Try.func58, Try.ntmps58
  go_wp2_with (first | ((with_reducible refine wpList_runV (o := ⟨some 4, .build 107 _, _, _, _, none⟩) rfl (.agg wordCells) ?_ ?_); kernel_rfl) | ((with_reducible refine wpList_store_new (o := ⟨none, .store 107 (.tmp 3) (.tmp 4), _, _, _, none⟩) rfl 107 _ _ rfl wordCells ?_ ?_ 107 Z Hi.out Hs.out Ho.out ?_); rfl; rfl))
  go_ret
  exact ⟨rfl, (Below.refl _ _).alloc (Nat.le_refl _) _⟩
end Go.Proofs.Ytofkamnmgpkehab
