import Derived.Test.YtofkamnmgpkehabIsaRows
import Derived.Test.YtofkamnmgpkehabBase
namespace Go.Proofs.Ytofkamnmgpkehab
open Go.RowKit
theorem flat_at (f : Nat → List Value) (m : Nat) (hf : ∀ k, (f k).length = m) : ∀ (n s i j : Nat), i < n → j < m → ((List.range' s n).flatMap f)[m * i + j]? = (f (s + i))[j]?
  | 0, s, i, j, hi, _ => by omega
  | n + 1, s, i, j, hi, hj => by
    rw [List.range'_succ, List.flatMap_cons, List.getElem?_append]
    cases i with
    | zero => simp [hf, hj]
    | succ i =>
      have h1 : ¬ (m * (i + 1) + j < (f s).length) := by rw [hf, Nat.mul_succ]; omega
      rw [if_neg h1, hf, show m * (i + 1) + j - m = m * i + j from by rw [Nat.mul_succ]; omega, flat_at f m hf n (s + 1) i j (by omega) hj, show s + 1 + i = s + (i + 1) from by omega]
theorem tab_at (k : Nat) (hk : k < 60) (j : Nat) (hj : j < 6) : tabCells[6 * k + j]? = (rowCells k)[j]? := by
  have := flat_at rowCells 6 (fun _ => rfl) 60 0 k j hk hj
  rw [Nat.zero_add] at this
  rw [← this]
  unfold tabCells
  rw [List.getElem?_toArray, List.range_eq_range']


set_option maxRecDepth 100000 in
set_option maxHeartbeats 400000 in
theorem info_no (k : Nat) (hk : k < 1 ∨ 59 < k) (h2 : k < 256) (w : World) :
    Calls Try.prog 49 #[.int .u8 k] w fun e w' => e = .returned (.tuple #[zeroRow, .bool false]) ∧ Below w.heap.size w w' := by
  have hz := zero26
  unfold zeroRow at *
  rcases hk with hk | hk
  · go_enter Try.func49, Try.ntmps49
    go_wp2
    exact bodyPost_ret (v := .tuple #[zeroRow, .bool false]) (by simp [results, Try.results49, go_sem, zeroRow]) rfl ⟨rfl, (Below.refl _ _).alloc (Nat.le_refl _) _⟩
  · have hk' : ¬ (k < 1) := by omega
    go_enter Try.func49, Try.ntmps49
    go_wp2
    exact bodyPost_ret (v := .tuple #[zeroRow, .bool false]) (by simp [results, Try.results49, go_sem, zeroRow]) rfl ⟨rfl, (Below.refl _ _).alloc (Nat.le_refl _) _⟩

theorem info26 : (Try.prog.info? 99).map (·.size) = some 6 := by kernel_rfl
set_option maxRecDepth 100000 in
set_option maxHeartbeats 400000 in
theorem info_yes (k : Nat) (hk : 1 ≤ k) (h2 : k ≤ 59) (w : World) :
    Calls Try.prog 49 #[.int .u8 k] w fun e w' => e = .returned (.tuple #[rowVal k, .bool true]) ∧ Below w.heap.size w w' := by
  have hz := zero26
  have hz75 := zero75
  have hi := info75
  have ho := tab_one
  have hs := tab_size
  have hr := rows_any
  have ht := fun j => tab_at k (by omega) j
  generalize zeroTab = Z at hz75 hs
  generalize tabCells = T at hi ho hs hr ht
  have hrange : ∀ W : World, (W.alloc (.cells T 104)).rangeAt W.heap.size (k * 6) (rowCells k) := by
    intro W j v hv
    have hj : j < 6 := (List.getElem?_eq_some_iff.1 hv).1
    rw [cell_of_row _ _ _ _ _ _ (heap_alloc_new W _), Nat.mul_comm, ht j hj, hv]
  have hone : (rowCells k).toArray.all (·.oneCell') = true := by simp [rowCells, Value.oneCell']
  have hlen : (rowCells k).length = 6 := rfl
  have hval : rowVal k = .agg (rowCells k).toArray := rfl
  generalize rowVal k = V at hval
  generalize rowCells k = rc at hval hrange hone hlen
  have Hi := Lib.hid hi
  have Ho := Lib.hid ho
  have Hs := Lib.hid hs
  have Hr := Lib.hid hrange
  have Hv := Lib.hid hval
  have Hl := Lib.hid hlen
  have Hn := Lib.hid hone
  clear hi ho hs ht hrange hval hlen hone
  unfold zeroRow at *
  go_enter Try.func49, Try.ntmps49
  go_wp2_with fail
  refine (hr _).mono ?_
  rintro e w1 ⟨rfl, hb⟩
  clear hr
  have hsz := Lib.hid (show (Try.prog.info? 99).map (·.size) = some rc.toArray.size from by rw [List.size_toArray, Hl.out]; exact info26)
  have hold := Lib.hid (show (6 : Nat) = rc.toArray.size from by rw [List.size_toArray, Hl.out])
  have hblk := Lib.hid ((Below.heap_alloc w1 (.cells T 104) w.heap.size (by have := hb.size; simp at this; omega)).trans ((hb.block w.heap.size (by simp)).trans (heap_alloc_new w _)))
  have hbelow := Lib.hid (below_setRow ((((Below.refl _ w).alloc (Nat.le_refl _) _).trans (hb.mono (by simp))).alloc (by have := hb.size; simp at this; omega) (.cells T 104)) w.heap.size (Nat.le_refl _) rc.toArray)
  have hlast := Lib.hid (setRow_heap _ _ _ rc.toArray _ _ hblk.out)
  clear hb
  go_wp2_with (first | ((with_reducible refine wpList_store_new (o := ⟨none, .store 104 (.tmp 4) (.tmp 12), _, _, _, none⟩) rfl 104 _ _ rfl T ?_ ?_ 104 Z Hi.out Hs.out Ho.out ?_); rfl; rfl) | ((with_reducible refine wpList_load_mid (op := ⟨some 15, .load 99 (.tmp 14), _, _, _, none⟩) rfl 99 _ rfl w1.heap.size (k * 6) ?_ rc _ (Hr.out _) Try.underlying99 ?_ ?_ ?_); rfl; rfl; (rw [Hl.out]; exact info26)) | ((with_reducible refine wpList_store_row (o := ⟨none, .store 99 (.tmp 2) (.tmp 15), _, _, _, none⟩) rfl 99 _ _ rfl w.heap.size rc.toArray ?_ ?_ 99 _ hblk.out hsz.out ?_ Hn.out ?_); rfl; rfl; exact hold.out))
  refine bodyPost_ret (v := .tuple #[V, .bool true]) ?_ rfl ?_
  · rw [Hv.out]; exact results_cell_tmp Try.results49 _ _ w.heap.size 99 rc.toArray (0, 0) _ rfl hlast.out Try.underlying99 rfl hsz.out _ rfl
  · exact ⟨rfl, hbelow.out⟩
end Go.Proofs.Ytofkamnmgpkehab
