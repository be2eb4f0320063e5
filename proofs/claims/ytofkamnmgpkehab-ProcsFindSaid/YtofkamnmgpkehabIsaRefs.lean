import Derived.Test.YtofkamnmgpkehabIsaWordRef
namespace Go.Proofs.Ytofkamnmgpkehab
open Go.RowKit
theorem refinfo_blk {w w1 : World} (hb : Below (w.alloc (.cells #[.string ⟨#[]⟩, .int .i64 0, .int .u32 0, .int .i64 0, .int .i64 0, .int .u8 0] 99)).heap.size (w.alloc (.cells #[.string ⟨#[]⟩, .int .i64 0, .int .u32 0, .int .i64 0, .int .i64 0, .int .u8 0] 99)) w1) (cs : Array Value) :
    (w1.alloc (.cells cs 99)).heap[w.heap.size]? = some (.cells #[.string ⟨#[]⟩, .int .i64 0, .int .u32 0, .int .i64 0, .int .i64 0, .int .u8 0] 99 (0, 0)) :=
  (Below.heap_alloc w1 (.cells cs 99) w.heap.size (by have := hb.size; simp at this; omega)).trans ((hb.block w.heap.size (by simp)).trans (heap_alloc_new w _))
theorem refinfo_below {w w1 : World} (hb : Below (w.alloc (.cells #[.string ⟨#[]⟩, .int .i64 0, .int .u32 0, .int .i64 0, .int .i64 0, .int .u8 0] 99)).heap.size (w.alloc (.cells #[.string ⟨#[]⟩, .int .i64 0, .int .u32 0, .int .i64 0, .int .i64 0, .int .u8 0] 99)) w1) (cs rs : Array Value) :
    Below w.heap.size w ((w1.alloc (.cells cs 99)).setRow w.heap.size rs) :=
  below_setRow ((((Below.refl _ w).alloc (Nat.le_refl _) _).trans (hb.mono (by simp))).alloc (by have := hb.size; simp at this; omega) (.cells cs 99)) w.heap.size (Nat.le_refl _) rs
set_option maxRecDepth 100000 in
set_option maxHeartbeats 400000 in
theorem refinfo_no (k : Nat) (hk : k < 1 ∨ 59 < k) (h2 : k < 256) (w : World) :
    Calls Try.prog 53 #[.int .u8 k] w fun e w' => e = .returned (.tuple #[zeroRow, .bool false]) ∧ Below w.heap.size w w' := by
  have hz := zero26
  unfold zeroRow at *
  rcases hk with hk | hk
  · go_enter Try.func53, Try.ntmps53
    go_wp2
    exact bodyPost_ret (v := .tuple #[zeroRow, .bool false]) (by simp [results, Try.results53, go_sem, zeroRow]) rfl ⟨rfl, (Below.refl _ _).alloc (Nat.le_refl _) _⟩
  · have hk' : ¬ (k < 1) := by omega
    go_enter Try.func53, Try.ntmps53
    go_wp2
    exact bodyPost_ret (v := .tuple #[zeroRow, .bool false]) (by simp [results, Try.results53, go_sem, zeroRow]) rfl ⟨rfl, (Below.refl _ _).alloc (Nat.le_refl _) _⟩
end Go.Proofs.Ytofkamnmgpkehab
namespace Go.Proofs.Ytofkamnmgpkehab
open Go.RowKit

theorem word_at1 (w : World) : Calls Try.prog 58 #[.int .i64 1] w fun e w' => e = .returned (.string ⟨#[110, 111, 112]⟩) ∧ Below w.heap.size w w' := word_yes 1 (by decide) (by decide) w
set_option maxRecDepth 100000 in
set_option maxHeartbeats 1000000 in
theorem refinfo_1 (w : World) :
    Calls Try.prog 53 #[.int .u8 1] w fun e w' => e = .returned (.tuple #[rowVal 1, .bool true]) ∧ Below w.heap.size w w' := by
  have hz := zero26
  unfold zeroRow at *
  go_enter Try.func53, Try.ntmps53
  go_wp2_with fail
  refine (word_at1 _).mono ?_
  rintro e w1 ⟨rfl, hb⟩
  have hblk := Lib.hid (refinfo_blk hb)
  have hbelow := Lib.hid (refinfo_below hb)
  clear hb
  go_wp2_with (((with_reducible refine wpList_store_row (o := ⟨none, .store 99 (.tmp 2) (.tmp 114), _, _, _, none⟩) rfl 99 _ _ rfl w.heap.size (rowCells 1).toArray ?_ ?_ 99 _ (hblk.out _) ?_ ?_ ?_ ?_); rfl; kernel_rfl; exact info26; rfl; kernel_rfl))
  refine bodyPost_ret (v := .tuple #[rowVal 1, .bool true]) ?_ rfl ?_
  · exact results_cell_tmp Try.results53 _ _ w.heap.size 99 (rowCells 1).toArray (0, 0) _ rfl (setRow_heap _ _ _ _ _ _ (hblk.out _)) Try.underlying99 rfl info26 _ rfl
  · exact ⟨rfl, hbelow.out _ _⟩

theorem word_at2 (w : World) : Calls Try.prog 58 #[.int .i64 2] w fun e w' => e = .returned (.string ⟨#[98, 114, 101, 97, 107]⟩) ∧ Below w.heap.size w w' := word_yes 2 (by decide) (by decide) w
set_option maxRecDepth 100000 in
set_option maxHeartbeats 1000000 in
theorem refinfo_2 (w : World) :
    Calls Try.prog 53 #[.int .u8 2] w fun e w' => e = .returned (.tuple #[rowVal 2, .bool true]) ∧ Below w.heap.size w w' := by
  have hz := zero26
  unfold zeroRow at *
  go_enter Try.func53, Try.ntmps53
  go_wp2_with fail
  refine (word_at2 _).mono ?_
  rintro e w1 ⟨rfl, hb⟩
  have hblk := Lib.hid (refinfo_blk hb)
  have hbelow := Lib.hid (refinfo_below hb)
  clear hb
  go_wp2_with (((with_reducible refine wpList_store_row (o := ⟨none, .store 99 (.tmp 2) (.tmp 114), _, _, _, none⟩) rfl 99 _ _ rfl w.heap.size (rowCells 2).toArray ?_ ?_ 99 _ (hblk.out _) ?_ ?_ ?_ ?_); rfl; kernel_rfl; exact info26; rfl; kernel_rfl))
  refine bodyPost_ret (v := .tuple #[rowVal 2, .bool true]) ?_ rfl ?_
  · exact results_cell_tmp Try.results53 _ _ w.heap.size 99 (rowCells 2).toArray (0, 0) _ rfl (setRow_heap _ _ _ _ _ _ (hblk.out _)) Try.underlying99 rfl info26 _ rfl
  · exact ⟨rfl, hbelow.out _ _⟩

theorem word_at3 (w : World) : Calls Try.prog 58 #[.int .i64 3] w fun e w' => e = .returned (.string ⟨#[101, 110, 116, 101, 114]⟩) ∧ Below w.heap.size w w' := word_yes 3 (by decide) (by decide) w
set_option maxRecDepth 100000 in
set_option maxHeartbeats 1000000 in
theorem refinfo_3 (w : World) :
    Calls Try.prog 53 #[.int .u8 3] w fun e w' => e = .returned (.tuple #[rowVal 3, .bool true]) ∧ Below w.heap.size w w' := by
  have hz := zero26
  unfold zeroRow at *
  go_enter Try.func53, Try.ntmps53
  go_wp2_with fail
  refine (word_at3 _).mono ?_
  rintro e w1 ⟨rfl, hb⟩
  have hblk := Lib.hid (refinfo_blk hb)
  have hbelow := Lib.hid (refinfo_below hb)
  clear hb
  go_wp2_with (((with_reducible refine wpList_store_row (o := ⟨none, .store 99 (.tmp 2) (.tmp 114), _, _, _, none⟩) rfl 99 _ _ rfl w.heap.size (rowCells 3).toArray ?_ ?_ 99 _ (hblk.out _) ?_ ?_ ?_ ?_); rfl; kernel_rfl; exact info26; rfl; kernel_rfl))
  refine bodyPost_ret (v := .tuple #[rowVal 3, .bool true]) ?_ rfl ?_
  · exact results_cell_tmp Try.results53 _ _ w.heap.size 99 (rowCells 3).toArray (0, 0) _ rfl (setRow_heap _ _ _ _ _ _ (hblk.out _)) Try.underlying99 rfl info26 _ rfl
  · exact ⟨rfl, hbelow.out _ _⟩

theorem word_at4 (w : World) : Calls Try.prog 58 #[.int .i64 4] w fun e w' => e = .returned (.string ⟨#[108, 101, 97, 118, 101]⟩) ∧ Below w.heap.size w w' := word_yes 4 (by decide) (by decide) w
set_option maxRecDepth 100000 in
set_option maxHeartbeats 1000000 in
theorem refinfo_4 (w : World) :
    Calls Try.prog 53 #[.int .u8 4] w fun e w' => e = .returned (.tuple #[rowVal 4, .bool true]) ∧ Below w.heap.size w w' := by
  have hz := zero26
  unfold zeroRow at *
  go_enter Try.func53, Try.ntmps53
  go_wp2_with fail
  refine (word_at4 _).mono ?_
  rintro e w1 ⟨rfl, hb⟩
  have hblk := Lib.hid (refinfo_blk hb)
  have hbelow := Lib.hid (refinfo_below hb)
  clear hb
  go_wp2_with (((with_reducible refine wpList_store_row (o := ⟨none, .store 99 (.tmp 2) (.tmp 114), _, _, _, none⟩) rfl 99 _ _ rfl w.heap.size (rowCells 4).toArray ?_ ?_ 99 _ (hblk.out _) ?_ ?_ ?_ ?_); rfl; kernel_rfl; exact info26; rfl; kernel_rfl))
  refine bodyPost_ret (v := .tuple #[rowVal 4, .bool true]) ?_ rfl ?_
  · exact results_cell_tmp Try.results53 _ _ w.heap.size 99 (rowCells 4).toArray (0, 0) _ rfl (setRow_heap _ _ _ _ _ _ (hblk.out _)) Try.underlying99 rfl info26 _ rfl
  · exact ⟨rfl, hbelow.out _ _⟩

theorem word_at5 (w : World) : Calls Try.prog 58 #[.int .i64 5] w fun e w' => e = .returned (.string ⟨#[99, 97, 108, 108]⟩) ∧ Below w.heap.size w w' := word_yes 5 (by decide) (by decide) w
set_option maxRecDepth 100000 in
set_option maxHeartbeats 1000000 in
theorem refinfo_5 (w : World) :
    Calls Try.prog 53 #[.int .u8 5] w fun e w' => e = .returned (.tuple #[rowVal 5, .bool true]) ∧ Below w.heap.size w w' := by
  have hz := zero26
  unfold zeroRow at *
  go_enter Try.func53, Try.ntmps53
  go_wp2_with fail
  refine (word_at5 _).mono ?_
  rintro e w1 ⟨rfl, hb⟩
  have hblk := Lib.hid (refinfo_blk hb)
  have hbelow := Lib.hid (refinfo_below hb)
  clear hb
  go_wp2_with (((with_reducible refine wpList_store_row (o := ⟨none, .store 99 (.tmp 2) (.tmp 114), _, _, _, none⟩) rfl 99 _ _ rfl w.heap.size (rowCells 5).toArray ?_ ?_ 99 _ (hblk.out _) ?_ ?_ ?_ ?_); rfl; kernel_rfl; exact info26; rfl; kernel_rfl))
  refine bodyPost_ret (v := .tuple #[rowVal 5, .bool true]) ?_ rfl ?_
  · exact results_cell_tmp Try.results53 _ _ w.heap.size 99 (rowCells 5).toArray (0, 0) _ rfl (setRow_heap _ _ _ _ _ _ (hblk.out _)) Try.underlying99 rfl info26 _ rfl
  · exact ⟨rfl, hbelow.out _ _⟩

theorem word_at6 (w : World) : Calls Try.prog 58 #[.int .i64 6] w fun e w' => e = .returned (.string ⟨#[103, 111, 116, 111]⟩) ∧ Below w.heap.size w w' := word_yes 6 (by decide) (by decide) w
set_option maxRecDepth 100000 in
set_option maxHeartbeats 1000000 in
theorem refinfo_6 (w : World) :
    Calls Try.prog 53 #[.int .u8 6] w fun e w' => e = .returned (.tuple #[rowVal 6, .bool true]) ∧ Below w.heap.size w w' := by
  have hz := zero26
  unfold zeroRow at *
  go_enter Try.func53, Try.ntmps53
  go_wp2_with fail
  refine (word_at6 _).mono ?_
  rintro e w1 ⟨rfl, hb⟩
  have hblk := Lib.hid (refinfo_blk hb)
  have hbelow := Lib.hid (refinfo_below hb)
  clear hb
  go_wp2_with (((with_reducible refine wpList_store_row (o := ⟨none, .store 99 (.tmp 2) (.tmp 114), _, _, _, none⟩) rfl 99 _ _ rfl w.heap.size (rowCells 6).toArray ?_ ?_ 99 _ (hblk.out _) ?_ ?_ ?_ ?_); rfl; kernel_rfl; exact info26; rfl; kernel_rfl))
  refine bodyPost_ret (v := .tuple #[rowVal 6, .bool true]) ?_ rfl ?_
  · exact results_cell_tmp Try.results53 _ _ w.heap.size 99 (rowCells 6).toArray (0, 0) _ rfl (setRow_heap _ _ _ _ _ _ (hblk.out _)) Try.underlying99 rfl info26 _ rfl
  · exact ⟨rfl, hbelow.out _ _⟩

theorem word_at7 (w : World) : Calls Try.prog 58 #[.int .i64 7] w fun e w' => e = .returned (.string ⟨#[106, 117, 109, 112]⟩) ∧ Below w.heap.size w w' := word_yes 7 (by decide) (by decide) w
set_option maxRecDepth 100000 in
set_option maxHeartbeats 1000000 in
theorem refinfo_7 (w : World) :
    Calls Try.prog 53 #[.int .u8 7] w fun e w' => e = .returned (.tuple #[rowVal 7, .bool true]) ∧ Below w.heap.size w w' := by
  have hz := zero26
  unfold zeroRow at *
  go_enter Try.func53, Try.ntmps53
  go_wp2_with fail
  refine (word_at7 _).mono ?_
  rintro e w1 ⟨rfl, hb⟩
  have hblk := Lib.hid (refinfo_blk hb)
  have hbelow := Lib.hid (refinfo_below hb)
  clear hb
  go_wp2_with (((with_reducible refine wpList_store_row (o := ⟨none, .store 99 (.tmp 2) (.tmp 114), _, _, _, none⟩) rfl 99 _ _ rfl w.heap.size (rowCells 7).toArray ?_ ?_ 99 _ (hblk.out _) ?_ ?_ ?_ ?_); rfl; kernel_rfl; exact info26; rfl; kernel_rfl))
  refine bodyPost_ret (v := .tuple #[rowVal 7, .bool true]) ?_ rfl ?_
  · exact results_cell_tmp Try.results53 _ _ w.heap.size 99 (rowCells 7).toArray (0, 0) _ rfl (setRow_heap _ _ _ _ _ _ (hblk.out _)) Try.underlying99 rfl info26 _ rfl
  · exact ⟨rfl, hbelow.out _ _⟩

theorem word_at8 (w : World) : Calls Try.prog 58 #[.int .i64 8] w fun e w' => e = .returned (.string ⟨#[99, 111, 110, 115, 116]⟩) ∧ Below w.heap.size w w' := word_yes 8 (by decide) (by decide) w
set_option maxRecDepth 100000 in
set_option maxHeartbeats 1000000 in
theorem refinfo_8 (w : World) :
    Calls Try.prog 53 #[.int .u8 8] w fun e w' => e = .returned (.tuple #[rowVal 8, .bool true]) ∧ Below w.heap.size w w' := by
  have hz := zero26
  unfold zeroRow at *
  go_enter Try.func53, Try.ntmps53
  go_wp2_with fail
  refine (word_at8 _).mono ?_
  rintro e w1 ⟨rfl, hb⟩
  have hblk := Lib.hid (refinfo_blk hb)
  have hbelow := Lib.hid (refinfo_below hb)
  clear hb
  go_wp2_with (((with_reducible refine wpList_store_row (o := ⟨none, .store 99 (.tmp 2) (.tmp 114), _, _, _, none⟩) rfl 99 _ _ rfl w.heap.size (rowCells 8).toArray ?_ ?_ 99 _ (hblk.out _) ?_ ?_ ?_ ?_); rfl; kernel_rfl; exact info26; rfl; kernel_rfl))
  refine bodyPost_ret (v := .tuple #[rowVal 8, .bool true]) ?_ rfl ?_
  · exact results_cell_tmp Try.results53 _ _ w.heap.size 99 (rowCells 8).toArray (0, 0) _ rfl (setRow_heap _ _ _ _ _ _ (hblk.out _)) Try.underlying99 rfl info26 _ rfl
  · exact ⟨rfl, hbelow.out _ _⟩

theorem word_at9 (w : World) : Calls Try.prog 58 #[.int .i64 9] w fun e w' => e = .returned (.string ⟨#[108, 111, 99, 97, 108]⟩) ∧ Below w.heap.size w w' := word_yes 9 (by decide) (by decide) w
set_option maxRecDepth 100000 in
set_option maxHeartbeats 1000000 in
theorem refinfo_9 (w : World) :
    Calls Try.prog 53 #[.int .u8 9] w fun e w' => e = .returned (.tuple #[rowVal 9, .bool true]) ∧ Below w.heap.size w w' := by
  have hz := zero26
  unfold zeroRow at *
  go_enter Try.func53, Try.ntmps53
  go_wp2_with fail
  refine (word_at9 _).mono ?_
  rintro e w1 ⟨rfl, hb⟩
  have hblk := Lib.hid (refinfo_blk hb)
  have hbelow := Lib.hid (refinfo_below hb)
  clear hb
  go_wp2_with (((with_reducible refine wpList_store_row (o := ⟨none, .store 99 (.tmp 2) (.tmp 114), _, _, _, none⟩) rfl 99 _ _ rfl w.heap.size (rowCells 9).toArray ?_ ?_ 99 _ (hblk.out _) ?_ ?_ ?_ ?_); rfl; kernel_rfl; exact info26; rfl; kernel_rfl))
  refine bodyPost_ret (v := .tuple #[rowVal 9, .bool true]) ?_ rfl ?_
  · exact results_cell_tmp Try.results53 _ _ w.heap.size 99 (rowCells 9).toArray (0, 0) _ rfl (setRow_heap _ _ _ _ _ _ (hblk.out _)) Try.underlying99 rfl info26 _ rfl
  · exact ⟨rfl, hbelow.out _ _⟩

theorem word_at10 (w : World) : Calls Try.prog 58 #[.int .i64 10] w fun e w' => e = .returned (.string ⟨#[112, 111, 112]⟩) ∧ Below w.heap.size w w' := word_yes 10 (by decide) (by decide) w
set_option maxRecDepth 100000 in
set_option maxHeartbeats 1000000 in
theorem refinfo_10 (w : World) :
    Calls Try.prog 53 #[.int .u8 10] w fun e w' => e = .returned (.tuple #[rowVal 10, .bool true]) ∧ Below w.heap.size w w' := by
  have hz := zero26
  unfold zeroRow at *
  go_enter Try.func53, Try.ntmps53
  go_wp2_with fail
  refine (word_at10 _).mono ?_
  rintro e w1 ⟨rfl, hb⟩
  have hblk := Lib.hid (refinfo_blk hb)
  have hbelow := Lib.hid (refinfo_below hb)
  clear hb
  go_wp2_with (((with_reducible refine wpList_store_row (o := ⟨none, .store 99 (.tmp 2) (.tmp 114), _, _, _, none⟩) rfl 99 _ _ rfl w.heap.size (rowCells 10).toArray ?_ ?_ 99 _ (hblk.out _) ?_ ?_ ?_ ?_); rfl; kernel_rfl; exact info26; rfl; kernel_rfl))
  refine bodyPost_ret (v := .tuple #[rowVal 10, .bool true]) ?_ rfl ?_
  · exact results_cell_tmp Try.results53 _ _ w.heap.size 99 (rowCells 10).toArray (0, 0) _ rfl (setRow_heap _ _ _ _ _ _ (hblk.out _)) Try.underlying99 rfl info26 _ rfl
  · exact ⟨rfl, hbelow.out _ _⟩

theorem word_at11 (w : World) : Calls Try.prog 58 #[.int .i64 11] w fun e w' => e = .returned (.string ⟨#[100, 117, 112]⟩) ∧ Below w.heap.size w w' := word_yes 11 (by decide) (by decide) w
set_option maxRecDepth 100000 in
set_option maxHeartbeats 1000000 in
theorem refinfo_11 (w : World) :
    Calls Try.prog 53 #[.int .u8 11] w fun e w' => e = .returned (.tuple #[rowVal 11, .bool true]) ∧ Below w.heap.size w w' := by
  have hz := zero26
  unfold zeroRow at *
  go_enter Try.func53, Try.ntmps53
  go_wp2_with fail
  refine (word_at11 _).mono ?_
  rintro e w1 ⟨rfl, hb⟩
  have hblk := Lib.hid (refinfo_blk hb)
  have hbelow := Lib.hid (refinfo_below hb)
  clear hb
  go_wp2_with (((with_reducible refine wpList_store_row (o := ⟨none, .store 99 (.tmp 2) (.tmp 114), _, _, _, none⟩) rfl 99 _ _ rfl w.heap.size (rowCells 11).toArray ?_ ?_ 99 _ (hblk.out _) ?_ ?_ ?_ ?_); rfl; kernel_rfl; exact info26; rfl; kernel_rfl))
  refine bodyPost_ret (v := .tuple #[rowVal 11, .bool true]) ?_ rfl ?_
  · exact results_cell_tmp Try.results53 _ _ w.heap.size 99 (rowCells 11).toArray (0, 0) _ rfl (setRow_heap _ _ _ _ _ _ (hblk.out _)) Try.underlying99 rfl info26 _ rfl
  · exact ⟨rfl, hbelow.out _ _⟩

theorem word_at12 (w : World) : Calls Try.prog 58 #[.int .i64 12] w fun e w' => e = .returned (.string ⟨#[97, 114, 103]⟩) ∧ Below w.heap.size w w' := word_yes 12 (by decide) (by decide) w
set_option maxRecDepth 100000 in
set_option maxHeartbeats 1000000 in
theorem refinfo_12 (w : World) :
    Calls Try.prog 53 #[.int .u8 12] w fun e w' => e = .returned (.tuple #[rowVal 12, .bool true]) ∧ Below w.heap.size w w' := by
  have hz := zero26
  unfold zeroRow at *
  go_enter Try.func53, Try.ntmps53
  go_wp2_with fail
  refine (word_at12 _).mono ?_
  rintro e w1 ⟨rfl, hb⟩
  have hblk := Lib.hid (refinfo_blk hb)
  have hbelow := Lib.hid (refinfo_below hb)
  clear hb
  go_wp2_with (((with_reducible refine wpList_store_row (o := ⟨none, .store 99 (.tmp 2) (.tmp 114), _, _, _, none⟩) rfl 99 _ _ rfl w.heap.size (rowCells 12).toArray ?_ ?_ 99 _ (hblk.out _) ?_ ?_ ?_ ?_); rfl; kernel_rfl; exact info26; rfl; kernel_rfl))
  refine bodyPost_ret (v := .tuple #[rowVal 12, .bool true]) ?_ rfl ?_
  · exact results_cell_tmp Try.results53 _ _ w.heap.size 99 (rowCells 12).toArray (0, 0) _ rfl (setRow_heap _ _ _ _ _ _ (hblk.out _)) Try.underlying99 rfl info26 _ rfl
  · exact ⟨rfl, hbelow.out _ _⟩

theorem word_at13 (w : World) : Calls Try.prog 58 #[.int .i64 13] w fun e w' => e = .returned (.string ⟨#[101, 113]⟩) ∧ Below w.heap.size w w' := word_yes 13 (by decide) (by decide) w
set_option maxRecDepth 100000 in
set_option maxHeartbeats 1000000 in
theorem refinfo_13 (w : World) :
    Calls Try.prog 53 #[.int .u8 13] w fun e w' => e = .returned (.tuple #[rowVal 13, .bool true]) ∧ Below w.heap.size w w' := by
  have hz := zero26
  unfold zeroRow at *
  go_enter Try.func53, Try.ntmps53
  go_wp2_with fail
  refine (word_at13 _).mono ?_
  rintro e w1 ⟨rfl, hb⟩
  have hblk := Lib.hid (refinfo_blk hb)
  have hbelow := Lib.hid (refinfo_below hb)
  clear hb
  go_wp2_with (((with_reducible refine wpList_store_row (o := ⟨none, .store 99 (.tmp 2) (.tmp 114), _, _, _, none⟩) rfl 99 _ _ rfl w.heap.size (rowCells 13).toArray ?_ ?_ 99 _ (hblk.out _) ?_ ?_ ?_ ?_); rfl; kernel_rfl; exact info26; rfl; kernel_rfl))
  refine bodyPost_ret (v := .tuple #[rowVal 13, .bool true]) ?_ rfl ?_
  · exact results_cell_tmp Try.results53 _ _ w.heap.size 99 (rowCells 13).toArray (0, 0) _ rfl (setRow_heap _ _ _ _ _ _ (hblk.out _)) Try.underlying99 rfl info26 _ rfl
  · exact ⟨rfl, hbelow.out _ _⟩

theorem word_at14 (w : World) : Calls Try.prog 58 #[.int .i64 14] w fun e w' => e = .returned (.string ⟨#[110, 101]⟩) ∧ Below w.heap.size w w' := word_yes 14 (by decide) (by decide) w
set_option maxRecDepth 100000 in
set_option maxHeartbeats 1000000 in
theorem refinfo_14 (w : World) :
    Calls Try.prog 53 #[.int .u8 14] w fun e w' => e = .returned (.tuple #[rowVal 14, .bool true]) ∧ Below w.heap.size w w' := by
  have hz := zero26
  unfold zeroRow at *
  go_enter Try.func53, Try.ntmps53
  go_wp2_with fail
  refine (word_at14 _).mono ?_
  rintro e w1 ⟨rfl, hb⟩
  have hblk := Lib.hid (refinfo_blk hb)
  have hbelow := Lib.hid (refinfo_below hb)
  clear hb
  go_wp2_with (((with_reducible refine wpList_store_row (o := ⟨none, .store 99 (.tmp 2) (.tmp 114), _, _, _, none⟩) rfl 99 _ _ rfl w.heap.size (rowCells 14).toArray ?_ ?_ 99 _ (hblk.out _) ?_ ?_ ?_ ?_); rfl; kernel_rfl; exact info26; rfl; kernel_rfl))
  refine bodyPost_ret (v := .tuple #[rowVal 14, .bool true]) ?_ rfl ?_
  · exact results_cell_tmp Try.results53 _ _ w.heap.size 99 (rowCells 14).toArray (0, 0) _ rfl (setRow_heap _ _ _ _ _ _ (hblk.out _)) Try.underlying99 rfl info26 _ rfl
  · exact ⟨rfl, hbelow.out _ _⟩

theorem word_at15 (w : World) : Calls Try.prog 58 #[.int .i64 15] w fun e w' => e = .returned (.string ⟨#[108, 116, 105]⟩) ∧ Below w.heap.size w w' := word_yes 15 (by decide) (by decide) w
set_option maxRecDepth 100000 in
set_option maxHeartbeats 1000000 in
theorem refinfo_15 (w : World) :
    Calls Try.prog 53 #[.int .u8 15] w fun e w' => e = .returned (.tuple #[rowVal 15, .bool true]) ∧ Below w.heap.size w w' := by
  have hz := zero26
  unfold zeroRow at *
  go_enter Try.func53, Try.ntmps53
  go_wp2_with fail
  refine (word_at15 _).mono ?_
  rintro e w1 ⟨rfl, hb⟩
  have hblk := Lib.hid (refinfo_blk hb)
  have hbelow := Lib.hid (refinfo_below hb)
  clear hb
  go_wp2_with (((with_reducible refine wpList_store_row (o := ⟨none, .store 99 (.tmp 2) (.tmp 114), _, _, _, none⟩) rfl 99 _ _ rfl w.heap.size (rowCells 15).toArray ?_ ?_ 99 _ (hblk.out _) ?_ ?_ ?_ ?_); rfl; kernel_rfl; exact info26; rfl; kernel_rfl))
  refine bodyPost_ret (v := .tuple #[rowVal 15, .bool true]) ?_ rfl ?_
  · exact results_cell_tmp Try.results53 _ _ w.heap.size 99 (rowCells 15).toArray (0, 0) _ rfl (setRow_heap _ _ _ _ _ _ (hblk.out _)) Try.underlying99 rfl info26 _ rfl
  · exact ⟨rfl, hbelow.out _ _⟩

theorem word_at16 (w : World) : Calls Try.prog 58 #[.int .i64 16] w fun e w' => e = .returned (.string ⟨#[108, 101, 105]⟩) ∧ Below w.heap.size w w' := word_yes 16 (by decide) (by decide) w
set_option maxRecDepth 100000 in
set_option maxHeartbeats 1000000 in
theorem refinfo_16 (w : World) :
    Calls Try.prog 53 #[.int .u8 16] w fun e w' => e = .returned (.tuple #[rowVal 16, .bool true]) ∧ Below w.heap.size w w' := by
  have hz := zero26
  unfold zeroRow at *
  go_enter Try.func53, Try.ntmps53
  go_wp2_with fail
  refine (word_at16 _).mono ?_
  rintro e w1 ⟨rfl, hb⟩
  have hblk := Lib.hid (refinfo_blk hb)
  have hbelow := Lib.hid (refinfo_below hb)
  clear hb
  go_wp2_with (((with_reducible refine wpList_store_row (o := ⟨none, .store 99 (.tmp 2) (.tmp 114), _, _, _, none⟩) rfl 99 _ _ rfl w.heap.size (rowCells 16).toArray ?_ ?_ 99 _ (hblk.out _) ?_ ?_ ?_ ?_); rfl; kernel_rfl; exact info26; rfl; kernel_rfl))
  refine bodyPost_ret (v := .tuple #[rowVal 16, .bool true]) ?_ rfl ?_
  · exact results_cell_tmp Try.results53 _ _ w.heap.size 99 (rowCells 16).toArray (0, 0) _ rfl (setRow_heap _ _ _ _ _ _ (hblk.out _)) Try.underlying99 rfl info26 _ rfl
  · exact ⟨rfl, hbelow.out _ _⟩

theorem word_at17 (w : World) : Calls Try.prog 58 #[.int .i64 17] w fun e w' => e = .returned (.string ⟨#[103, 116, 105]⟩) ∧ Below w.heap.size w w' := word_yes 17 (by decide) (by decide) w
set_option maxRecDepth 100000 in
set_option maxHeartbeats 1000000 in
theorem refinfo_17 (w : World) :
    Calls Try.prog 53 #[.int .u8 17] w fun e w' => e = .returned (.tuple #[rowVal 17, .bool true]) ∧ Below w.heap.size w w' := by
  have hz := zero26
  unfold zeroRow at *
  go_enter Try.func53, Try.ntmps53
  go_wp2_with fail
  refine (word_at17 _).mono ?_
  rintro e w1 ⟨rfl, hb⟩
  have hblk := Lib.hid (refinfo_blk hb)
  have hbelow := Lib.hid (refinfo_below hb)
  clear hb
  go_wp2_with (((with_reducible refine wpList_store_row (o := ⟨none, .store 99 (.tmp 2) (.tmp 114), _, _, _, none⟩) rfl 99 _ _ rfl w.heap.size (rowCells 17).toArray ?_ ?_ 99 _ (hblk.out _) ?_ ?_ ?_ ?_); rfl; kernel_rfl; exact info26; rfl; kernel_rfl))
  refine bodyPost_ret (v := .tuple #[rowVal 17, .bool true]) ?_ rfl ?_
  · exact results_cell_tmp Try.results53 _ _ w.heap.size 99 (rowCells 17).toArray (0, 0) _ rfl (setRow_heap _ _ _ _ _ _ (hblk.out _)) Try.underlying99 rfl info26 _ rfl
  · exact ⟨rfl, hbelow.out _ _⟩

theorem word_at18 (w : World) : Calls Try.prog 58 #[.int .i64 18] w fun e w' => e = .returned (.string ⟨#[103, 101, 105]⟩) ∧ Below w.heap.size w w' := word_yes 18 (by decide) (by decide) w
set_option maxRecDepth 100000 in
set_option maxHeartbeats 1000000 in
theorem refinfo_18 (w : World) :
    Calls Try.prog 53 #[.int .u8 18] w fun e w' => e = .returned (.tuple #[rowVal 18, .bool true]) ∧ Below w.heap.size w w' := by
  have hz := zero26
  unfold zeroRow at *
  go_enter Try.func53, Try.ntmps53
  go_wp2_with fail
  refine (word_at18 _).mono ?_
  rintro e w1 ⟨rfl, hb⟩
  have hblk := Lib.hid (refinfo_blk hb)
  have hbelow := Lib.hid (refinfo_below hb)
  clear hb
  go_wp2_with (((with_reducible refine wpList_store_row (o := ⟨none, .store 99 (.tmp 2) (.tmp 114), _, _, _, none⟩) rfl 99 _ _ rfl w.heap.size (rowCells 18).toArray ?_ ?_ 99 _ (hblk.out _) ?_ ?_ ?_ ?_); rfl; kernel_rfl; exact info26; rfl; kernel_rfl))
  refine bodyPost_ret (v := .tuple #[rowVal 18, .bool true]) ?_ rfl ?_
  · exact results_cell_tmp Try.results53 _ _ w.heap.size 99 (rowCells 18).toArray (0, 0) _ rfl (setRow_heap _ _ _ _ _ _ (hblk.out _)) Try.underlying99 rfl info26 _ rfl
  · exact ⟨rfl, hbelow.out _ _⟩

theorem word_at19 (w : World) : Calls Try.prog 58 #[.int .i64 19] w fun e w' => e = .returned (.string ⟨#[108, 116, 117]⟩) ∧ Below w.heap.size w w' := word_yes 19 (by decide) (by decide) w
set_option maxRecDepth 100000 in
set_option maxHeartbeats 1000000 in
theorem refinfo_19 (w : World) :
    Calls Try.prog 53 #[.int .u8 19] w fun e w' => e = .returned (.tuple #[rowVal 19, .bool true]) ∧ Below w.heap.size w w' := by
  have hz := zero26
  unfold zeroRow at *
  go_enter Try.func53, Try.ntmps53
  go_wp2_with fail
  refine (word_at19 _).mono ?_
  rintro e w1 ⟨rfl, hb⟩
  have hblk := Lib.hid (refinfo_blk hb)
  have hbelow := Lib.hid (refinfo_below hb)
  clear hb
  go_wp2_with (((with_reducible refine wpList_store_row (o := ⟨none, .store 99 (.tmp 2) (.tmp 114), _, _, _, none⟩) rfl 99 _ _ rfl w.heap.size (rowCells 19).toArray ?_ ?_ 99 _ (hblk.out _) ?_ ?_ ?_ ?_); rfl; kernel_rfl; exact info26; rfl; kernel_rfl))
  refine bodyPost_ret (v := .tuple #[rowVal 19, .bool true]) ?_ rfl ?_
  · exact results_cell_tmp Try.results53 _ _ w.heap.size 99 (rowCells 19).toArray (0, 0) _ rfl (setRow_heap _ _ _ _ _ _ (hblk.out _)) Try.underlying99 rfl info26 _ rfl
  · exact ⟨rfl, hbelow.out _ _⟩

theorem word_at20 (w : World) : Calls Try.prog 58 #[.int .i64 20] w fun e w' => e = .returned (.string ⟨#[108, 101, 117]⟩) ∧ Below w.heap.size w w' := word_yes 20 (by decide) (by decide) w
set_option maxRecDepth 100000 in
set_option maxHeartbeats 1000000 in
theorem refinfo_20 (w : World) :
    Calls Try.prog 53 #[.int .u8 20] w fun e w' => e = .returned (.tuple #[rowVal 20, .bool true]) ∧ Below w.heap.size w w' := by
  have hz := zero26
  unfold zeroRow at *
  go_enter Try.func53, Try.ntmps53
  go_wp2_with fail
  refine (word_at20 _).mono ?_
  rintro e w1 ⟨rfl, hb⟩
  have hblk := Lib.hid (refinfo_blk hb)
  have hbelow := Lib.hid (refinfo_below hb)
  clear hb
  go_wp2_with (((with_reducible refine wpList_store_row (o := ⟨none, .store 99 (.tmp 2) (.tmp 114), _, _, _, none⟩) rfl 99 _ _ rfl w.heap.size (rowCells 20).toArray ?_ ?_ 99 _ (hblk.out _) ?_ ?_ ?_ ?_); rfl; kernel_rfl; exact info26; rfl; kernel_rfl))
  refine bodyPost_ret (v := .tuple #[rowVal 20, .bool true]) ?_ rfl ?_
  · exact results_cell_tmp Try.results53 _ _ w.heap.size 99 (rowCells 20).toArray (0, 0) _ rfl (setRow_heap _ _ _ _ _ _ (hblk.out _)) Try.underlying99 rfl info26 _ rfl
  · exact ⟨rfl, hbelow.out _ _⟩
end Go.Proofs.Ytofkamnmgpkehab
namespace Go.Proofs.Ytofkamnmgpkehab
open Go.RowKit

theorem word_at21 (w : World) : Calls Try.prog 58 #[.int .i64 21] w fun e w' => e = .returned (.string ⟨#[103, 116, 117]⟩) ∧ Below w.heap.size w w' := word_yes 21 (by decide) (by decide) w
set_option maxRecDepth 100000 in
set_option maxHeartbeats 1000000 in
theorem refinfo_21 (w : World) :
    Calls Try.prog 53 #[.int .u8 21] w fun e w' => e = .returned (.tuple #[rowVal 21, .bool true]) ∧ Below w.heap.size w w' := by
  have hz := zero26
  unfold zeroRow at *
  go_enter Try.func53, Try.ntmps53
  go_wp2_with fail
  refine (word_at21 _).mono ?_
  rintro e w1 ⟨rfl, hb⟩
  have hblk := Lib.hid (refinfo_blk hb)
  have hbelow := Lib.hid (refinfo_below hb)
  clear hb
  go_wp2_with (((with_reducible refine wpList_store_row (o := ⟨none, .store 99 (.tmp 2) (.tmp 114), _, _, _, none⟩) rfl 99 _ _ rfl w.heap.size (rowCells 21).toArray ?_ ?_ 99 _ (hblk.out _) ?_ ?_ ?_ ?_); rfl; kernel_rfl; exact info26; rfl; kernel_rfl))
  refine bodyPost_ret (v := .tuple #[rowVal 21, .bool true]) ?_ rfl ?_
  · exact results_cell_tmp Try.results53 _ _ w.heap.size 99 (rowCells 21).toArray (0, 0) _ rfl (setRow_heap _ _ _ _ _ _ (hblk.out _)) Try.underlying99 rfl info26 _ rfl
  · exact ⟨rfl, hbelow.out _ _⟩

theorem word_at22 (w : World) : Calls Try.prog 58 #[.int .i64 22] w fun e w' => e = .returned (.string ⟨#[103, 101, 117]⟩) ∧ Below w.heap.size w w' := word_yes 22 (by decide) (by decide) w
set_option maxRecDepth 100000 in
set_option maxHeartbeats 1000000 in
theorem refinfo_22 (w : World) :
    Calls Try.prog 53 #[.int .u8 22] w fun e w' => e = .returned (.tuple #[rowVal 22, .bool true]) ∧ Below w.heap.size w w' := by
  have hz := zero26
  unfold zeroRow at *
  go_enter Try.func53, Try.ntmps53
  go_wp2_with fail
  refine (word_at22 _).mono ?_
  rintro e w1 ⟨rfl, hb⟩
  have hblk := Lib.hid (refinfo_blk hb)
  have hbelow := Lib.hid (refinfo_below hb)
  clear hb
  go_wp2_with (((with_reducible refine wpList_store_row (o := ⟨none, .store 99 (.tmp 2) (.tmp 114), _, _, _, none⟩) rfl 99 _ _ rfl w.heap.size (rowCells 22).toArray ?_ ?_ 99 _ (hblk.out _) ?_ ?_ ?_ ?_); rfl; kernel_rfl; exact info26; rfl; kernel_rfl))
  refine bodyPost_ret (v := .tuple #[rowVal 22, .bool true]) ?_ rfl ?_
  · exact results_cell_tmp Try.results53 _ _ w.heap.size 99 (rowCells 22).toArray (0, 0) _ rfl (setRow_heap _ _ _ _ _ _ (hblk.out _)) Try.underlying99 rfl info26 _ rfl
  · exact ⟨rfl, hbelow.out _ _⟩

theorem word_at23 (w : World) : Calls Try.prog 58 #[.int .i64 23] w fun e w' => e = .returned (.string ⟨#[101, 113, 102]⟩) ∧ Below w.heap.size w w' := word_yes 23 (by decide) (by decide) w
set_option maxRecDepth 100000 in
set_option maxHeartbeats 1000000 in
theorem refinfo_23 (w : World) :
    Calls Try.prog 53 #[.int .u8 23] w fun e w' => e = .returned (.tuple #[rowVal 23, .bool true]) ∧ Below w.heap.size w w' := by
  have hz := zero26
  unfold zeroRow at *
  go_enter Try.func53, Try.ntmps53
  go_wp2_with fail
  refine (word_at23 _).mono ?_
  rintro e w1 ⟨rfl, hb⟩
  have hblk := Lib.hid (refinfo_blk hb)
  have hbelow := Lib.hid (refinfo_below hb)
  clear hb
  go_wp2_with (((with_reducible refine wpList_store_row (o := ⟨none, .store 99 (.tmp 2) (.tmp 114), _, _, _, none⟩) rfl 99 _ _ rfl w.heap.size (rowCells 23).toArray ?_ ?_ 99 _ (hblk.out _) ?_ ?_ ?_ ?_); rfl; kernel_rfl; exact info26; rfl; kernel_rfl))
  refine bodyPost_ret (v := .tuple #[rowVal 23, .bool true]) ?_ rfl ?_
  · exact results_cell_tmp Try.results53 _ _ w.heap.size 99 (rowCells 23).toArray (0, 0) _ rfl (setRow_heap _ _ _ _ _ _ (hblk.out _)) Try.underlying99 rfl info26 _ rfl
  · exact ⟨rfl, hbelow.out _ _⟩

theorem word_at24 (w : World) : Calls Try.prog 58 #[.int .i64 24] w fun e w' => e = .returned (.string ⟨#[110, 101, 102]⟩) ∧ Below w.heap.size w w' := word_yes 24 (by decide) (by decide) w
set_option maxRecDepth 100000 in
set_option maxHeartbeats 1000000 in
theorem refinfo_24 (w : World) :
    Calls Try.prog 53 #[.int .u8 24] w fun e w' => e = .returned (.tuple #[rowVal 24, .bool true]) ∧ Below w.heap.size w w' := by
  have hz := zero26
  unfold zeroRow at *
  go_enter Try.func53, Try.ntmps53
  go_wp2_with fail
  refine (word_at24 _).mono ?_
  rintro e w1 ⟨rfl, hb⟩
  have hblk := Lib.hid (refinfo_blk hb)
  have hbelow := Lib.hid (refinfo_below hb)
  clear hb
  go_wp2_with (((with_reducible refine wpList_store_row (o := ⟨none, .store 99 (.tmp 2) (.tmp 114), _, _, _, none⟩) rfl 99 _ _ rfl w.heap.size (rowCells 24).toArray ?_ ?_ 99 _ (hblk.out _) ?_ ?_ ?_ ?_); rfl; kernel_rfl; exact info26; rfl; kernel_rfl))
  refine bodyPost_ret (v := .tuple #[rowVal 24, .bool true]) ?_ rfl ?_
  · exact results_cell_tmp Try.results53 _ _ w.heap.size 99 (rowCells 24).toArray (0, 0) _ rfl (setRow_heap _ _ _ _ _ _ (hblk.out _)) Try.underlying99 rfl info26 _ rfl
  · exact ⟨rfl, hbelow.out _ _⟩

theorem word_at25 (w : World) : Calls Try.prog 58 #[.int .i64 25] w fun e w' => e = .returned (.string ⟨#[108, 116, 102]⟩) ∧ Below w.heap.size w w' := word_yes 25 (by decide) (by decide) w
set_option maxRecDepth 100000 in
set_option maxHeartbeats 1000000 in
theorem refinfo_25 (w : World) :
    Calls Try.prog 53 #[.int .u8 25] w fun e w' => e = .returned (.tuple #[rowVal 25, .bool true]) ∧ Below w.heap.size w w' := by
  have hz := zero26
  unfold zeroRow at *
  go_enter Try.func53, Try.ntmps53
  go_wp2_with fail
  refine (word_at25 _).mono ?_
  rintro e w1 ⟨rfl, hb⟩
  have hblk := Lib.hid (refinfo_blk hb)
  have hbelow := Lib.hid (refinfo_below hb)
  clear hb
  go_wp2_with (((with_reducible refine wpList_store_row (o := ⟨none, .store 99 (.tmp 2) (.tmp 114), _, _, _, none⟩) rfl 99 _ _ rfl w.heap.size (rowCells 25).toArray ?_ ?_ 99 _ (hblk.out _) ?_ ?_ ?_ ?_); rfl; kernel_rfl; exact info26; rfl; kernel_rfl))
  refine bodyPost_ret (v := .tuple #[rowVal 25, .bool true]) ?_ rfl ?_
  · exact results_cell_tmp Try.results53 _ _ w.heap.size 99 (rowCells 25).toArray (0, 0) _ rfl (setRow_heap _ _ _ _ _ _ (hblk.out _)) Try.underlying99 rfl info26 _ rfl
  · exact ⟨rfl, hbelow.out _ _⟩

theorem word_at26 (w : World) : Calls Try.prog 58 #[.int .i64 26] w fun e w' => e = .returned (.string ⟨#[108, 101, 102]⟩) ∧ Below w.heap.size w w' := word_yes 26 (by decide) (by decide) w
set_option maxRecDepth 100000 in
set_option maxHeartbeats 1000000 in
theorem refinfo_26 (w : World) :
    Calls Try.prog 53 #[.int .u8 26] w fun e w' => e = .returned (.tuple #[rowVal 26, .bool true]) ∧ Below w.heap.size w w' := by
  have hz := zero26
  unfold zeroRow at *
  go_enter Try.func53, Try.ntmps53
  go_wp2_with fail
  refine (word_at26 _).mono ?_
  rintro e w1 ⟨rfl, hb⟩
  have hblk := Lib.hid (refinfo_blk hb)
  have hbelow := Lib.hid (refinfo_below hb)
  clear hb
  go_wp2_with (((with_reducible refine wpList_store_row (o := ⟨none, .store 99 (.tmp 2) (.tmp 114), _, _, _, none⟩) rfl 99 _ _ rfl w.heap.size (rowCells 26).toArray ?_ ?_ 99 _ (hblk.out _) ?_ ?_ ?_ ?_); rfl; kernel_rfl; exact info26; rfl; kernel_rfl))
  refine bodyPost_ret (v := .tuple #[rowVal 26, .bool true]) ?_ rfl ?_
  · exact results_cell_tmp Try.results53 _ _ w.heap.size 99 (rowCells 26).toArray (0, 0) _ rfl (setRow_heap _ _ _ _ _ _ (hblk.out _)) Try.underlying99 rfl info26 _ rfl
  · exact ⟨rfl, hbelow.out _ _⟩

theorem word_at27 (w : World) : Calls Try.prog 58 #[.int .i64 27] w fun e w' => e = .returned (.string ⟨#[103, 116, 102]⟩) ∧ Below w.heap.size w w' := word_yes 27 (by decide) (by decide) w
set_option maxRecDepth 100000 in
set_option maxHeartbeats 1000000 in
theorem refinfo_27 (w : World) :
    Calls Try.prog 53 #[.int .u8 27] w fun e w' => e = .returned (.tuple #[rowVal 27, .bool true]) ∧ Below w.heap.size w w' := by
  have hz := zero26
  unfold zeroRow at *
  go_enter Try.func53, Try.ntmps53
  go_wp2_with fail
  refine (word_at27 _).mono ?_
  rintro e w1 ⟨rfl, hb⟩
  have hblk := Lib.hid (refinfo_blk hb)
  have hbelow := Lib.hid (refinfo_below hb)
  clear hb
  go_wp2_with (((with_reducible refine wpList_store_row (o := ⟨none, .store 99 (.tmp 2) (.tmp 114), _, _, _, none⟩) rfl 99 _ _ rfl w.heap.size (rowCells 27).toArray ?_ ?_ 99 _ (hblk.out _) ?_ ?_ ?_ ?_); rfl; kernel_rfl; exact info26; rfl; kernel_rfl))
  refine bodyPost_ret (v := .tuple #[rowVal 27, .bool true]) ?_ rfl ?_
  · exact results_cell_tmp Try.results53 _ _ w.heap.size 99 (rowCells 27).toArray (0, 0) _ rfl (setRow_heap _ _ _ _ _ _ (hblk.out _)) Try.underlying99 rfl info26 _ rfl
  · exact ⟨rfl, hbelow.out _ _⟩

theorem word_at28 (w : World) : Calls Try.prog 58 #[.int .i64 28] w fun e w' => e = .returned (.string ⟨#[103, 101, 102]⟩) ∧ Below w.heap.size w w' := word_yes 28 (by decide) (by decide) w
set_option maxRecDepth 100000 in
set_option maxHeartbeats 1000000 in
theorem refinfo_28 (w : World) :
    Calls Try.prog 53 #[.int .u8 28] w fun e w' => e = .returned (.tuple #[rowVal 28, .bool true]) ∧ Below w.heap.size w w' := by
  have hz := zero26
  unfold zeroRow at *
  go_enter Try.func53, Try.ntmps53
  go_wp2_with fail
  refine (word_at28 _).mono ?_
  rintro e w1 ⟨rfl, hb⟩
  have hblk := Lib.hid (refinfo_blk hb)
  have hbelow := Lib.hid (refinfo_below hb)
  clear hb
  go_wp2_with (((with_reducible refine wpList_store_row (o := ⟨none, .store 99 (.tmp 2) (.tmp 114), _, _, _, none⟩) rfl 99 _ _ rfl w.heap.size (rowCells 28).toArray ?_ ?_ 99 _ (hblk.out _) ?_ ?_ ?_ ?_); rfl; kernel_rfl; exact info26; rfl; kernel_rfl))
  refine bodyPost_ret (v := .tuple #[rowVal 28, .bool true]) ?_ rfl ?_
  · exact results_cell_tmp Try.results53 _ _ w.heap.size 99 (rowCells 28).toArray (0, 0) _ rfl (setRow_heap _ _ _ _ _ _ (hblk.out _)) Try.underlying99 rfl info26 _ rfl
  · exact ⟨rfl, hbelow.out _ _⟩

theorem word_at29 (w : World) : Calls Try.prog 58 #[.int .i64 29] w fun e w' => e = .returned (.string ⟨#[108, 111, 97, 100, 49]⟩) ∧ Below w.heap.size w w' := word_yes 29 (by decide) (by decide) w
set_option maxRecDepth 100000 in
set_option maxHeartbeats 1000000 in
theorem refinfo_29 (w : World) :
    Calls Try.prog 53 #[.int .u8 29] w fun e w' => e = .returned (.tuple #[rowVal 29, .bool true]) ∧ Below w.heap.size w w' := by
  have hz := zero26
  unfold zeroRow at *
  go_enter Try.func53, Try.ntmps53
  go_wp2_with fail
  refine (word_at29 _).mono ?_
  rintro e w1 ⟨rfl, hb⟩
  have hblk := Lib.hid (refinfo_blk hb)
  have hbelow := Lib.hid (refinfo_below hb)
  clear hb
  go_wp2_with (((with_reducible refine wpList_store_row (o := ⟨none, .store 99 (.tmp 2) (.tmp 114), _, _, _, none⟩) rfl 99 _ _ rfl w.heap.size (rowCells 29).toArray ?_ ?_ 99 _ (hblk.out _) ?_ ?_ ?_ ?_); rfl; kernel_rfl; exact info26; rfl; kernel_rfl))
  refine bodyPost_ret (v := .tuple #[rowVal 29, .bool true]) ?_ rfl ?_
  · exact results_cell_tmp Try.results53 _ _ w.heap.size 99 (rowCells 29).toArray (0, 0) _ rfl (setRow_heap _ _ _ _ _ _ (hblk.out _)) Try.underlying99 rfl info26 _ rfl
  · exact ⟨rfl, hbelow.out _ _⟩

theorem word_at30 (w : World) : Calls Try.prog 58 #[.int .i64 30] w fun e w' => e = .returned (.string ⟨#[108, 111, 97, 100, 50]⟩) ∧ Below w.heap.size w w' := word_yes 30 (by decide) (by decide) w
set_option maxRecDepth 100000 in
set_option maxHeartbeats 1000000 in
theorem refinfo_30 (w : World) :
    Calls Try.prog 53 #[.int .u8 30] w fun e w' => e = .returned (.tuple #[rowVal 30, .bool true]) ∧ Below w.heap.size w w' := by
  have hz := zero26
  unfold zeroRow at *
  go_enter Try.func53, Try.ntmps53
  go_wp2_with fail
  refine (word_at30 _).mono ?_
  rintro e w1 ⟨rfl, hb⟩
  have hblk := Lib.hid (refinfo_blk hb)
  have hbelow := Lib.hid (refinfo_below hb)
  clear hb
  go_wp2_with (((with_reducible refine wpList_store_row (o := ⟨none, .store 99 (.tmp 2) (.tmp 114), _, _, _, none⟩) rfl 99 _ _ rfl w.heap.size (rowCells 30).toArray ?_ ?_ 99 _ (hblk.out _) ?_ ?_ ?_ ?_); rfl; kernel_rfl; exact info26; rfl; kernel_rfl))
  refine bodyPost_ret (v := .tuple #[rowVal 30, .bool true]) ?_ rfl ?_
  · exact results_cell_tmp Try.results53 _ _ w.heap.size 99 (rowCells 30).toArray (0, 0) _ rfl (setRow_heap _ _ _ _ _ _ (hblk.out _)) Try.underlying99 rfl info26 _ rfl
  · exact ⟨rfl, hbelow.out _ _⟩

theorem word_at31 (w : World) : Calls Try.prog 58 #[.int .i64 31] w fun e w' => e = .returned (.string ⟨#[108, 111, 97, 100, 52]⟩) ∧ Below w.heap.size w w' := word_yes 31 (by decide) (by decide) w
set_option maxRecDepth 100000 in
set_option maxHeartbeats 1000000 in
theorem refinfo_31 (w : World) :
    Calls Try.prog 53 #[.int .u8 31] w fun e w' => e = .returned (.tuple #[rowVal 31, .bool true]) ∧ Below w.heap.size w w' := by
  have hz := zero26
  unfold zeroRow at *
  go_enter Try.func53, Try.ntmps53
  go_wp2_with fail
  refine (word_at31 _).mono ?_
  rintro e w1 ⟨rfl, hb⟩
  have hblk := Lib.hid (refinfo_blk hb)
  have hbelow := Lib.hid (refinfo_below hb)
  clear hb
  go_wp2_with (((with_reducible refine wpList_store_row (o := ⟨none, .store 99 (.tmp 2) (.tmp 114), _, _, _, none⟩) rfl 99 _ _ rfl w.heap.size (rowCells 31).toArray ?_ ?_ 99 _ (hblk.out _) ?_ ?_ ?_ ?_); rfl; kernel_rfl; exact info26; rfl; kernel_rfl))
  refine bodyPost_ret (v := .tuple #[rowVal 31, .bool true]) ?_ rfl ?_
  · exact results_cell_tmp Try.results53 _ _ w.heap.size 99 (rowCells 31).toArray (0, 0) _ rfl (setRow_heap _ _ _ _ _ _ (hblk.out _)) Try.underlying99 rfl info26 _ rfl
  · exact ⟨rfl, hbelow.out _ _⟩

theorem word_at32 (w : World) : Calls Try.prog 58 #[.int .i64 32] w fun e w' => e = .returned (.string ⟨#[115, 116, 111, 114, 101, 49]⟩) ∧ Below w.heap.size w w' := word_yes 32 (by decide) (by decide) w
set_option maxRecDepth 100000 in
set_option maxHeartbeats 1000000 in
theorem refinfo_32 (w : World) :
    Calls Try.prog 53 #[.int .u8 32] w fun e w' => e = .returned (.tuple #[rowVal 32, .bool true]) ∧ Below w.heap.size w w' := by
  have hz := zero26
  unfold zeroRow at *
  go_enter Try.func53, Try.ntmps53
  go_wp2_with fail
  refine (word_at32 _).mono ?_
  rintro e w1 ⟨rfl, hb⟩
  have hblk := Lib.hid (refinfo_blk hb)
  have hbelow := Lib.hid (refinfo_below hb)
  clear hb
  go_wp2_with (((with_reducible refine wpList_store_row (o := ⟨none, .store 99 (.tmp 2) (.tmp 114), _, _, _, none⟩) rfl 99 _ _ rfl w.heap.size (rowCells 32).toArray ?_ ?_ 99 _ (hblk.out _) ?_ ?_ ?_ ?_); rfl; kernel_rfl; exact info26; rfl; kernel_rfl))
  refine bodyPost_ret (v := .tuple #[rowVal 32, .bool true]) ?_ rfl ?_
  · exact results_cell_tmp Try.results53 _ _ w.heap.size 99 (rowCells 32).toArray (0, 0) _ rfl (setRow_heap _ _ _ _ _ _ (hblk.out _)) Try.underlying99 rfl info26 _ rfl
  · exact ⟨rfl, hbelow.out _ _⟩

theorem word_at33 (w : World) : Calls Try.prog 58 #[.int .i64 33] w fun e w' => e = .returned (.string ⟨#[115, 116, 111, 114, 101, 50]⟩) ∧ Below w.heap.size w w' := word_yes 33 (by decide) (by decide) w
set_option maxRecDepth 100000 in
set_option maxHeartbeats 1000000 in
theorem refinfo_33 (w : World) :
    Calls Try.prog 53 #[.int .u8 33] w fun e w' => e = .returned (.tuple #[rowVal 33, .bool true]) ∧ Below w.heap.size w w' := by
  have hz := zero26
  unfold zeroRow at *
  go_enter Try.func53, Try.ntmps53
  go_wp2_with fail
  refine (word_at33 _).mono ?_
  rintro e w1 ⟨rfl, hb⟩
  have hblk := Lib.hid (refinfo_blk hb)
  have hbelow := Lib.hid (refinfo_below hb)
  clear hb
  go_wp2_with (((with_reducible refine wpList_store_row (o := ⟨none, .store 99 (.tmp 2) (.tmp 114), _, _, _, none⟩) rfl 99 _ _ rfl w.heap.size (rowCells 33).toArray ?_ ?_ 99 _ (hblk.out _) ?_ ?_ ?_ ?_); rfl; kernel_rfl; exact info26; rfl; kernel_rfl))
  refine bodyPost_ret (v := .tuple #[rowVal 33, .bool true]) ?_ rfl ?_
  · exact results_cell_tmp Try.results53 _ _ w.heap.size 99 (rowCells 33).toArray (0, 0) _ rfl (setRow_heap _ _ _ _ _ _ (hblk.out _)) Try.underlying99 rfl info26 _ rfl
  · exact ⟨rfl, hbelow.out _ _⟩

theorem word_at34 (w : World) : Calls Try.prog 58 #[.int .i64 34] w fun e w' => e = .returned (.string ⟨#[115, 116, 111, 114, 101, 52]⟩) ∧ Below w.heap.size w w' := word_yes 34 (by decide) (by decide) w
set_option maxRecDepth 100000 in
set_option maxHeartbeats 1000000 in
theorem refinfo_34 (w : World) :
    Calls Try.prog 53 #[.int .u8 34] w fun e w' => e = .returned (.tuple #[rowVal 34, .bool true]) ∧ Below w.heap.size w w' := by
  have hz := zero26
  unfold zeroRow at *
  go_enter Try.func53, Try.ntmps53
  go_wp2_with fail
  refine (word_at34 _).mono ?_
  rintro e w1 ⟨rfl, hb⟩
  have hblk := Lib.hid (refinfo_blk hb)
  have hbelow := Lib.hid (refinfo_below hb)
  clear hb
  go_wp2_with (((with_reducible refine wpList_store_row (o := ⟨none, .store 99 (.tmp 2) (.tmp 114), _, _, _, none⟩) rfl 99 _ _ rfl w.heap.size (rowCells 34).toArray ?_ ?_ 99 _ (hblk.out _) ?_ ?_ ?_ ?_); rfl; kernel_rfl; exact info26; rfl; kernel_rfl))
  refine bodyPost_ret (v := .tuple #[rowVal 34, .bool true]) ?_ rfl ?_
  · exact results_cell_tmp Try.results53 _ _ w.heap.size 99 (rowCells 34).toArray (0, 0) _ rfl (setRow_heap _ _ _ _ _ _ (hblk.out _)) Try.underlying99 rfl info26 _ rfl
  · exact ⟨rfl, hbelow.out _ _⟩

theorem word_at35 (w : World) : Calls Try.prog 58 #[.int .i64 35] w fun e w' => e = .returned (.string ⟨#[99, 111, 112, 121]⟩) ∧ Below w.heap.size w w' := word_yes 35 (by decide) (by decide) w
set_option maxRecDepth 100000 in
set_option maxHeartbeats 1000000 in
theorem refinfo_35 (w : World) :
    Calls Try.prog 53 #[.int .u8 35] w fun e w' => e = .returned (.tuple #[rowVal 35, .bool true]) ∧ Below w.heap.size w w' := by
  have hz := zero26
  unfold zeroRow at *
  go_enter Try.func53, Try.ntmps53
  go_wp2_with fail
  refine (word_at35 _).mono ?_
  rintro e w1 ⟨rfl, hb⟩
  have hblk := Lib.hid (refinfo_blk hb)
  have hbelow := Lib.hid (refinfo_below hb)
  clear hb
  go_wp2_with (((with_reducible refine wpList_store_row (o := ⟨none, .store 99 (.tmp 2) (.tmp 114), _, _, _, none⟩) rfl 99 _ _ rfl w.heap.size (rowCells 35).toArray ?_ ?_ 99 _ (hblk.out _) ?_ ?_ ?_ ?_); rfl; kernel_rfl; exact info26; rfl; kernel_rfl))
  refine bodyPost_ret (v := .tuple #[rowVal 35, .bool true]) ?_ rfl ?_
  · exact results_cell_tmp Try.results53 _ _ w.heap.size 99 (rowCells 35).toArray (0, 0) _ rfl (setRow_heap _ _ _ _ _ _ (hblk.out _)) Try.underlying99 rfl info26 _ rfl
  · exact ⟨rfl, hbelow.out _ _⟩

theorem word_at36 (w : World) : Calls Try.prog 58 #[.int .i64 36] w fun e w' => e = .returned (.string ⟨#[115, 101, 120, 56]⟩) ∧ Below w.heap.size w w' := word_yes 36 (by decide) (by decide) w
set_option maxRecDepth 100000 in
set_option maxHeartbeats 1000000 in
theorem refinfo_36 (w : World) :
    Calls Try.prog 53 #[.int .u8 36] w fun e w' => e = .returned (.tuple #[rowVal 36, .bool true]) ∧ Below w.heap.size w w' := by
  have hz := zero26
  unfold zeroRow at *
  go_enter Try.func53, Try.ntmps53
  go_wp2_with fail
  refine (word_at36 _).mono ?_
  rintro e w1 ⟨rfl, hb⟩
  have hblk := Lib.hid (refinfo_blk hb)
  have hbelow := Lib.hid (refinfo_below hb)
  clear hb
  go_wp2_with (((with_reducible refine wpList_store_row (o := ⟨none, .store 99 (.tmp 2) (.tmp 114), _, _, _, none⟩) rfl 99 _ _ rfl w.heap.size (rowCells 36).toArray ?_ ?_ 99 _ (hblk.out _) ?_ ?_ ?_ ?_); rfl; kernel_rfl; exact info26; rfl; kernel_rfl))
  refine bodyPost_ret (v := .tuple #[rowVal 36, .bool true]) ?_ rfl ?_
  · exact results_cell_tmp Try.results53 _ _ w.heap.size 99 (rowCells 36).toArray (0, 0) _ rfl (setRow_heap _ _ _ _ _ _ (hblk.out _)) Try.underlying99 rfl info26 _ rfl
  · exact ⟨rfl, hbelow.out _ _⟩

theorem word_at37 (w : World) : Calls Try.prog 58 #[.int .i64 37] w fun e w' => e = .returned (.string ⟨#[115, 101, 120, 49, 54]⟩) ∧ Below w.heap.size w w' := word_yes 37 (by decide) (by decide) w
set_option maxRecDepth 100000 in
set_option maxHeartbeats 1000000 in
theorem refinfo_37 (w : World) :
    Calls Try.prog 53 #[.int .u8 37] w fun e w' => e = .returned (.tuple #[rowVal 37, .bool true]) ∧ Below w.heap.size w w' := by
  have hz := zero26
  unfold zeroRow at *
  go_enter Try.func53, Try.ntmps53
  go_wp2_with fail
  refine (word_at37 _).mono ?_
  rintro e w1 ⟨rfl, hb⟩
  have hblk := Lib.hid (refinfo_blk hb)
  have hbelow := Lib.hid (refinfo_below hb)
  clear hb
  go_wp2_with (((with_reducible refine wpList_store_row (o := ⟨none, .store 99 (.tmp 2) (.tmp 114), _, _, _, none⟩) rfl 99 _ _ rfl w.heap.size (rowCells 37).toArray ?_ ?_ 99 _ (hblk.out _) ?_ ?_ ?_ ?_); rfl; kernel_rfl; exact info26; rfl; kernel_rfl))
  refine bodyPost_ret (v := .tuple #[rowVal 37, .bool true]) ?_ rfl ?_
  · exact results_cell_tmp Try.results53 _ _ w.heap.size 99 (rowCells 37).toArray (0, 0) _ rfl (setRow_heap _ _ _ _ _ _ (hblk.out _)) Try.underlying99 rfl info26 _ rfl
  · exact ⟨rfl, hbelow.out _ _⟩

theorem word_at38 (w : World) : Calls Try.prog 58 #[.int .i64 38] w fun e w' => e = .returned (.string ⟨#[110, 101, 103]⟩) ∧ Below w.heap.size w w' := word_yes 38 (by decide) (by decide) w
set_option maxRecDepth 100000 in
set_option maxHeartbeats 1000000 in
theorem refinfo_38 (w : World) :
    Calls Try.prog 53 #[.int .u8 38] w fun e w' => e = .returned (.tuple #[rowVal 38, .bool true]) ∧ Below w.heap.size w w' := by
  have hz := zero26
  unfold zeroRow at *
  go_enter Try.func53, Try.ntmps53
  go_wp2_with fail
  refine (word_at38 _).mono ?_
  rintro e w1 ⟨rfl, hb⟩
  have hblk := Lib.hid (refinfo_blk hb)
  have hbelow := Lib.hid (refinfo_below hb)
  clear hb
  go_wp2_with (((with_reducible refine wpList_store_row (o := ⟨none, .store 99 (.tmp 2) (.tmp 114), _, _, _, none⟩) rfl 99 _ _ rfl w.heap.size (rowCells 38).toArray ?_ ?_ 99 _ (hblk.out _) ?_ ?_ ?_ ?_); rfl; kernel_rfl; exact info26; rfl; kernel_rfl))
  refine bodyPost_ret (v := .tuple #[rowVal 38, .bool true]) ?_ rfl ?_
  · exact results_cell_tmp Try.results53 _ _ w.heap.size 99 (rowCells 38).toArray (0, 0) _ rfl (setRow_heap _ _ _ _ _ _ (hblk.out _)) Try.underlying99 rfl info26 _ rfl
  · exact ⟨rfl, hbelow.out _ _⟩

theorem word_at39 (w : World) : Calls Try.prog 58 #[.int .i64 39] w fun e w' => e = .returned (.string ⟨#[97, 100, 100]⟩) ∧ Below w.heap.size w w' := word_yes 39 (by decide) (by decide) w
set_option maxRecDepth 100000 in
set_option maxHeartbeats 1000000 in
theorem refinfo_39 (w : World) :
    Calls Try.prog 53 #[.int .u8 39] w fun e w' => e = .returned (.tuple #[rowVal 39, .bool true]) ∧ Below w.heap.size w w' := by
  have hz := zero26
  unfold zeroRow at *
  go_enter Try.func53, Try.ntmps53
  go_wp2_with fail
  refine (word_at39 _).mono ?_
  rintro e w1 ⟨rfl, hb⟩
  have hblk := Lib.hid (refinfo_blk hb)
  have hbelow := Lib.hid (refinfo_below hb)
  clear hb
  go_wp2_with (((with_reducible refine wpList_store_row (o := ⟨none, .store 99 (.tmp 2) (.tmp 114), _, _, _, none⟩) rfl 99 _ _ rfl w.heap.size (rowCells 39).toArray ?_ ?_ 99 _ (hblk.out _) ?_ ?_ ?_ ?_); rfl; kernel_rfl; exact info26; rfl; kernel_rfl))
  refine bodyPost_ret (v := .tuple #[rowVal 39, .bool true]) ?_ rfl ?_
  · exact results_cell_tmp Try.results53 _ _ w.heap.size 99 (rowCells 39).toArray (0, 0) _ rfl (setRow_heap _ _ _ _ _ _ (hblk.out _)) Try.underlying99 rfl info26 _ rfl
  · exact ⟨rfl, hbelow.out _ _⟩

theorem word_at40 (w : World) : Calls Try.prog 58 #[.int .i64 40] w fun e w' => e = .returned (.string ⟨#[115, 117, 98]⟩) ∧ Below w.heap.size w w' := word_yes 40 (by decide) (by decide) w
set_option maxRecDepth 100000 in
set_option maxHeartbeats 1000000 in
theorem refinfo_40 (w : World) :
    Calls Try.prog 53 #[.int .u8 40] w fun e w' => e = .returned (.tuple #[rowVal 40, .bool true]) ∧ Below w.heap.size w w' := by
  have hz := zero26
  unfold zeroRow at *
  go_enter Try.func53, Try.ntmps53
  go_wp2_with fail
  refine (word_at40 _).mono ?_
  rintro e w1 ⟨rfl, hb⟩
  have hblk := Lib.hid (refinfo_blk hb)
  have hbelow := Lib.hid (refinfo_below hb)
  clear hb
  go_wp2_with (((with_reducible refine wpList_store_row (o := ⟨none, .store 99 (.tmp 2) (.tmp 114), _, _, _, none⟩) rfl 99 _ _ rfl w.heap.size (rowCells 40).toArray ?_ ?_ 99 _ (hblk.out _) ?_ ?_ ?_ ?_); rfl; kernel_rfl; exact info26; rfl; kernel_rfl))
  refine bodyPost_ret (v := .tuple #[rowVal 40, .bool true]) ?_ rfl ?_
  · exact results_cell_tmp Try.results53 _ _ w.heap.size 99 (rowCells 40).toArray (0, 0) _ rfl (setRow_heap _ _ _ _ _ _ (hblk.out _)) Try.underlying99 rfl info26 _ rfl
  · exact ⟨rfl, hbelow.out _ _⟩
end Go.Proofs.Ytofkamnmgpkehab
namespace Go.Proofs.Ytofkamnmgpkehab
open Go.RowKit

theorem word_at41 (w : World) : Calls Try.prog 58 #[.int .i64 41] w fun e w' => e = .returned (.string ⟨#[109, 117, 108]⟩) ∧ Below w.heap.size w w' := word_yes 41 (by decide) (by decide) w
set_option maxRecDepth 100000 in
set_option maxHeartbeats 1000000 in
theorem refinfo_41 (w : World) :
    Calls Try.prog 53 #[.int .u8 41] w fun e w' => e = .returned (.tuple #[rowVal 41, .bool true]) ∧ Below w.heap.size w w' := by
  have hz := zero26
  unfold zeroRow at *
  go_enter Try.func53, Try.ntmps53
  go_wp2_with fail
  refine (word_at41 _).mono ?_
  rintro e w1 ⟨rfl, hb⟩
  have hblk := Lib.hid (refinfo_blk hb)
  have hbelow := Lib.hid (refinfo_below hb)
  clear hb
  go_wp2_with (((with_reducible refine wpList_store_row (o := ⟨none, .store 99 (.tmp 2) (.tmp 114), _, _, _, none⟩) rfl 99 _ _ rfl w.heap.size (rowCells 41).toArray ?_ ?_ 99 _ (hblk.out _) ?_ ?_ ?_ ?_); rfl; kernel_rfl; exact info26; rfl; kernel_rfl))
  refine bodyPost_ret (v := .tuple #[rowVal 41, .bool true]) ?_ rfl ?_
  · exact results_cell_tmp Try.results53 _ _ w.heap.size 99 (rowCells 41).toArray (0, 0) _ rfl (setRow_heap _ _ _ _ _ _ (hblk.out _)) Try.underlying99 rfl info26 _ rfl
  · exact ⟨rfl, hbelow.out _ _⟩

theorem word_at42 (w : World) : Calls Try.prog 58 #[.int .i64 42] w fun e w' => e = .returned (.string ⟨#[100, 105, 118, 105]⟩) ∧ Below w.heap.size w w' := word_yes 42 (by decide) (by decide) w
set_option maxRecDepth 100000 in
set_option maxHeartbeats 1000000 in
theorem refinfo_42 (w : World) :
    Calls Try.prog 53 #[.int .u8 42] w fun e w' => e = .returned (.tuple #[rowVal 42, .bool true]) ∧ Below w.heap.size w w' := by
  have hz := zero26
  unfold zeroRow at *
  go_enter Try.func53, Try.ntmps53
  go_wp2_with fail
  refine (word_at42 _).mono ?_
  rintro e w1 ⟨rfl, hb⟩
  have hblk := Lib.hid (refinfo_blk hb)
  have hbelow := Lib.hid (refinfo_below hb)
  clear hb
  go_wp2_with (((with_reducible refine wpList_store_row (o := ⟨none, .store 99 (.tmp 2) (.tmp 114), _, _, _, none⟩) rfl 99 _ _ rfl w.heap.size (rowCells 42).toArray ?_ ?_ 99 _ (hblk.out _) ?_ ?_ ?_ ?_); rfl; kernel_rfl; exact info26; rfl; kernel_rfl))
  refine bodyPost_ret (v := .tuple #[rowVal 42, .bool true]) ?_ rfl ?_
  · exact results_cell_tmp Try.results53 _ _ w.heap.size 99 (rowCells 42).toArray (0, 0) _ rfl (setRow_heap _ _ _ _ _ _ (hblk.out _)) Try.underlying99 rfl info26 _ rfl
  · exact ⟨rfl, hbelow.out _ _⟩

theorem word_at43 (w : World) : Calls Try.prog 58 #[.int .i64 43] w fun e w' => e = .returned (.string ⟨#[100, 105, 118, 117]⟩) ∧ Below w.heap.size w w' := word_yes 43 (by decide) (by decide) w
set_option maxRecDepth 100000 in
set_option maxHeartbeats 1000000 in
theorem refinfo_43 (w : World) :
    Calls Try.prog 53 #[.int .u8 43] w fun e w' => e = .returned (.tuple #[rowVal 43, .bool true]) ∧ Below w.heap.size w w' := by
  have hz := zero26
  unfold zeroRow at *
  go_enter Try.func53, Try.ntmps53
  go_wp2_with fail
  refine (word_at43 _).mono ?_
  rintro e w1 ⟨rfl, hb⟩
  have hblk := Lib.hid (refinfo_blk hb)
  have hbelow := Lib.hid (refinfo_below hb)
  clear hb
  go_wp2_with (((with_reducible refine wpList_store_row (o := ⟨none, .store 99 (.tmp 2) (.tmp 114), _, _, _, none⟩) rfl 99 _ _ rfl w.heap.size (rowCells 43).toArray ?_ ?_ 99 _ (hblk.out _) ?_ ?_ ?_ ?_); rfl; kernel_rfl; exact info26; rfl; kernel_rfl))
  refine bodyPost_ret (v := .tuple #[rowVal 43, .bool true]) ?_ rfl ?_
  · exact results_cell_tmp Try.results53 _ _ w.heap.size 99 (rowCells 43).toArray (0, 0) _ rfl (setRow_heap _ _ _ _ _ _ (hblk.out _)) Try.underlying99 rfl info26 _ rfl
  · exact ⟨rfl, hbelow.out _ _⟩

theorem word_at44 (w : World) : Calls Try.prog 58 #[.int .i64 44] w fun e w' => e = .returned (.string ⟨#[109, 111, 100, 105]⟩) ∧ Below w.heap.size w w' := word_yes 44 (by decide) (by decide) w
set_option maxRecDepth 100000 in
set_option maxHeartbeats 1000000 in
theorem refinfo_44 (w : World) :
    Calls Try.prog 53 #[.int .u8 44] w fun e w' => e = .returned (.tuple #[rowVal 44, .bool true]) ∧ Below w.heap.size w w' := by
  have hz := zero26
  unfold zeroRow at *
  go_enter Try.func53, Try.ntmps53
  go_wp2_with fail
  refine (word_at44 _).mono ?_
  rintro e w1 ⟨rfl, hb⟩
  have hblk := Lib.hid (refinfo_blk hb)
  have hbelow := Lib.hid (refinfo_below hb)
  clear hb
  go_wp2_with (((with_reducible refine wpList_store_row (o := ⟨none, .store 99 (.tmp 2) (.tmp 114), _, _, _, none⟩) rfl 99 _ _ rfl w.heap.size (rowCells 44).toArray ?_ ?_ 99 _ (hblk.out _) ?_ ?_ ?_ ?_); rfl; kernel_rfl; exact info26; rfl; kernel_rfl))
  refine bodyPost_ret (v := .tuple #[rowVal 44, .bool true]) ?_ rfl ?_
  · exact results_cell_tmp Try.results53 _ _ w.heap.size 99 (rowCells 44).toArray (0, 0) _ rfl (setRow_heap _ _ _ _ _ _ (hblk.out _)) Try.underlying99 rfl info26 _ rfl
  · exact ⟨rfl, hbelow.out _ _⟩

theorem word_at45 (w : World) : Calls Try.prog 58 #[.int .i64 45] w fun e w' => e = .returned (.string ⟨#[109, 111, 100, 117]⟩) ∧ Below w.heap.size w w' := word_yes 45 (by decide) (by decide) w
set_option maxRecDepth 100000 in
set_option maxHeartbeats 1000000 in
theorem refinfo_45 (w : World) :
    Calls Try.prog 53 #[.int .u8 45] w fun e w' => e = .returned (.tuple #[rowVal 45, .bool true]) ∧ Below w.heap.size w w' := by
  have hz := zero26
  unfold zeroRow at *
  go_enter Try.func53, Try.ntmps53
  go_wp2_with fail
  refine (word_at45 _).mono ?_
  rintro e w1 ⟨rfl, hb⟩
  have hblk := Lib.hid (refinfo_blk hb)
  have hbelow := Lib.hid (refinfo_below hb)
  clear hb
  go_wp2_with (((with_reducible refine wpList_store_row (o := ⟨none, .store 99 (.tmp 2) (.tmp 114), _, _, _, none⟩) rfl 99 _ _ rfl w.heap.size (rowCells 45).toArray ?_ ?_ 99 _ (hblk.out _) ?_ ?_ ?_ ?_); rfl; kernel_rfl; exact info26; rfl; kernel_rfl))
  refine bodyPost_ret (v := .tuple #[rowVal 45, .bool true]) ?_ rfl ?_
  · exact results_cell_tmp Try.results53 _ _ w.heap.size 99 (rowCells 45).toArray (0, 0) _ rfl (setRow_heap _ _ _ _ _ _ (hblk.out _)) Try.underlying99 rfl info26 _ rfl
  · exact ⟨rfl, hbelow.out _ _⟩

theorem word_at46 (w : World) : Calls Try.prog 58 #[.int .i64 46] w fun e w' => e = .returned (.string ⟨#[97, 110, 100]⟩) ∧ Below w.heap.size w w' := word_yes 46 (by decide) (by decide) w
set_option maxRecDepth 100000 in
set_option maxHeartbeats 1000000 in
theorem refinfo_46 (w : World) :
    Calls Try.prog 53 #[.int .u8 46] w fun e w' => e = .returned (.tuple #[rowVal 46, .bool true]) ∧ Below w.heap.size w w' := by
  have hz := zero26
  unfold zeroRow at *
  go_enter Try.func53, Try.ntmps53
  go_wp2_with fail
  refine (word_at46 _).mono ?_
  rintro e w1 ⟨rfl, hb⟩
  have hblk := Lib.hid (refinfo_blk hb)
  have hbelow := Lib.hid (refinfo_below hb)
  clear hb
  go_wp2_with (((with_reducible refine wpList_store_row (o := ⟨none, .store 99 (.tmp 2) (.tmp 114), _, _, _, none⟩) rfl 99 _ _ rfl w.heap.size (rowCells 46).toArray ?_ ?_ 99 _ (hblk.out _) ?_ ?_ ?_ ?_); rfl; kernel_rfl; exact info26; rfl; kernel_rfl))
  refine bodyPost_ret (v := .tuple #[rowVal 46, .bool true]) ?_ rfl ?_
  · exact results_cell_tmp Try.results53 _ _ w.heap.size 99 (rowCells 46).toArray (0, 0) _ rfl (setRow_heap _ _ _ _ _ _ (hblk.out _)) Try.underlying99 rfl info26 _ rfl
  · exact ⟨rfl, hbelow.out _ _⟩

theorem word_at47 (w : World) : Calls Try.prog 58 #[.int .i64 47] w fun e w' => e = .returned (.string ⟨#[111, 114]⟩) ∧ Below w.heap.size w w' := word_yes 47 (by decide) (by decide) w
set_option maxRecDepth 100000 in
set_option maxHeartbeats 1000000 in
theorem refinfo_47 (w : World) :
    Calls Try.prog 53 #[.int .u8 47] w fun e w' => e = .returned (.tuple #[rowVal 47, .bool true]) ∧ Below w.heap.size w w' := by
  have hz := zero26
  unfold zeroRow at *
  go_enter Try.func53, Try.ntmps53
  go_wp2_with fail
  refine (word_at47 _).mono ?_
  rintro e w1 ⟨rfl, hb⟩
  have hblk := Lib.hid (refinfo_blk hb)
  have hbelow := Lib.hid (refinfo_below hb)
  clear hb
  go_wp2_with (((with_reducible refine wpList_store_row (o := ⟨none, .store 99 (.tmp 2) (.tmp 114), _, _, _, none⟩) rfl 99 _ _ rfl w.heap.size (rowCells 47).toArray ?_ ?_ 99 _ (hblk.out _) ?_ ?_ ?_ ?_); rfl; kernel_rfl; exact info26; rfl; kernel_rfl))
  refine bodyPost_ret (v := .tuple #[rowVal 47, .bool true]) ?_ rfl ?_
  · exact results_cell_tmp Try.results53 _ _ w.heap.size 99 (rowCells 47).toArray (0, 0) _ rfl (setRow_heap _ _ _ _ _ _ (hblk.out _)) Try.underlying99 rfl info26 _ rfl
  · exact ⟨rfl, hbelow.out _ _⟩

theorem word_at48 (w : World) : Calls Try.prog 58 #[.int .i64 48] w fun e w' => e = .returned (.string ⟨#[120, 111, 114]⟩) ∧ Below w.heap.size w w' := word_yes 48 (by decide) (by decide) w
set_option maxRecDepth 100000 in
set_option maxHeartbeats 1000000 in
theorem refinfo_48 (w : World) :
    Calls Try.prog 53 #[.int .u8 48] w fun e w' => e = .returned (.tuple #[rowVal 48, .bool true]) ∧ Below w.heap.size w w' := by
  have hz := zero26
  unfold zeroRow at *
  go_enter Try.func53, Try.ntmps53
  go_wp2_with fail
  refine (word_at48 _).mono ?_
  rintro e w1 ⟨rfl, hb⟩
  have hblk := Lib.hid (refinfo_blk hb)
  have hbelow := Lib.hid (refinfo_below hb)
  clear hb
  go_wp2_with (((with_reducible refine wpList_store_row (o := ⟨none, .store 99 (.tmp 2) (.tmp 114), _, _, _, none⟩) rfl 99 _ _ rfl w.heap.size (rowCells 48).toArray ?_ ?_ 99 _ (hblk.out _) ?_ ?_ ?_ ?_); rfl; kernel_rfl; exact info26; rfl; kernel_rfl))
  refine bodyPost_ret (v := .tuple #[rowVal 48, .bool true]) ?_ rfl ?_
  · exact results_cell_tmp Try.results53 _ _ w.heap.size 99 (rowCells 48).toArray (0, 0) _ rfl (setRow_heap _ _ _ _ _ _ (hblk.out _)) Try.underlying99 rfl info26 _ rfl
  · exact ⟨rfl, hbelow.out _ _⟩

theorem word_at49 (w : World) : Calls Try.prog 58 #[.int .i64 49] w fun e w' => e = .returned (.string ⟨#[110, 111, 116]⟩) ∧ Below w.heap.size w w' := word_yes 49 (by decide) (by decide) w
set_option maxRecDepth 100000 in
set_option maxHeartbeats 1000000 in
theorem refinfo_49 (w : World) :
    Calls Try.prog 53 #[.int .u8 49] w fun e w' => e = .returned (.tuple #[rowVal 49, .bool true]) ∧ Below w.heap.size w w' := by
  have hz := zero26
  unfold zeroRow at *
  go_enter Try.func53, Try.ntmps53
  go_wp2_with fail
  refine (word_at49 _).mono ?_
  rintro e w1 ⟨rfl, hb⟩
  have hblk := Lib.hid (refinfo_blk hb)
  have hbelow := Lib.hid (refinfo_below hb)
  clear hb
  go_wp2_with (((with_reducible refine wpList_store_row (o := ⟨none, .store 99 (.tmp 2) (.tmp 114), _, _, _, none⟩) rfl 99 _ _ rfl w.heap.size (rowCells 49).toArray ?_ ?_ 99 _ (hblk.out _) ?_ ?_ ?_ ?_); rfl; kernel_rfl; exact info26; rfl; kernel_rfl))
  refine bodyPost_ret (v := .tuple #[rowVal 49, .bool true]) ?_ rfl ?_
  · exact results_cell_tmp Try.results53 _ _ w.heap.size 99 (rowCells 49).toArray (0, 0) _ rfl (setRow_heap _ _ _ _ _ _ (hblk.out _)) Try.underlying99 rfl info26 _ rfl
  · exact ⟨rfl, hbelow.out _ _⟩

theorem word_at50 (w : World) : Calls Try.prog 58 #[.int .i64 50] w fun e w' => e = .returned (.string ⟨#[115, 104, 108]⟩) ∧ Below w.heap.size w w' := word_yes 50 (by decide) (by decide) w
set_option maxRecDepth 100000 in
set_option maxHeartbeats 1000000 in
theorem refinfo_50 (w : World) :
    Calls Try.prog 53 #[.int .u8 50] w fun e w' => e = .returned (.tuple #[rowVal 50, .bool true]) ∧ Below w.heap.size w w' := by
  have hz := zero26
  unfold zeroRow at *
  go_enter Try.func53, Try.ntmps53
  go_wp2_with fail
  refine (word_at50 _).mono ?_
  rintro e w1 ⟨rfl, hb⟩
  have hblk := Lib.hid (refinfo_blk hb)
  have hbelow := Lib.hid (refinfo_below hb)
  clear hb
  go_wp2_with (((with_reducible refine wpList_store_row (o := ⟨none, .store 99 (.tmp 2) (.tmp 114), _, _, _, none⟩) rfl 99 _ _ rfl w.heap.size (rowCells 50).toArray ?_ ?_ 99 _ (hblk.out _) ?_ ?_ ?_ ?_); rfl; kernel_rfl; exact info26; rfl; kernel_rfl))
  refine bodyPost_ret (v := .tuple #[rowVal 50, .bool true]) ?_ rfl ?_
  · exact results_cell_tmp Try.results53 _ _ w.heap.size 99 (rowCells 50).toArray (0, 0) _ rfl (setRow_heap _ _ _ _ _ _ (hblk.out _)) Try.underlying99 rfl info26 _ rfl
  · exact ⟨rfl, hbelow.out _ _⟩

theorem word_at51 (w : World) : Calls Try.prog 58 #[.int .i64 51] w fun e w' => e = .returned (.string ⟨#[115, 104, 114, 105]⟩) ∧ Below w.heap.size w w' := word_yes 51 (by decide) (by decide) w
set_option maxRecDepth 100000 in
set_option maxHeartbeats 1000000 in
theorem refinfo_51 (w : World) :
    Calls Try.prog 53 #[.int .u8 51] w fun e w' => e = .returned (.tuple #[rowVal 51, .bool true]) ∧ Below w.heap.size w w' := by
  have hz := zero26
  unfold zeroRow at *
  go_enter Try.func53, Try.ntmps53
  go_wp2_with fail
  refine (word_at51 _).mono ?_
  rintro e w1 ⟨rfl, hb⟩
  have hblk := Lib.hid (refinfo_blk hb)
  have hbelow := Lib.hid (refinfo_below hb)
  clear hb
  go_wp2_with (((with_reducible refine wpList_store_row (o := ⟨none, .store 99 (.tmp 2) (.tmp 114), _, _, _, none⟩) rfl 99 _ _ rfl w.heap.size (rowCells 51).toArray ?_ ?_ 99 _ (hblk.out _) ?_ ?_ ?_ ?_); rfl; kernel_rfl; exact info26; rfl; kernel_rfl))
  refine bodyPost_ret (v := .tuple #[rowVal 51, .bool true]) ?_ rfl ?_
  · exact results_cell_tmp Try.results53 _ _ w.heap.size 99 (rowCells 51).toArray (0, 0) _ rfl (setRow_heap _ _ _ _ _ _ (hblk.out _)) Try.underlying99 rfl info26 _ rfl
  · exact ⟨rfl, hbelow.out _ _⟩

theorem word_at52 (w : World) : Calls Try.prog 58 #[.int .i64 52] w fun e w' => e = .returned (.string ⟨#[115, 104, 114, 117]⟩) ∧ Below w.heap.size w w' := word_yes 52 (by decide) (by decide) w
set_option maxRecDepth 100000 in
set_option maxHeartbeats 1000000 in
theorem refinfo_52 (w : World) :
    Calls Try.prog 53 #[.int .u8 52] w fun e w' => e = .returned (.tuple #[rowVal 52, .bool true]) ∧ Below w.heap.size w w' := by
  have hz := zero26
  unfold zeroRow at *
  go_enter Try.func53, Try.ntmps53
  go_wp2_with fail
  refine (word_at52 _).mono ?_
  rintro e w1 ⟨rfl, hb⟩
  have hblk := Lib.hid (refinfo_blk hb)
  have hbelow := Lib.hid (refinfo_below hb)
  clear hb
  go_wp2_with (((with_reducible refine wpList_store_row (o := ⟨none, .store 99 (.tmp 2) (.tmp 114), _, _, _, none⟩) rfl 99 _ _ rfl w.heap.size (rowCells 52).toArray ?_ ?_ 99 _ (hblk.out _) ?_ ?_ ?_ ?_); rfl; kernel_rfl; exact info26; rfl; kernel_rfl))
  refine bodyPost_ret (v := .tuple #[rowVal 52, .bool true]) ?_ rfl ?_
  · exact results_cell_tmp Try.results53 _ _ w.heap.size 99 (rowCells 52).toArray (0, 0) _ rfl (setRow_heap _ _ _ _ _ _ (hblk.out _)) Try.underlying99 rfl info26 _ rfl
  · exact ⟨rfl, hbelow.out _ _⟩

theorem word_at53 (w : World) : Calls Try.prog 58 #[.int .i64 53] w fun e w' => e = .returned (.string ⟨#[110, 101, 103, 102]⟩) ∧ Below w.heap.size w w' := word_yes 53 (by decide) (by decide) w
set_option maxRecDepth 100000 in
set_option maxHeartbeats 1000000 in
theorem refinfo_53 (w : World) :
    Calls Try.prog 53 #[.int .u8 53] w fun e w' => e = .returned (.tuple #[rowVal 53, .bool true]) ∧ Below w.heap.size w w' := by
  have hz := zero26
  unfold zeroRow at *
  go_enter Try.func53, Try.ntmps53
  go_wp2_with fail
  refine (word_at53 _).mono ?_
  rintro e w1 ⟨rfl, hb⟩
  have hblk := Lib.hid (refinfo_blk hb)
  have hbelow := Lib.hid (refinfo_below hb)
  clear hb
  go_wp2_with (((with_reducible refine wpList_store_row (o := ⟨none, .store 99 (.tmp 2) (.tmp 114), _, _, _, none⟩) rfl 99 _ _ rfl w.heap.size (rowCells 53).toArray ?_ ?_ 99 _ (hblk.out _) ?_ ?_ ?_ ?_); rfl; kernel_rfl; exact info26; rfl; kernel_rfl))
  refine bodyPost_ret (v := .tuple #[rowVal 53, .bool true]) ?_ rfl ?_
  · exact results_cell_tmp Try.results53 _ _ w.heap.size 99 (rowCells 53).toArray (0, 0) _ rfl (setRow_heap _ _ _ _ _ _ (hblk.out _)) Try.underlying99 rfl info26 _ rfl
  · exact ⟨rfl, hbelow.out _ _⟩

theorem word_at54 (w : World) : Calls Try.prog 58 #[.int .i64 54] w fun e w' => e = .returned (.string ⟨#[97, 100, 100, 102]⟩) ∧ Below w.heap.size w w' := word_yes 54 (by decide) (by decide) w
set_option maxRecDepth 100000 in
set_option maxHeartbeats 1000000 in
theorem refinfo_54 (w : World) :
    Calls Try.prog 53 #[.int .u8 54] w fun e w' => e = .returned (.tuple #[rowVal 54, .bool true]) ∧ Below w.heap.size w w' := by
  have hz := zero26
  unfold zeroRow at *
  go_enter Try.func53, Try.ntmps53
  go_wp2_with fail
  refine (word_at54 _).mono ?_
  rintro e w1 ⟨rfl, hb⟩
  have hblk := Lib.hid (refinfo_blk hb)
  have hbelow := Lib.hid (refinfo_below hb)
  clear hb
  go_wp2_with (((with_reducible refine wpList_store_row (o := ⟨none, .store 99 (.tmp 2) (.tmp 114), _, _, _, none⟩) rfl 99 _ _ rfl w.heap.size (rowCells 54).toArray ?_ ?_ 99 _ (hblk.out _) ?_ ?_ ?_ ?_); rfl; kernel_rfl; exact info26; rfl; kernel_rfl))
  refine bodyPost_ret (v := .tuple #[rowVal 54, .bool true]) ?_ rfl ?_
  · exact results_cell_tmp Try.results53 _ _ w.heap.size 99 (rowCells 54).toArray (0, 0) _ rfl (setRow_heap _ _ _ _ _ _ (hblk.out _)) Try.underlying99 rfl info26 _ rfl
  · exact ⟨rfl, hbelow.out _ _⟩

theorem word_at55 (w : World) : Calls Try.prog 58 #[.int .i64 55] w fun e w' => e = .returned (.string ⟨#[115, 117, 98, 102]⟩) ∧ Below w.heap.size w w' := word_yes 55 (by decide) (by decide) w
set_option maxRecDepth 100000 in
set_option maxHeartbeats 1000000 in
theorem refinfo_55 (w : World) :
    Calls Try.prog 53 #[.int .u8 55] w fun e w' => e = .returned (.tuple #[rowVal 55, .bool true]) ∧ Below w.heap.size w w' := by
  have hz := zero26
  unfold zeroRow at *
  go_enter Try.func53, Try.ntmps53
  go_wp2_with fail
  refine (word_at55 _).mono ?_
  rintro e w1 ⟨rfl, hb⟩
  have hblk := Lib.hid (refinfo_blk hb)
  have hbelow := Lib.hid (refinfo_below hb)
  clear hb
  go_wp2_with (((with_reducible refine wpList_store_row (o := ⟨none, .store 99 (.tmp 2) (.tmp 114), _, _, _, none⟩) rfl 99 _ _ rfl w.heap.size (rowCells 55).toArray ?_ ?_ 99 _ (hblk.out _) ?_ ?_ ?_ ?_); rfl; kernel_rfl; exact info26; rfl; kernel_rfl))
  refine bodyPost_ret (v := .tuple #[rowVal 55, .bool true]) ?_ rfl ?_
  · exact results_cell_tmp Try.results53 _ _ w.heap.size 99 (rowCells 55).toArray (0, 0) _ rfl (setRow_heap _ _ _ _ _ _ (hblk.out _)) Try.underlying99 rfl info26 _ rfl
  · exact ⟨rfl, hbelow.out _ _⟩

theorem word_at56 (w : World) : Calls Try.prog 58 #[.int .i64 56] w fun e w' => e = .returned (.string ⟨#[109, 117, 108, 102]⟩) ∧ Below w.heap.size w w' := word_yes 56 (by decide) (by decide) w
set_option maxRecDepth 100000 in
set_option maxHeartbeats 1000000 in
theorem refinfo_56 (w : World) :
    Calls Try.prog 53 #[.int .u8 56] w fun e w' => e = .returned (.tuple #[rowVal 56, .bool true]) ∧ Below w.heap.size w w' := by
  have hz := zero26
  unfold zeroRow at *
  go_enter Try.func53, Try.ntmps53
  go_wp2_with fail
  refine (word_at56 _).mono ?_
  rintro e w1 ⟨rfl, hb⟩
  have hblk := Lib.hid (refinfo_blk hb)
  have hbelow := Lib.hid (refinfo_below hb)
  clear hb
  go_wp2_with (((with_reducible refine wpList_store_row (o := ⟨none, .store 99 (.tmp 2) (.tmp 114), _, _, _, none⟩) rfl 99 _ _ rfl w.heap.size (rowCells 56).toArray ?_ ?_ 99 _ (hblk.out _) ?_ ?_ ?_ ?_); rfl; kernel_rfl; exact info26; rfl; kernel_rfl))
  refine bodyPost_ret (v := .tuple #[rowVal 56, .bool true]) ?_ rfl ?_
  · exact results_cell_tmp Try.results53 _ _ w.heap.size 99 (rowCells 56).toArray (0, 0) _ rfl (setRow_heap _ _ _ _ _ _ (hblk.out _)) Try.underlying99 rfl info26 _ rfl
  · exact ⟨rfl, hbelow.out _ _⟩

theorem word_at57 (w : World) : Calls Try.prog 58 #[.int .i64 57] w fun e w' => e = .returned (.string ⟨#[100, 105, 118, 102]⟩) ∧ Below w.heap.size w w' := word_yes 57 (by decide) (by decide) w
set_option maxRecDepth 100000 in
set_option maxHeartbeats 1000000 in
theorem refinfo_57 (w : World) :
    Calls Try.prog 53 #[.int .u8 57] w fun e w' => e = .returned (.tuple #[rowVal 57, .bool true]) ∧ Below w.heap.size w w' := by
  have hz := zero26
  unfold zeroRow at *
  go_enter Try.func53, Try.ntmps53
  go_wp2_with fail
  refine (word_at57 _).mono ?_
  rintro e w1 ⟨rfl, hb⟩
  have hblk := Lib.hid (refinfo_blk hb)
  have hbelow := Lib.hid (refinfo_below hb)
  clear hb
  go_wp2_with (((with_reducible refine wpList_store_row (o := ⟨none, .store 99 (.tmp 2) (.tmp 114), _, _, _, none⟩) rfl 99 _ _ rfl w.heap.size (rowCells 57).toArray ?_ ?_ 99 _ (hblk.out _) ?_ ?_ ?_ ?_); rfl; kernel_rfl; exact info26; rfl; kernel_rfl))
  refine bodyPost_ret (v := .tuple #[rowVal 57, .bool true]) ?_ rfl ?_
  · exact results_cell_tmp Try.results53 _ _ w.heap.size 99 (rowCells 57).toArray (0, 0) _ rfl (setRow_heap _ _ _ _ _ _ (hblk.out _)) Try.underlying99 rfl info26 _ rfl
  · exact ⟨rfl, hbelow.out _ _⟩

theorem word_at58 (w : World) : Calls Try.prog 58 #[.int .i64 58] w fun e w' => e = .returned (.string ⟨#[99, 118, 105, 102]⟩) ∧ Below w.heap.size w w' := word_yes 58 (by decide) (by decide) w
set_option maxRecDepth 100000 in
set_option maxHeartbeats 1000000 in
theorem refinfo_58 (w : World) :
    Calls Try.prog 53 #[.int .u8 58] w fun e w' => e = .returned (.tuple #[rowVal 58, .bool true]) ∧ Below w.heap.size w w' := by
  have hz := zero26
  unfold zeroRow at *
  go_enter Try.func53, Try.ntmps53
  go_wp2_with fail
  refine (word_at58 _).mono ?_
  rintro e w1 ⟨rfl, hb⟩
  have hblk := Lib.hid (refinfo_blk hb)
  have hbelow := Lib.hid (refinfo_below hb)
  clear hb
  go_wp2_with (((with_reducible refine wpList_store_row (o := ⟨none, .store 99 (.tmp 2) (.tmp 114), _, _, _, none⟩) rfl 99 _ _ rfl w.heap.size (rowCells 58).toArray ?_ ?_ 99 _ (hblk.out _) ?_ ?_ ?_ ?_); rfl; kernel_rfl; exact info26; rfl; kernel_rfl))
  refine bodyPost_ret (v := .tuple #[rowVal 58, .bool true]) ?_ rfl ?_
  · exact results_cell_tmp Try.results53 _ _ w.heap.size 99 (rowCells 58).toArray (0, 0) _ rfl (setRow_heap _ _ _ _ _ _ (hblk.out _)) Try.underlying99 rfl info26 _ rfl
  · exact ⟨rfl, hbelow.out _ _⟩

theorem word_at59 (w : World) : Calls Try.prog 58 #[.int .i64 59] w fun e w' => e = .returned (.string ⟨#[99, 118, 102, 105]⟩) ∧ Below w.heap.size w w' := word_yes 59 (by decide) (by decide) w
set_option maxRecDepth 100000 in
set_option maxHeartbeats 1000000 in
theorem refinfo_59 (w : World) :
    Calls Try.prog 53 #[.int .u8 59] w fun e w' => e = .returned (.tuple #[rowVal 59, .bool true]) ∧ Below w.heap.size w w' := by
  have hz := zero26
  unfold zeroRow at *
  go_enter Try.func53, Try.ntmps53
  go_wp2_with fail
  refine (word_at59 _).mono ?_
  rintro e w1 ⟨rfl, hb⟩
  have hblk := Lib.hid (refinfo_blk hb)
  have hbelow := Lib.hid (refinfo_below hb)
  clear hb
  go_wp2_with (((with_reducible refine wpList_store_row (o := ⟨none, .store 99 (.tmp 2) (.tmp 114), _, _, _, none⟩) rfl 99 _ _ rfl w.heap.size (rowCells 59).toArray ?_ ?_ 99 _ (hblk.out _) ?_ ?_ ?_ ?_); rfl; kernel_rfl; exact info26; rfl; kernel_rfl))
  refine bodyPost_ret (v := .tuple #[rowVal 59, .bool true]) ?_ rfl ?_
  · exact results_cell_tmp Try.results53 _ _ w.heap.size 99 (rowCells 59).toArray (0, 0) _ rfl (setRow_heap _ _ _ _ _ _ (hblk.out _)) Try.underlying99 rfl info26 _ rfl
  · exact ⟨rfl, hbelow.out _ _⟩
end Go.Proofs.Ytofkamnmgpkehab
namespace Go.Proofs.Ytofkamnmgpkehab
open Go.RowKit
theorem refinfo_yes (k : Nat) (hk : 1 ≤ k) (h2 : k ≤ 59) (w : World) :
    Calls Try.prog 53 #[.int .u8 k] w fun e w' => e = .returned (.tuple #[rowVal k, .bool true]) ∧ Below w.heap.size w w' :=
  match k, hk, h2 with
  | 0, h, _ => absurd h (by omega)
  | 1, _, _ => refinfo_1 w
  | 2, _, _ => refinfo_2 w
  | 3, _, _ => refinfo_3 w
  | 4, _, _ => refinfo_4 w
  | 5, _, _ => refinfo_5 w
  | 6, _, _ => refinfo_6 w
  | 7, _, _ => refinfo_7 w
  | 8, _, _ => refinfo_8 w
  | 9, _, _ => refinfo_9 w
  | 10, _, _ => refinfo_10 w
  | 11, _, _ => refinfo_11 w
  | 12, _, _ => refinfo_12 w
  | 13, _, _ => refinfo_13 w
  | 14, _, _ => refinfo_14 w
  | 15, _, _ => refinfo_15 w
  | 16, _, _ => refinfo_16 w
  | 17, _, _ => refinfo_17 w
  | 18, _, _ => refinfo_18 w
  | 19, _, _ => refinfo_19 w
  | 20, _, _ => refinfo_20 w
  | 21, _, _ => refinfo_21 w
  | 22, _, _ => refinfo_22 w
  | 23, _, _ => refinfo_23 w
  | 24, _, _ => refinfo_24 w
  | 25, _, _ => refinfo_25 w
  | 26, _, _ => refinfo_26 w
  | 27, _, _ => refinfo_27 w
  | 28, _, _ => refinfo_28 w
  | 29, _, _ => refinfo_29 w
  | 30, _, _ => refinfo_30 w
  | 31, _, _ => refinfo_31 w
  | 32, _, _ => refinfo_32 w
  | 33, _, _ => refinfo_33 w
  | 34, _, _ => refinfo_34 w
  | 35, _, _ => refinfo_35 w
  | 36, _, _ => refinfo_36 w
  | 37, _, _ => refinfo_37 w
  | 38, _, _ => refinfo_38 w
  | 39, _, _ => refinfo_39 w
  | 40, _, _ => refinfo_40 w
  | 41, _, _ => refinfo_41 w
  | 42, _, _ => refinfo_42 w
  | 43, _, _ => refinfo_43 w
  | 44, _, _ => refinfo_44 w
  | 45, _, _ => refinfo_45 w
  | 46, _, _ => refinfo_46 w
  | 47, _, _ => refinfo_47 w
  | 48, _, _ => refinfo_48 w
  | 49, _, _ => refinfo_49 w
  | 50, _, _ => refinfo_50 w
  | 51, _, _ => refinfo_51 w
  | 52, _, _ => refinfo_52 w
  | 53, _, _ => refinfo_53 w
  | 54, _, _ => refinfo_54 w
  | 55, _, _ => refinfo_55 w
  | 56, _, _ => refinfo_56 w
  | 57, _, _ => refinfo_57 w
  | 58, _, _ => refinfo_58 w
  | 59, _, _ => refinfo_59 w
  | n + 60, _, h => absurd h (by omega)
end Go.Proofs.Ytofkamnmgpkehab
