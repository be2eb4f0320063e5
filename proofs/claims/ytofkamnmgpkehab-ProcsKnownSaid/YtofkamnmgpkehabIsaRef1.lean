import Derived.Test.YtofkamnmgpkehabIsaRefA
namespace Go.Proofs.Ytofkamnmgpkehab
open Go.RowKit

theorem word_at1 (w : World) : Calls Try.prog 58 #[.int .i64 1] w fun e w' => e = .returned (.string ⟨#[110, 111, 112]⟩) ∧ Below w.heap.size w w' := word_yes 1 (by decide) (by decide) w
set_option maxRecDepth 100000 in
set_option maxHeartbeats 1000000 in
theorem refinfo_1 (w : World) :
    Calls Try.prog 53 #[.int .u8 1] w fun e w' => e = .returned (.tuple #[rowVal 1, .bool true]) ∧ Below w.heap.size w w' := by
  have hz := zero26
  unfold zeroRow at *
  go_enter Try.func53, Try.ntmps53
  go_wp2_with fail
  refine (word_at1 _).mono ?_
  rintro e w1 ⟨rfl, hb⟩
  have hblk := Lib.hid (refinfo_blk hb)
  have hbelow := Lib.hid (refinfo_below hb)
  clear hb
  go_wp2_with (((with_reducible refine wpList_store_row (o := ⟨none, .store 99 (.tmp 2) (.tmp 114), _, _, _, none⟩) rfl 99 _ _ rfl w.heap.size (rowCells 1).toArray ?_ ?_ 99 _ (hblk.out _) ?_ ?_ ?_ ?_); rfl; kernel_rfl; exact info26; rfl; kernel_rfl))
  refine bodyPost_ret (v := .tuple #[rowVal 1, .bool true]) ?_ rfl ?_
  · exact results_cell_tmp Try.results53 _ _ w.heap.size 99 (rowCells 1).toArray (0, 0) _ rfl (setRow_heap _ _ _ _ _ _ (hblk.out _)) Try.underlying99 rfl info26 _ rfl
  · exact ⟨rfl, hbelow.out _ _⟩

theorem word_at2 (w : World) : Calls Try.prog 58 #[.int .i64 2] w fun e w' => e = .returned (.string ⟨#[98, 114, 101, 97, 107]⟩) ∧ Below w.heap.size w w' := word_yes 2 (by decide) (by decide) w
set_option maxRecDepth 100000 in
set_option maxHeartbeats 1000000 in
theorem refinfo_2 (w : World) :
    Calls Try.prog 53 #[.int .u8 2] w fun e w' => e = .returned (.tuple #[rowVal 2, .bool true]) ∧ Below w.heap.size w w' := by
  have hz := zero26
  unfold zeroRow at *
  go_enter Try.func53, Try.ntmps53
  go_wp2_with fail
  refine (word_at2 _).mono ?_
  rintro e w1 ⟨rfl, hb⟩
  have hblk := Lib.hid (refinfo_blk hb)
  have hbelow := Lib.hid (refinfo_below hb)
  clear hb
  go_wp2_with (((with_reducible refine wpList_store_row (o := ⟨none, .store 99 (.tmp 2) (.tmp 114), _, _, _, none⟩) rfl 99 _ _ rfl w.heap.size (rowCells 2).toArray ?_ ?_ 99 _ (hblk.out _) ?_ ?_ ?_ ?_); rfl; kernel_rfl; exact info26; rfl; kernel_rfl))
  refine bodyPost_ret (v := .tuple #[rowVal 2, .bool true]) ?_ rfl ?_
  · exact results_cell_tmp Try.results53 _ _ w.heap.size 99 (rowCells 2).toArray (0, 0) _ rfl (setRow_heap _ _ _ _ _ _ (hblk.out _)) Try.underlying99 rfl info26 _ rfl
  · exact ⟨rfl, hbelow.out _ _⟩

theorem word_at3 (w : World) : Calls Try.prog 58 #[.int .i64 3] w fun e w' => e = .returned (.string ⟨#[101, 110, 116, 101, 114]⟩) ∧ Below w.heap.size w w' := word_yes 3 (by decide) (by decide) w
set_option maxRecDepth 100000 in
set_option maxHeartbeats 1000000 in
theorem refinfo_3 (w : World) :
    Calls Try.prog 53 #[.int .u8 3] w fun e w' => e = .returned (.tuple #[rowVal 3, .bool true]) ∧ Below w.heap.size w w' := by
  have hz := zero26
  unfold zeroRow at *
  go_enter Try.func53, Try.ntmps53
  go_wp2_with fail
  refine (word_at3 _).mono ?_
  rintro e w1 ⟨rfl, hb⟩
  have hblk := Lib.hid (refinfo_blk hb)
  have hbelow := Lib.hid (refinfo_below hb)
  clear hb
  go_wp2_with (((with_reducible refine wpList_store_row (o := ⟨none, .store 99 (.tmp 2) (.tmp 114), _, _, _, none⟩) rfl 99 _ _ rfl w.heap.size (rowCells 3).toArray ?_ ?_ 99 _ (hblk.out _) ?_ ?_ ?_ ?_); rfl; kernel_rfl; exact info26; rfl; kernel_rfl))
  refine bodyPost_ret (v := .tuple #[rowVal 3, .bool true]) ?_ rfl ?_
  · exact results_cell_tmp Try.results53 _ _ w.heap.size 99 (rowCells 3).toArray (0, 0) _ rfl (setRow_heap _ _ _ _ _ _ (hblk.out _)) Try.underlying99 rfl info26 _ rfl
  · exact ⟨rfl, hbelow.out _ _⟩

theorem word_at4 (w : World) : Calls Try.prog 58 #[.int .i64 4] w fun e w' => e = .returned (.string ⟨#[108, 101, 97, 118, 101]⟩) ∧ Below w.heap.size w w' := word_yes 4 (by decide) (by decide) w
set_option maxRecDepth 100000 in
set_option maxHeartbeats 1000000 in
theorem refinfo_4 (w : World) :
    Calls Try.prog 53 #[.int .u8 4] w fun e w' => e = .returned (.tuple #[rowVal 4, .bool true]) ∧ Below w.heap.size w w' := by
  have hz := zero26
  unfold zeroRow at *
  go_enter Try.func53, Try.ntmps53
  go_wp2_with fail
  refine (word_at4 _).mono ?_
  rintro e w1 ⟨rfl, hb⟩
  have hblk := Lib.hid (refinfo_blk hb)
  have hbelow := Lib.hid (refinfo_below hb)
  clear hb
  go_wp2_with (((with_reducible refine wpList_store_row (o := ⟨none, .store 99 (.tmp 2) (.tmp 114), _, _, _, none⟩) rfl 99 _ _ rfl w.heap.size (rowCells 4).toArray ?_ ?_ 99 _ (hblk.out _) ?_ ?_ ?_ ?_); rfl; kernel_rfl; exact info26; rfl; kernel_rfl))
  refine bodyPost_ret (v := .tuple #[rowVal 4, .bool true]) ?_ rfl ?_
  · exact results_cell_tmp Try.results53 _ _ w.heap.size 99 (rowCells 4).toArray (0, 0) _ rfl (setRow_heap _ _ _ _ _ _ (hblk.out _)) Try.underlying99 rfl info26 _ rfl
  · exact ⟨rfl, hbelow.out _ _⟩

theorem word_at5 (w : World) : Calls Try.prog 58 #[.int .i64 5] w fun e w' => e = .returned (.string ⟨#[99, 97, 108, 108]⟩) ∧ Below w.heap.size w w' := word_yes 5 (by decide) (by decide) w
set_option maxRecDepth 100000 in
set_option maxHeartbeats 1000000 in
theorem refinfo_5 (w : World) :
    Calls Try.prog 53 #[.int .u8 5] w fun e w' => e = .returned (.tuple #[rowVal 5, .bool true]) ∧ Below w.heap.size w w' := by
  have hz := zero26
  unfold zeroRow at *
  go_enter Try.func53, Try.ntmps53
  go_wp2_with fail
  refine (word_at5 _).mono ?_
  rintro e w1 ⟨rfl, hb⟩
  have hblk := Lib.hid (refinfo_blk hb)
  have hbelow := Lib.hid (refinfo_below hb)
  clear hb
  go_wp2_with (((with_reducible refine wpList_store_row (o := ⟨none, .store 99 (.tmp 2) (.tmp 114), _, _, _, none⟩) rfl 99 _ _ rfl w.heap.size (rowCells 5).toArray ?_ ?_ 99 _ (hblk.out _) ?_ ?_ ?_ ?_); rfl; kernel_rfl; exact info26; rfl; kernel_rfl))
  refine bodyPost_ret (v := .tuple #[rowVal 5, .bool true]) ?_ rfl ?_
  · exact results_cell_tmp Try.results53 _ _ w.heap.size 99 (rowCells 5).toArray (0, 0) _ rfl (setRow_heap _ _ _ _ _ _ (hblk.out _)) Try.underlying99 rfl info26 _ rfl
  · exact ⟨rfl, hbelow.out _ _⟩

theorem word_at6 (w : World) : Calls Try.prog 58 #[.int .i64 6] w fun e w' => e = .returned (.string ⟨#[103, 111, 116, 111]⟩) ∧ Below w.heap.size w w' := word_yes 6 (by decide) (by decide) w
set_option maxRecDepth 100000 in
set_option maxHeartbeats 1000000 in
theorem refinfo_6 (w : World) :
    Calls Try.prog 53 #[.int .u8 6] w fun e w' => e = .returned (.tuple #[rowVal 6, .bool true]) ∧ Below w.heap.size w w' := by
  have hz := zero26
  unfold zeroRow at *
  go_enter Try.func53, Try.ntmps53
  go_wp2_with fail
  refine (word_at6 _).mono ?_
  rintro e w1 ⟨rfl, hb⟩
  have hblk := Lib.hid (refinfo_blk hb)
  have hbelow := Lib.hid (refinfo_below hb)
  clear hb
  go_wp2_with (((with_reducible refine wpList_store_row (o := ⟨none, .store 99 (.tmp 2) (.tmp 114), _, _, _, none⟩) rfl 99 _ _ rfl w.heap.size (rowCells 6).toArray ?_ ?_ 99 _ (hblk.out _) ?_ ?_ ?_ ?_); rfl; kernel_rfl; exact info26; rfl; kernel_rfl))
  refine bodyPost_ret (v := .tuple #[rowVal 6, .bool true]) ?_ rfl ?_
  · exact results_cell_tmp Try.results53 _ _ w.heap.size 99 (rowCells 6).toArray (0, 0) _ rfl (setRow_heap _ _ _ _ _ _ (hblk.out _)) Try.underlying99 rfl info26 _ rfl
  · exact ⟨rfl, hbelow.out _ _⟩

theorem word_at7 (w : World) : Calls Try.prog 58 #[.int .i64 7] w fun e w' => e = .returned (.string ⟨#[106, 117, 109, 112]⟩) ∧ Below w.heap.size w w' := word_yes 7 (by decide) (by decide) w
set_option maxRecDepth 100000 in
set_option maxHeartbeats 1000000 in
theorem refinfo_7 (w : World) :
    Calls Try.prog 53 #[.int .u8 7] w fun e w' => e = .returned (.tuple #[rowVal 7, .bool true]) ∧ Below w.heap.size w w' := by
  have hz := zero26
  unfold zeroRow at *
  go_enter Try.func53, Try.ntmps53
  go_wp2_with fail
  refine (word_at7 _).mono ?_
  rintro e w1 ⟨rfl, hb⟩
  have hblk := Lib.hid (refinfo_blk hb)
  have hbelow := Lib.hid (refinfo_below hb)
  clear hb
  go_wp2_with (((with_reducible refine wpList_store_row (o := ⟨none, .store 99 (.tmp 2) (.tmp 114), _, _, _, none⟩) rfl 99 _ _ rfl w.heap.size (rowCells 7).toArray ?_ ?_ 99 _ (hblk.out _) ?_ ?_ ?_ ?_); rfl; kernel_rfl; exact info26; rfl; kernel_rfl))
  refine bodyPost_ret (v := .tuple #[rowVal 7, .bool true]) ?_ rfl ?_
  · exact results_cell_tmp Try.results53 _ _ w.heap.size 99 (rowCells 7).toArray (0, 0) _ rfl (setRow_heap _ _ _ _ _ _ (hblk.out _)) Try.underlying99 rfl info26 _ rfl
  · exact ⟨rfl, hbelow.out _ _⟩

theorem word_at8 (w : World) : Calls Try.prog 58 #[.int .i64 8] w fun e w' => e = .returned (.string ⟨#[99, 111, 110, 115, 116]⟩) ∧ Below w.heap.size w w' := word_yes 8 (by decide) (by decide) w
set_option maxRecDepth 100000 in
set_option maxHeartbeats 1000000 in
theorem refinfo_8 (w : World) :
    Calls Try.prog 53 #[.int .u8 8] w fun e w' => e = .returned (.tuple #[rowVal 8, .bool true]) ∧ Below w.heap.size w w' := by
  have hz := zero26
  unfold zeroRow at *
  go_enter Try.func53, Try.ntmps53
  go_wp2_with fail
  refine (word_at8 _).mono ?_
  rintro e w1 ⟨rfl, hb⟩
  have hblk := Lib.hid (refinfo_blk hb)
  have hbelow := Lib.hid (refinfo_below hb)
  clear hb
  go_wp2_with (((with_reducible refine wpList_store_row (o := ⟨none, .store 99 (.tmp 2) (.tmp 114), _, _, _, none⟩) rfl 99 _ _ rfl w.heap.size (rowCells 8).toArray ?_ ?_ 99 _ (hblk.out _) ?_ ?_ ?_ ?_); rfl; kernel_rfl; exact info26; rfl; kernel_rfl))
  refine bodyPost_ret (v := .tuple #[rowVal 8, .bool true]) ?_ rfl ?_
  · exact results_cell_tmp Try.results53 _ _ w.heap.size 99 (rowCells 8).toArray (0, 0) _ rfl (setRow_heap _ _ _ _ _ _ (hblk.out _)) Try.underlying99 rfl info26 _ rfl
  · exact ⟨rfl, hbelow.out _ _⟩

theorem word_at9 (w : World) : Calls Try.prog 58 #[.int .i64 9] w fun e w' => e = .returned (.string ⟨#[108, 111, 99, 97, 108]⟩) ∧ Below w.heap.size w w' := word_yes 9 (by decide) (by decide) w
set_option maxRecDepth 100000 in
set_option maxHeartbeats 1000000 in
theorem refinfo_9 (w : World) :
    Calls Try.prog 53 #[.int .u8 9] w fun e w' => e = .returned (.tuple #[rowVal 9, .bool true]) ∧ Below w.heap.size w w' := by
  have hz := zero26
  unfold zeroRow at *
  go_enter Try.func53, Try.ntmps53
  go_wp2_with fail
  refine (word_at9 _).mono ?_
  rintro e w1 ⟨rfl, hb⟩
  have hblk := Lib.hid (refinfo_blk hb)
  have hbelow := Lib.hid (refinfo_below hb)
  clear hb
  go_wp2_with (((with_reducible refine wpList_store_row (o := ⟨none, .store 99 (.tmp 2) (.tmp 114), _, _, _, none⟩) rfl 99 _ _ rfl w.heap.size (rowCells 9).toArray ?_ ?_ 99 _ (hblk.out _) ?_ ?_ ?_ ?_); rfl; kernel_rfl; exact info26; rfl; kernel_rfl))
  refine bodyPost_ret (v := .tuple #[rowVal 9, .bool true]) ?_ rfl ?_
  · exact results_cell_tmp Try.results53 _ _ w.heap.size 99 (rowCells 9).toArray (0, 0) _ rfl (setRow_heap _ _ _ _ _ _ (hblk.out _)) Try.underlying99 rfl info26 _ rfl
  · exact ⟨rfl, hbelow.out _ _⟩

theorem word_at10 (w : World) : Calls Try.prog 58 #[.int .i64 10] w fun e w' => e = .returned (.string ⟨#[112, 111, 112]⟩) ∧ Below w.heap.size w w' := word_yes 10 (by decide) (by decide) w
set_option maxRecDepth 100000 in
set_option maxHeartbeats 1000000 in
theorem refinfo_10 (w : World) :
    Calls Try.prog 53 #[.int .u8 10] w fun e w' => e = .returned (.tuple #[rowVal 10, .bool true]) ∧ Below w.heap.size w w' := by
  have hz := zero26
  unfold zeroRow at *
  go_enter Try.func53, Try.ntmps53
  go_wp2_with fail
  refine (word_at10 _).mono ?_
  rintro e w1 ⟨rfl, hb⟩
  have hblk := Lib.hid (refinfo_blk hb)
  have hbelow := Lib.hid (refinfo_below hb)
  clear hb
  go_wp2_with (((with_reducible refine wpList_store_row (o := ⟨none, .store 99 (.tmp 2) (.tmp 114), _, _, _, none⟩) rfl 99 _ _ rfl w.heap.size (rowCells 10).toArray ?_ ?_ 99 _ (hblk.out _) ?_ ?_ ?_ ?_); rfl; kernel_rfl; exact info26; rfl; kernel_rfl))
  refine bodyPost_ret (v := .tuple #[rowVal 10, .bool true]) ?_ rfl ?_
  · exact results_cell_tmp Try.results53 _ _ w.heap.size 99 (rowCells 10).toArray (0, 0) _ rfl (setRow_heap _ _ _ _ _ _ (hblk.out _)) Try.underlying99 rfl info26 _ rfl
  · exact ⟨rfl, hbelow.out _ _⟩

theorem word_at11 (w : World) : Calls Try.prog 58 #[.int .i64 11] w fun e w' => e = .returned (.string ⟨#[100, 117, 112]⟩) ∧ Below w.heap.size w w' := word_yes 11 (by decide) (by decide) w
set_option maxRecDepth 100000 in
set_option maxHeartbeats 1000000 in
theorem refinfo_11 (w : World) :
    Calls Try.prog 53 #[.int .u8 11] w fun e w' => e = .returned (.tuple #[rowVal 11, .bool true]) ∧ Below w.heap.size w w' := by
  have hz := zero26
  unfold zeroRow at *
  go_enter Try.func53, Try.ntmps53
  go_wp2_with fail
  refine (word_at11 _).mono ?_
  rintro e w1 ⟨rfl, hb⟩
  have hblk := Lib.hid (refinfo_blk hb)
  have hbelow := Lib.hid (refinfo_below hb)
  clear hb
  go_wp2_with (((with_reducible refine wpList_store_row (o := ⟨none, .store 99 (.tmp 2) (.tmp 114), _, _, _, none⟩) rfl 99 _ _ rfl w.heap.size (rowCells 11).toArray ?_ ?_ 99 _ (hblk.out _) ?_ ?_ ?_ ?_); rfl; kernel_rfl; exact info26; rfl; kernel_rfl))
  refine bodyPost_ret (v := .tuple #[rowVal 11, .bool true]) ?_ rfl ?_
  · exact results_cell_tmp Try.results53 _ _ w.heap.size 99 (rowCells 11).toArray (0, 0) _ rfl (setRow_heap _ _ _ _ _ _ (hblk.out _)) Try.underlying99 rfl info26 _ rfl
  · exact ⟨rfl, hbelow.out _ _⟩

theorem word_at12 (w : World) : Calls Try.prog 58 #[.int .i64 12] w fun e w' => e = .returned (.string ⟨#[97, 114, 103]⟩) ∧ Below w.heap.size w w' := word_yes 12 (by decide) (by decide) w
set_option maxRecDepth 100000 in
set_option maxHeartbeats 1000000 in
theorem refinfo_12 (w : World) :
    Calls Try.prog 53 #[.int .u8 12] w fun e w' => e = .returned (.tuple #[rowVal 12, .bool true]) ∧ Below w.heap.size w w' := by
  have hz := zero26
  unfold zeroRow at *
  go_enter Try.func53, Try.ntmps53
  go_wp2_with fail
  refine (word_at12 _).mono ?_
  rintro e w1 ⟨rfl, hb⟩
  have hblk := Lib.hid (refinfo_blk hb)
  have hbelow := Lib.hid (refinfo_below hb)
  clear hb
  go_wp2_with (((with_reducible refine wpList_store_row (o := ⟨none, .store 99 (.tmp 2) (.tmp 114), _, _, _, none⟩) rfl 99 _ _ rfl w.heap.size (rowCells 12).toArray ?_ ?_ 99 _ (hblk.out _) ?_ ?_ ?_ ?_); rfl; kernel_rfl; exact info26; rfl; kernel_rfl))
  refine bodyPost_ret (v := .tuple #[rowVal 12, .bool true]) ?_ rfl ?_
  · exact results_cell_tmp Try.results53 _ _ w.heap.size 99 (rowCells 12).toArray (0, 0) _ rfl (setRow_heap _ _ _ _ _ _ (hblk.out _)) Try.underlying99 rfl info26 _ rfl
  · exact ⟨rfl, hbelow.out _ _⟩

theorem word_at13 (w : World) : Calls Try.prog 58 #[.int .i64 13] w fun e w' => e = .returned (.string ⟨#[101, 113]⟩) ∧ Below w.heap.size w w' := word_yes 13 (by decide) (by decide) w
set_option maxRecDepth 100000 in
set_option maxHeartbeats 1000000 in
theorem refinfo_13 (w : World) :
    Calls Try.prog 53 #[.int .u8 13] w fun e w' => e = .returned (.tuple #[rowVal 13, .bool true]) ∧ Below w.heap.size w w' := by
  have hz := zero26
  unfold zeroRow at *
  go_enter Try.func53, Try.ntmps53
  go_wp2_with fail
  refine (word_at13 _).mono ?_
  rintro e w1 ⟨rfl, hb⟩
  have hblk := Lib.hid (refinfo_blk hb)
  have hbelow := Lib.hid (refinfo_below hb)
  clear hb
  go_wp2_with (((with_reducible refine wpList_store_row (o := ⟨none, .store 99 (.tmp 2) (.tmp 114), _, _, _, none⟩) rfl 99 _ _ rfl w.heap.size (rowCells 13).toArray ?_ ?_ 99 _ (hblk.out _) ?_ ?_ ?_ ?_); rfl; kernel_rfl; exact info26; rfl; kernel_rfl))
  refine bodyPost_ret (v := .tuple #[rowVal 13, .bool true]) ?_ rfl ?_
  · exact results_cell_tmp Try.results53 _ _ w.heap.size 99 (rowCells 13).toArray (0, 0) _ rfl (setRow_heap _ _ _ _ _ _ (hblk.out _)) Try.underlying99 rfl info26 _ rfl
  · exact ⟨rfl, hbelow.out _ _⟩

theorem word_at14 (w : World) : Calls Try.prog 58 #[.int .i64 14] w fun e w' => e = .returned (.string ⟨#[110, 101]⟩) ∧ Below w.heap.size w w' := word_yes 14 (by decide) (by decide) w
set_option maxRecDepth 100000 in
set_option maxHeartbeats 1000000 in
theorem refinfo_14 (w : World) :
    Calls Try.prog 53 #[.int .u8 14] w fun e w' => e = .returned (.tuple #[rowVal 14, .bool true]) ∧ Below w.heap.size w w' := by
  have hz := zero26
  unfold zeroRow at *
  go_enter Try.func53, Try.ntmps53
  go_wp2_with fail
  refine (word_at14 _).mono ?_
  rintro e w1 ⟨rfl, hb⟩
  have hblk := Lib.hid (refinfo_blk hb)
  have hbelow := Lib.hid (refinfo_below hb)
  clear hb
  go_wp2_with (((with_reducible refine wpList_store_row (o := ⟨none, .store 99 (.tmp 2) (.tmp 114), _, _, _, none⟩) rfl 99 _ _ rfl w.heap.size (rowCells 14).toArray ?_ ?_ 99 _ (hblk.out _) ?_ ?_ ?_ ?_); rfl; kernel_rfl; exact info26; rfl; kernel_rfl))
  refine bodyPost_ret (v := .tuple #[rowVal 14, .bool true]) ?_ rfl ?_
  · exact results_cell_tmp Try.results53 _ _ w.heap.size 99 (rowCells 14).toArray (0, 0) _ rfl (setRow_heap _ _ _ _ _ _ (hblk.out _)) Try.underlying99 rfl info26 _ rfl
  · exact ⟨rfl, hbelow.out _ _⟩

theorem word_at15 (w : World) : Calls Try.prog 58 #[.int .i64 15] w fun e w' => e = .returned (.string ⟨#[108, 116, 105]⟩) ∧ Below w.heap.size w w' := word_yes 15 (by decide) (by decide) w
set_option maxRecDepth 100000 in
set_option maxHeartbeats 1000000 in
theorem refinfo_15 (w : World) :
    Calls Try.prog 53 #[.int .u8 15] w fun e w' => e = .returned (.tuple #[rowVal 15, .bool true]) ∧ Below w.heap.size w w' := by
  have hz := zero26
  unfold zeroRow at *
  go_enter Try.func53, Try.ntmps53
  go_wp2_with fail
  refine (word_at15 _).mono ?_
  rintro e w1 ⟨rfl, hb⟩
  have hblk := Lib.hid (refinfo_blk hb)
  have hbelow := Lib.hid (refinfo_below hb)
  clear hb
  go_wp2_with (((with_reducible refine wpList_store_row (o := ⟨none, .store 99 (.tmp 2) (.tmp 114), _, _, _, none⟩) rfl 99 _ _ rfl w.heap.size (rowCells 15).toArray ?_ ?_ 99 _ (hblk.out _) ?_ ?_ ?_ ?_); rfl; kernel_rfl; exact info26; rfl; kernel_rfl))
  refine bodyPost_ret (v := .tuple #[rowVal 15, .bool true]) ?_ rfl ?_
  · exact results_cell_tmp Try.results53 _ _ w.heap.size 99 (rowCells 15).toArray (0, 0) _ rfl (setRow_heap _ _ _ _ _ _ (hblk.out _)) Try.underlying99 rfl info26 _ rfl
  · exact ⟨rfl, hbelow.out _ _⟩

theorem word_at16 (w : World) : Calls Try.prog 58 #[.int .i64 16] w fun e w' => e = .returned (.string ⟨#[108, 101, 105]⟩) ∧ Below w.heap.size w w' := word_yes 16 (by decide) (by decide) w
set_option maxRecDepth 100000 in
set_option maxHeartbeats 1000000 in
theorem refinfo_16 (w : World) :
    Calls Try.prog 53 #[.int .u8 16] w fun e w' => e = .returned (.tuple #[rowVal 16, .bool true]) ∧ Below w.heap.size w w' := by
  have hz := zero26
  unfold zeroRow at *
  go_enter Try.func53, Try.ntmps53
  go_wp2_with fail
  refine (word_at16 _).mono ?_
  rintro e w1 ⟨rfl, hb⟩
  have hblk := Lib.hid (refinfo_blk hb)
  have hbelow := Lib.hid (refinfo_below hb)
  clear hb
  go_wp2_with (((with_reducible refine wpList_store_row (o := ⟨none, .store 99 (.tmp 2) (.tmp 114), _, _, _, none⟩) rfl 99 _ _ rfl w.heap.size (rowCells 16).toArray ?_ ?_ 99 _ (hblk.out _) ?_ ?_ ?_ ?_); rfl; kernel_rfl; exact info26; rfl; kernel_rfl))
  refine bodyPost_ret (v := .tuple #[rowVal 16, .bool true]) ?_ rfl ?_
  · exact results_cell_tmp Try.results53 _ _ w.heap.size 99 (rowCells 16).toArray (0, 0) _ rfl (setRow_heap _ _ _ _ _ _ (hblk.out _)) Try.underlying99 rfl info26 _ rfl
  · exact ⟨rfl, hbelow.out _ _⟩

theorem word_at17 (w : World) : Calls Try.prog 58 #[.int .i64 17] w fun e w' => e = .returned (.string ⟨#[103, 116, 105]⟩) ∧ Below w.heap.size w w' := word_yes 17 (by decide) (by decide) w
set_option maxRecDepth 100000 in
set_option maxHeartbeats 1000000 in
theorem refinfo_17 (w : World) :
    Calls Try.prog 53 #[.int .u8 17] w fun e w' => e = .returned (.tuple #[rowVal 17, .bool true]) ∧ Below w.heap.size w w' := by
  have hz := zero26
  unfold zeroRow at *
  go_enter Try.func53, Try.ntmps53
  go_wp2_with fail
  refine (word_at17 _).mono ?_
  rintro e w1 ⟨rfl, hb⟩
  have hblk := Lib.hid (refinfo_blk hb)
  have hbelow := Lib.hid (refinfo_below hb)
  clear hb
  go_wp2_with (((with_reducible refine wpList_store_row (o := ⟨none, .store 99 (.tmp 2) (.tmp 114), _, _, _, none⟩) rfl 99 _ _ rfl w.heap.size (rowCells 17).toArray ?_ ?_ 99 _ (hblk.out _) ?_ ?_ ?_ ?_); rfl; kernel_rfl; exact info26; rfl; kernel_rfl))
  refine bodyPost_ret (v := .tuple #[rowVal 17, .bool true]) ?_ rfl ?_
  · exact results_cell_tmp Try.results53 _ _ w.heap.size 99 (rowCells 17).toArray (0, 0) _ rfl (setRow_heap _ _ _ _ _ _ (hblk.out _)) Try.underlying99 rfl info26 _ rfl
  · exact ⟨rfl, hbelow.out _ _⟩

theorem word_at18 (w : World) : Calls Try.prog 58 #[.int .i64 18] w fun e w' => e = .returned (.string ⟨#[103, 101, 105]⟩) ∧ Below w.heap.size w w' := word_yes 18 (by decide) (by decide) w
set_option maxRecDepth 100000 in
set_option maxHeartbeats 1000000 in
theorem refinfo_18 (w : World) :
    Calls Try.prog 53 #[.int .u8 18] w fun e w' => e = .returned (.tuple #[rowVal 18, .bool true]) ∧ Below w.heap.size w w' := by
  have hz := zero26
  unfold zeroRow at *
  go_enter Try.func53, Try.ntmps53
  go_wp2_with fail
  refine (word_at18 _).mono ?_
  rintro e w1 ⟨rfl, hb⟩
  have hblk := Lib.hid (refinfo_blk hb)
  have hbelow := Lib.hid (refinfo_below hb)
  clear hb
  go_wp2_with (((with_reducible refine wpList_store_row (o := ⟨none, .store 99 (.tmp 2) (.tmp 114), _, _, _, none⟩) rfl 99 _ _ rfl w.heap.size (rowCells 18).toArray ?_ ?_ 99 _ (hblk.out _) ?_ ?_ ?_ ?_); rfl; kernel_rfl; exact info26; rfl; kernel_rfl))
  refine bodyPost_ret (v := .tuple #[rowVal 18, .bool true]) ?_ rfl ?_
  · exact results_cell_tmp Try.results53 _ _ w.heap.size 99 (rowCells 18).toArray (0, 0) _ rfl (setRow_heap _ _ _ _ _ _ (hblk.out _)) Try.underlying99 rfl info26 _ rfl
  · exact ⟨rfl, hbelow.out _ _⟩

theorem word_at19 (w : World) : Calls Try.prog 58 #[.int .i64 19] w fun e w' => e = .returned (.string ⟨#[108, 116, 117]⟩) ∧ Below w.heap.size w w' := word_yes 19 (by decide) (by decide) w
set_option maxRecDepth 100000 in
set_option maxHeartbeats 1000000 in
theorem refinfo_19 (w : World) :
    Calls Try.prog 53 #[.int .u8 19] w fun e w' => e = .returned (.tuple #[rowVal 19, .bool true]) ∧ Below w.heap.size w w' := by
  have hz := zero26
  unfold zeroRow at *
  go_enter Try.func53, Try.ntmps53
  go_wp2_with fail
  refine (word_at19 _).mono ?_
  rintro e w1 ⟨rfl, hb⟩
  have hblk := Lib.hid (refinfo_blk hb)
  have hbelow := Lib.hid (refinfo_below hb)
  clear hb
  go_wp2_with (((with_reducible refine wpList_store_row (o := ⟨none, .store 99 (.tmp 2) (.tmp 114), _, _, _, none⟩) rfl 99 _ _ rfl w.heap.size (rowCells 19).toArray ?_ ?_ 99 _ (hblk.out _) ?_ ?_ ?_ ?_); rfl; kernel_rfl; exact info26; rfl; kernel_rfl))
  refine bodyPost_ret (v := .tuple #[rowVal 19, .bool true]) ?_ rfl ?_
  · exact results_cell_tmp Try.results53 _ _ w.heap.size 99 (rowCells 19).toArray (0, 0) _ rfl (setRow_heap _ _ _ _ _ _ (hblk.out _)) Try.underlying99 rfl info26 _ rfl
  · exact ⟨rfl, hbelow.out _ _⟩

theorem word_at20 (w : World) : Calls Try.prog 58 #[.int .i64 20] w fun e w' => e = .returned (.string ⟨#[108, 101, 117]⟩) ∧ Below w.heap.size w w' := word_yes 20 (by decide) (by decide) w
set_option maxRecDepth 100000 in
set_option maxHeartbeats 1000000 in
theorem refinfo_20 (w : World) :
    Calls Try.prog 53 #[.int .u8 20] w fun e w' => e = .returned (.tuple #[rowVal 20, .bool true]) ∧ Below w.heap.size w w' := by
  have hz := zero26
  unfold zeroRow at *
  go_enter Try.func53, Try.ntmps53
  go_wp2_with fail
  refine (word_at20 _).mono ?_
  rintro e w1 ⟨rfl, hb⟩
  have hblk := Lib.hid (refinfo_blk hb)
  have hbelow := Lib.hid (refinfo_below hb)
  clear hb
  go_wp2_with (((with_reducible refine wpList_store_row (o := ⟨none, .store 99 (.tmp 2) (.tmp 114), _, _, _, none⟩) rfl 99 _ _ rfl w.heap.size (rowCells 20).toArray ?_ ?_ 99 _ (hblk.out _) ?_ ?_ ?_ ?_); rfl; kernel_rfl; exact info26; rfl; kernel_rfl))
  refine bodyPost_ret (v := .tuple #[rowVal 20, .bool true]) ?_ rfl ?_
  · exact results_cell_tmp Try.results53 _ _ w.heap.size 99 (rowCells 20).toArray (0, 0) _ rfl (setRow_heap _ _ _ _ _ _ (hblk.out _)) Try.underlying99 rfl info26 _ rfl
  · exact ⟨rfl, hbelow.out _ _⟩
end Go.Proofs.Ytofkamnmgpkehab
