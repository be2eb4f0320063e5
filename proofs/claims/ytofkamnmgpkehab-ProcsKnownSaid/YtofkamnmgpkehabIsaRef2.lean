import Derived.Test.YtofkamnmgpkehabIsaRefA
namespace Go.Proofs.Ytofkamnmgpkehab
open Go.RowKit

theorem word_at21 (w : World) : Calls Try.prog 58 #[.int .i64 21] w fun e w' => e = .returned (.string ⟨#[103, 116, 117]⟩) ∧ Below w.heap.size w w' := word_yes 21 (by decide) (by decide) w
set_option maxRecDepth 100000 in
set_option maxHeartbeats 1000000 in
theorem refinfo_21 (w : World) :
    Calls Try.prog 53 #[.int .u8 21] w fun e w' => e = .returned (.tuple #[rowVal 21, .bool true]) ∧ Below w.heap.size w w' := by
  have hz := zero26
  unfold zeroRow at *
  go_enter Try.func53, Try.ntmps53
  go_wp2_with fail
  refine (word_at21 _).mono ?_
  rintro e w1 ⟨rfl, hb⟩
  have hblk := Lib.hid (refinfo_blk hb)
  have hbelow := Lib.hid (refinfo_below hb)
  clear hb
  go_wp2_with (((with_reducible refine wpList_store_row (o := ⟨none, .store 99 (.tmp 2) (.tmp 114), _, _, _, none⟩) rfl 99 _ _ rfl w.heap.size (rowCells 21).toArray ?_ ?_ 99 _ (hblk.out _) ?_ ?_ ?_ ?_); rfl; kernel_rfl; exact info26; rfl; kernel_rfl))
  refine bodyPost_ret (v := .tuple #[rowVal 21, .bool true]) ?_ rfl ?_
  · exact results_cell_tmp Try.results53 _ _ w.heap.size 99 (rowCells 21).toArray (0, 0) _ rfl (setRow_heap _ _ _ _ _ _ (hblk.out _)) Try.underlying99 rfl info26 _ rfl
  · exact ⟨rfl, hbelow.out _ _⟩

theorem word_at22 (w : World) : Calls Try.prog 58 #[.int .i64 22] w fun e w' => e = .returned (.string ⟨#[103, 101, 117]⟩) ∧ Below w.heap.size w w' := word_yes 22 (by decide) (by decide) w
set_option maxRecDepth 100000 in
set_option maxHeartbeats 1000000 in
theorem refinfo_22 (w : World) :
    Calls Try.prog 53 #[.int .u8 22] w fun e w' => e = .returned (.tuple #[rowVal 22, .bool true]) ∧ Below w.heap.size w w' := by
  have hz := zero26
  unfold zeroRow at *
  go_enter Try.func53, Try.ntmps53
  go_wp2_with fail
  refine (word_at22 _).mono ?_
  rintro e w1 ⟨rfl, hb⟩
  have hblk := Lib.hid (refinfo_blk hb)
  have hbelow := Lib.hid (refinfo_below hb)
  clear hb
  go_wp2_with (((with_reducible refine wpList_store_row (o := ⟨none, .store 99 (.tmp 2) (.tmp 114), _, _, _, none⟩) rfl 99 _ _ rfl w.heap.size (rowCells 22).toArray ?_ ?_ 99 _ (hblk.out _) ?_ ?_ ?_ ?_); rfl; kernel_rfl; exact info26; rfl; kernel_rfl))
  refine bodyPost_ret (v := .tuple #[rowVal 22, .bool true]) ?_ rfl ?_
  · exact results_cell_tmp Try.results53 _ _ w.heap.size 99 (rowCells 22).toArray (0, 0) _ rfl (setRow_heap _ _ _ _ _ _ (hblk.out _)) Try.underlying99 rfl info26 _ rfl
  · exact ⟨rfl, hbelow.out _ _⟩

theorem word_at23 (w : World) : Calls Try.prog 58 #[.int .i64 23] w fun e w' => e = .returned (.string ⟨#[101, 113, 102]⟩) ∧ Below w.heap.size w w' := word_yes 23 (by decide) (by decide) w
set_option maxRecDepth 100000 in
set_option maxHeartbeats 1000000 in
theorem refinfo_23 (w : World) :
    Calls Try.prog 53 #[.int .u8 23] w fun e w' => e = .returned (.tuple #[rowVal 23, .bool true]) ∧ Below w.heap.size w w' := by
  have hz := zero26
  unfold zeroRow at *
  go_enter Try.func53, Try.ntmps53
  go_wp2_with fail
  refine (word_at23 _).mono ?_
  rintro e w1 ⟨rfl, hb⟩
  have hblk := Lib.hid (refinfo_blk hb)
  have hbelow := Lib.hid (refinfo_below hb)
  clear hb
  go_wp2_with (((with_reducible refine wpList_store_row (o := ⟨none, .store 99 (.tmp 2) (.tmp 114), _, _, _, none⟩) rfl 99 _ _ rfl w.heap.size (rowCells 23).toArray ?_ ?_ 99 _ (hblk.out _) ?_ ?_ ?_ ?_); rfl; kernel_rfl; exact info26; rfl; kernel_rfl))
  refine bodyPost_ret (v := .tuple #[rowVal 23, .bool true]) ?_ rfl ?_
  · exact results_cell_tmp Try.results53 _ _ w.heap.size 99 (rowCells 23).toArray (0, 0) _ rfl (setRow_heap _ _ _ _ _ _ (hblk.out _)) Try.underlying99 rfl info26 _ rfl
  · exact ⟨rfl, hbelow.out _ _⟩

theorem word_at24 (w : World) : Calls Try.prog 58 #[.int .i64 24] w fun e w' => e = .returned (.string ⟨#[110, 101, 102]⟩) ∧ Below w.heap.size w w' := word_yes 24 (by decide) (by decide) w
set_option maxRecDepth 100000 in
set_option maxHeartbeats 1000000 in
theorem refinfo_24 (w : World) :
    Calls Try.prog 53 #[.int .u8 24] w fun e w' => e = .returned (.tuple #[rowVal 24, .bool true]) ∧ Below w.heap.size w w' := by
  have hz := zero26
  unfold zeroRow at *
  go_enter Try.func53, Try.ntmps53
  go_wp2_with fail
  refine (word_at24 _).mono ?_
  rintro e w1 ⟨rfl, hb⟩
  have hblk := Lib.hid (refinfo_blk hb)
  have hbelow := Lib.hid (refinfo_below hb)
  clear hb
  go_wp2_with (((with_reducible refine wpList_store_row (o := ⟨none, .store 99 (.tmp 2) (.tmp 114), _, _, _, none⟩) rfl 99 _ _ rfl w.heap.size (rowCells 24).toArray ?_ ?_ 99 _ (hblk.out _) ?_ ?_ ?_ ?_); rfl; kernel_rfl; exact info26; rfl; kernel_rfl))
  refine bodyPost_ret (v := .tuple #[rowVal 24, .bool true]) ?_ rfl ?_
  · exact results_cell_tmp Try.results53 _ _ w.heap.size 99 (rowCells 24).toArray (0, 0) _ rfl (setRow_heap _ _ _ _ _ _ (hblk.out _)) Try.underlying99 rfl info26 _ rfl
  · exact ⟨rfl, hbelow.out _ _⟩

theorem word_at25 (w : World) : Calls Try.prog 58 #[.int .i64 25] w fun e w' => e = .returned (.string ⟨#[108, 116, 102]⟩) ∧ Below w.heap.size w w' := word_yes 25 (by decide) (by decide) w
set_option maxRecDepth 100000 in
set_option maxHeartbeats 1000000 in
theorem refinfo_25 (w : World) :
    Calls Try.prog 53 #[.int .u8 25] w fun e w' => e = .returned (.tuple #[rowVal 25, .bool true]) ∧ Below w.heap.size w w' := by
  have hz := zero26
  unfold zeroRow at *
  go_enter Try.func53, Try.ntmps53
  go_wp2_with fail
  refine (word_at25 _).mono ?_
  rintro e w1 ⟨rfl, hb⟩
  have hblk := Lib.hid (refinfo_blk hb)
  have hbelow := Lib.hid (refinfo_below hb)
  clear hb
  go_wp2_with (((with_reducible refine wpList_store_row (o := ⟨none, .store 99 (.tmp 2) (.tmp 114), _, _, _, none⟩) rfl 99 _ _ rfl w.heap.size (rowCells 25).toArray ?_ ?_ 99 _ (hblk.out _) ?_ ?_ ?_ ?_); rfl; kernel_rfl; exact info26; rfl; kernel_rfl))
  refine bodyPost_ret (v := .tuple #[rowVal 25, .bool true]) ?_ rfl ?_
  · exact results_cell_tmp Try.results53 _ _ w.heap.size 99 (rowCells 25).toArray (0, 0) _ rfl (setRow_heap _ _ _ _ _ _ (hblk.out _)) Try.underlying99 rfl info26 _ rfl
  · exact ⟨rfl, hbelow.out _ _⟩

theorem word_at26 (w : World) : Calls Try.prog 58 #[.int .i64 26] w fun e w' => e = .returned (.string ⟨#[108, 101, 102]⟩) ∧ Below w.heap.size w w' := word_yes 26 (by decide) (by decide) w
set_option maxRecDepth 100000 in
set_option maxHeartbeats 1000000 in
theorem refinfo_26 (w : World) :
    Calls Try.prog 53 #[.int .u8 26] w fun e w' => e = .returned (.tuple #[rowVal 26, .bool true]) ∧ Below w.heap.size w w' := by
  have hz := zero26
  unfold zeroRow at *
  go_enter Try.func53, Try.ntmps53
  go_wp2_with fail
  refine (word_at26 _).mono ?_
  rintro e w1 ⟨rfl, hb⟩
  have hblk := Lib.hid (refinfo_blk hb)
  have hbelow := Lib.hid (refinfo_below hb)
  clear hb
  go_wp2_with (((with_reducible refine wpList_store_row (o := ⟨none, .store 99 (.tmp 2) (.tmp 114), _, _, _, none⟩) rfl 99 _ _ rfl w.heap.size (rowCells 26).toArray ?_ ?_ 99 _ (hblk.out _) ?_ ?_ ?_ ?_); rfl; kernel_rfl; exact info26; rfl; kernel_rfl))
  refine bodyPost_ret (v := .tuple #[rowVal 26, .bool true]) ?_ rfl ?_
  · exact results_cell_tmp Try.results53 _ _ w.heap.size 99 (rowCells 26).toArray (0, 0) _ rfl (setRow_heap _ _ _ _ _ _ (hblk.out _)) Try.underlying99 rfl info26 _ rfl
  · exact ⟨rfl, hbelow.out _ _⟩

theorem word_at27 (w : World) : Calls Try.prog 58 #[.int .i64 27] w fun e w' => e = .returned (.string ⟨#[103, 116, 102]⟩) ∧ Below w.heap.size w w' := word_yes 27 (by decide) (by decide) w
set_option maxRecDepth 100000 in
set_option maxHeartbeats 1000000 in
theorem refinfo_27 (w : World) :
    Calls Try.prog 53 #[.int .u8 27] w fun e w' => e = .returned (.tuple #[rowVal 27, .bool true]) ∧ Below w.heap.size w w' := by
  have hz := zero26
  unfold zeroRow at *
  go_enter Try.func53, Try.ntmps53
  go_wp2_with fail
  refine (word_at27 _).mono ?_
  rintro e w1 ⟨rfl, hb⟩
  have hblk := Lib.hid (refinfo_blk hb)
  have hbelow := Lib.hid (refinfo_below hb)
  clear hb
  go_wp2_with (((with_reducible refine wpList_store_row (o := ⟨none, .store 99 (.tmp 2) (.tmp 114), _, _, _, none⟩) rfl 99 _ _ rfl w.heap.size (rowCells 27).toArray ?_ ?_ 99 _ (hblk.out _) ?_ ?_ ?_ ?_); rfl; kernel_rfl; exact info26; rfl; kernel_rfl))
  refine bodyPost_ret (v := .tuple #[rowVal 27, .bool true]) ?_ rfl ?_
  · exact results_cell_tmp Try.results53 _ _ w.heap.size 99 (rowCells 27).toArray (0, 0) _ rfl (setRow_heap _ _ _ _ _ _ (hblk.out _)) Try.underlying99 rfl info26 _ rfl
  · exact ⟨rfl, hbelow.out _ _⟩

theorem word_at28 (w : World) : Calls Try.prog 58 #[.int .i64 28] w fun e w' => e = .returned (.string ⟨#[103, 101, 102]⟩) ∧ Below w.heap.size w w' := word_yes 28 (by decide) (by decide) w
set_option maxRecDepth 100000 in
set_option maxHeartbeats 1000000 in
theorem refinfo_28 (w : World) :
    Calls Try.prog 53 #[.int .u8 28] w fun e w' => e = .returned (.tuple #[rowVal 28, .bool true]) ∧ Below w.heap.size w w' := by
  have hz := zero26
  unfold zeroRow at *
  go_enter Try.func53, Try.ntmps53
  go_wp2_with fail
  refine (word_at28 _).mono ?_
  rintro e w1 ⟨rfl, hb⟩
  have hblk := Lib.hid (refinfo_blk hb)
  have hbelow := Lib.hid (refinfo_below hb)
  clear hb
  go_wp2_with (((with_reducible refine wpList_store_row (o := ⟨none, .store 99 (.tmp 2) (.tmp 114), _, _, _, none⟩) rfl 99 _ _ rfl w.heap.size (rowCells 28).toArray ?_ ?_ 99 _ (hblk.out _) ?_ ?_ ?_ ?_); rfl; kernel_rfl; exact info26; rfl; kernel_rfl))
  refine bodyPost_ret (v := .tuple #[rowVal 28, .bool true]) ?_ rfl ?_
  · exact results_cell_tmp Try.results53 _ _ w.heap.size 99 (rowCells 28).toArray (0, 0) _ rfl (setRow_heap _ _ _ _ _ _ (hblk.out _)) Try.underlying99 rfl info26 _ rfl
  · exact ⟨rfl, hbelow.out _ _⟩

theorem word_at29 (w : World) : Calls Try.prog 58 #[.int .i64 29] w fun e w' => e = .returned (.string ⟨#[108, 111, 97, 100, 49]⟩) ∧ Below w.heap.size w w' := word_yes 29 (by decide) (by decide) w
set_option maxRecDepth 100000 in
set_option maxHeartbeats 1000000 in
theorem refinfo_29 (w : World) :
    Calls Try.prog 53 #[.int .u8 29] w fun e w' => e = .returned (.tuple #[rowVal 29, .bool true]) ∧ Below w.heap.size w w' := by
  have hz := zero26
  unfold zeroRow at *
  go_enter Try.func53, Try.ntmps53
  go_wp2_with fail
  refine (word_at29 _).mono ?_
  rintro e w1 ⟨rfl, hb⟩
  have hblk := Lib.hid (refinfo_blk hb)
  have hbelow := Lib.hid (refinfo_below hb)
  clear hb
  go_wp2_with (((with_reducible refine wpList_store_row (o := ⟨none, .store 99 (.tmp 2) (.tmp 114), _, _, _, none⟩) rfl 99 _ _ rfl w.heap.size (rowCells 29).toArray ?_ ?_ 99 _ (hblk.out _) ?_ ?_ ?_ ?_); rfl; kernel_rfl; exact info26; rfl; kernel_rfl))
  refine bodyPost_ret (v := .tuple #[rowVal 29, .bool true]) ?_ rfl ?_
  · exact results_cell_tmp Try.results53 _ _ w.heap.size 99 (rowCells 29).toArray (0, 0) _ rfl (setRow_heap _ _ _ _ _ _ (hblk.out _)) Try.underlying99 rfl info26 _ rfl
  · exact ⟨rfl, hbelow.out _ _⟩

theorem word_at30 (w : World) : Calls Try.prog 58 #[.int .i64 30] w fun e w' => e = .returned (.string ⟨#[108, 111, 97, 100, 50]⟩) ∧ Below w.heap.size w w' := word_yes 30 (by decide) (by decide) w
set_option maxRecDepth 100000 in
set_option maxHeartbeats 1000000 in
theorem refinfo_30 (w : World) :
    Calls Try.prog 53 #[.int .u8 30] w fun e w' => e = .returned (.tuple #[rowVal 30, .bool true]) ∧ Below w.heap.size w w' := by
  have hz := zero26
  unfold zeroRow at *
  go_enter Try.func53, Try.ntmps53
  go_wp2_with fail
  refine (word_at30 _).mono ?_
  rintro e w1 ⟨rfl, hb⟩
  have hblk := Lib.hid (refinfo_blk hb)
  have hbelow := Lib.hid (refinfo_below hb)
  clear hb
  go_wp2_with (((with_reducible refine wpList_store_row (o := ⟨none, .store 99 (.tmp 2) (.tmp 114), _, _, _, none⟩) rfl 99 _ _ rfl w.heap.size (rowCells 30).toArray ?_ ?_ 99 _ (hblk.out _) ?_ ?_ ?_ ?_); rfl; kernel_rfl; exact info26; rfl; kernel_rfl))
  refine bodyPost_ret (v := .tuple #[rowVal 30, .bool true]) ?_ rfl ?_
  · exact results_cell_tmp Try.results53 _ _ w.heap.size 99 (rowCells 30).toArray (0, 0) _ rfl (setRow_heap _ _ _ _ _ _ (hblk.out _)) Try.underlying99 rfl info26 _ rfl
  · exact ⟨rfl, hbelow.out _ _⟩

theorem word_at31 (w : World) : Calls Try.prog 58 #[.int .i64 31] w fun e w' => e = .returned (.string ⟨#[108, 111, 97, 100, 52]⟩) ∧ Below w.heap.size w w' := word_yes 31 (by decide) (by decide) w
set_option maxRecDepth 100000 in
set_option maxHeartbeats 1000000 in
theorem refinfo_31 (w : World) :
    Calls Try.prog 53 #[.int .u8 31] w fun e w' => e = .returned (.tuple #[rowVal 31, .bool true]) ∧ Below w.heap.size w w' := by
  have hz := zero26
  unfold zeroRow at *
  go_enter Try.func53, Try.ntmps53
  go_wp2_with fail
  refine (word_at31 _).mono ?_
  rintro e w1 ⟨rfl, hb⟩
  have hblk := Lib.hid (refinfo_blk hb)
  have hbelow := Lib.hid (refinfo_below hb)
  clear hb
  go_wp2_with (((with_reducible refine wpList_store_row (o := ⟨none, .store 99 (.tmp 2) (.tmp 114), _, _, _, none⟩) rfl 99 _ _ rfl w.heap.size (rowCells 31).toArray ?_ ?_ 99 _ (hblk.out _) ?_ ?_ ?_ ?_); rfl; kernel_rfl; exact info26; rfl; kernel_rfl))
  refine bodyPost_ret (v := .tuple #[rowVal 31, .bool true]) ?_ rfl ?_
  · exact results_cell_tmp Try.results53 _ _ w.heap.size 99 (rowCells 31).toArray (0, 0) _ rfl (setRow_heap _ _ _ _ _ _ (hblk.out _)) Try.underlying99 rfl info26 _ rfl
  · exact ⟨rfl, hbelow.out _ _⟩

theorem word_at32 (w : World) : Calls Try.prog 58 #[.int .i64 32] w fun e w' => e = .returned (.string ⟨#[115, 116, 111, 114, 101, 49]⟩) ∧ Below w.heap.size w w' := word_yes 32 (by decide) (by decide) w
set_option maxRecDepth 100000 in
set_option maxHeartbeats 1000000 in
theorem refinfo_32 (w : World) :
    Calls Try.prog 53 #[.int .u8 32] w fun e w' => e = .returned (.tuple #[rowVal 32, .bool true]) ∧ Below w.heap.size w w' := by
  have hz := zero26
  unfold zeroRow at *
  go_enter Try.func53, Try.ntmps53
  go_wp2_with fail
  refine (word_at32 _).mono ?_
  rintro e w1 ⟨rfl, hb⟩
  have hblk := Lib.hid (refinfo_blk hb)
  have hbelow := Lib.hid (refinfo_below hb)
  clear hb
  go_wp2_with (((with_reducible refine wpList_store_row (o := ⟨none, .store 99 (.tmp 2) (.tmp 114), _, _, _, none⟩) rfl 99 _ _ rfl w.heap.size (rowCells 32).toArray ?_ ?_ 99 _ (hblk.out _) ?_ ?_ ?_ ?_); rfl; kernel_rfl; exact info26; rfl; kernel_rfl))
  refine bodyPost_ret (v := .tuple #[rowVal 32, .bool true]) ?_ rfl ?_
  · exact results_cell_tmp Try.results53 _ _ w.heap.size 99 (rowCells 32).toArray (0, 0) _ rfl (setRow_heap _ _ _ _ _ _ (hblk.out _)) Try.underlying99 rfl info26 _ rfl
  · exact ⟨rfl, hbelow.out _ _⟩

theorem word_at33 (w : World) : Calls Try.prog 58 #[.int .i64 33] w fun e w' => e = .returned (.string ⟨#[115, 116, 111, 114, 101, 50]⟩) ∧ Below w.heap.size w w' := word_yes 33 (by decide) (by decide) w
set_option maxRecDepth 100000 in
set_option maxHeartbeats 1000000 in
theorem refinfo_33 (w : World) :
    Calls Try.prog 53 #[.int .u8 33] w fun e w' => e = .returned (.tuple #[rowVal 33, .bool true]) ∧ Below w.heap.size w w' := by
  have hz := zero26
  unfold zeroRow at *
  go_enter Try.func53, Try.ntmps53
  go_wp2_with fail
  refine (word_at33 _).mono ?_
  rintro e w1 ⟨rfl, hb⟩
  have hblk := Lib.hid (refinfo_blk hb)
  have hbelow := Lib.hid (refinfo_below hb)
  clear hb
  go_wp2_with (((with_reducible refine wpList_store_row (o := ⟨none, .store 99 (.tmp 2) (.tmp 114), _, _, _, none⟩) rfl 99 _ _ rfl w.heap.size (rowCells 33).toArray ?_ ?_ 99 _ (hblk.out _) ?_ ?_ ?_ ?_); rfl; kernel_rfl; exact info26; rfl; kernel_rfl))
  refine bodyPost_ret (v := .tuple #[rowVal 33, .bool true]) ?_ rfl ?_
  · exact results_cell_tmp Try.results53 _ _ w.heap.size 99 (rowCells 33).toArray (0, 0) _ rfl (setRow_heap _ _ _ _ _ _ (hblk.out _)) Try.underlying99 rfl info26 _ rfl
  · exact ⟨rfl, hbelow.out _ _⟩

theorem word_at34 (w : World) : Calls Try.prog 58 #[.int .i64 34] w fun e w' => e = .returned (.string ⟨#[115, 116, 111, 114, 101, 52]⟩) ∧ Below w.heap.size w w' := word_yes 34 (by decide) (by decide) w
set_option maxRecDepth 100000 in
set_option maxHeartbeats 1000000 in
theorem refinfo_34 (w : World) :
    Calls Try.prog 53 #[.int .u8 34] w fun e w' => e = .returned (.tuple #[rowVal 34, .bool true]) ∧ Below w.heap.size w w' := by
  have hz := zero26
  unfold zeroRow at *
  go_enter Try.func53, Try.ntmps53
  go_wp2_with fail
  refine (word_at34 _).mono ?_
  rintro e w1 ⟨rfl, hb⟩
  have hblk := Lib.hid (refinfo_blk hb)
  have hbelow := Lib.hid (refinfo_below hb)
  clear hb
  go_wp2_with (((with_reducible refine wpList_store_row (o := ⟨none, .store 99 (.tmp 2) (.tmp 114), _, _, _, none⟩) rfl 99 _ _ rfl w.heap.size (rowCells 34).toArray ?_ ?_ 99 _ (hblk.out _) ?_ ?_ ?_ ?_); rfl; kernel_rfl; exact info26; rfl; kernel_rfl))
  refine bodyPost_ret (v := .tuple #[rowVal 34, .bool true]) ?_ rfl ?_
  · exact results_cell_tmp Try.results53 _ _ w.heap.size 99 (rowCells 34).toArray (0, 0) _ rfl (setRow_heap _ _ _ _ _ _ (hblk.out _)) Try.underlying99 rfl info26 _ rfl
  · exact ⟨rfl, hbelow.out _ _⟩

theorem word_at35 (w : World) : Calls Try.prog 58 #[.int .i64 35] w fun e w' => e = .returned (.string ⟨#[99, 111, 112, 121]⟩) ∧ Below w.heap.size w w' := word_yes 35 (by decide) (by decide) w
set_option maxRecDepth 100000 in
set_option maxHeartbeats 1000000 in
theorem refinfo_35 (w : World) :
    Calls Try.prog 53 #[.int .u8 35] w fun e w' => e = .returned (.tuple #[rowVal 35, .bool true]) ∧ Below w.heap.size w w' := by
  have hz := zero26
  unfold zeroRow at *
  go_enter Try.func53, Try.ntmps53
  go_wp2_with fail
  refine (word_at35 _).mono ?_
  rintro e w1 ⟨rfl, hb⟩
  have hblk := Lib.hid (refinfo_blk hb)
  have hbelow := Lib.hid (refinfo_below hb)
  clear hb
  go_wp2_with (((with_reducible refine wpList_store_row (o := ⟨none, .store 99 (.tmp 2) (.tmp 114), _, _, _, none⟩) rfl 99 _ _ rfl w.heap.size (rowCells 35).toArray ?_ ?_ 99 _ (hblk.out _) ?_ ?_ ?_ ?_); rfl; kernel_rfl; exact info26; rfl; kernel_rfl))
  refine bodyPost_ret (v := .tuple #[rowVal 35, .bool true]) ?_ rfl ?_
  · exact results_cell_tmp Try.results53 _ _ w.heap.size 99 (rowCells 35).toArray (0, 0) _ rfl (setRow_heap _ _ _ _ _ _ (hblk.out _)) Try.underlying99 rfl info26 _ rfl
  · exact ⟨rfl, hbelow.out _ _⟩

theorem word_at36 (w : World) : Calls Try.prog 58 #[.int .i64 36] w fun e w' => e = .returned (.string ⟨#[115, 101, 120, 56]⟩) ∧ Below w.heap.size w w' := word_yes 36 (by decide) (by decide) w
set_option maxRecDepth 100000 in
set_option maxHeartbeats 1000000 in
theorem refinfo_36 (w : World) :
    Calls Try.prog 53 #[.int .u8 36] w fun e w' => e = .returned (.tuple #[rowVal 36, .bool true]) ∧ Below w.heap.size w w' := by
  have hz := zero26
  unfold zeroRow at *
  go_enter Try.func53, Try.ntmps53
  go_wp2_with fail
  refine (word_at36 _).mono ?_
  rintro e w1 ⟨rfl, hb⟩
  have hblk := Lib.hid (refinfo_blk hb)
  have hbelow := Lib.hid (refinfo_below hb)
  clear hb
  go_wp2_with (((with_reducible refine wpList_store_row (o := ⟨none, .store 99 (.tmp 2) (.tmp 114), _, _, _, none⟩) rfl 99 _ _ rfl w.heap.size (rowCells 36).toArray ?_ ?_ 99 _ (hblk.out _) ?_ ?_ ?_ ?_); rfl; kernel_rfl; exact info26; rfl; kernel_rfl))
  refine bodyPost_ret (v := .tuple #[rowVal 36, .bool true]) ?_ rfl ?_
  · exact results_cell_tmp Try.results53 _ _ w.heap.size 99 (rowCells 36).toArray (0, 0) _ rfl (setRow_heap _ _ _ _ _ _ (hblk.out _)) Try.underlying99 rfl info26 _ rfl
  · exact ⟨rfl, hbelow.out _ _⟩

theorem word_at37 (w : World) : Calls Try.prog 58 #[.int .i64 37] w fun e w' => e = .returned (.string ⟨#[115, 101, 120, 49, 54]⟩) ∧ Below w.heap.size w w' := word_yes 37 (by decide) (by decide) w
set_option maxRecDepth 100000 in
set_option maxHeartbeats 1000000 in
theorem refinfo_37 (w : World) :
    Calls Try.prog 53 #[.int .u8 37] w fun e w' => e = .returned (.tuple #[rowVal 37, .bool true]) ∧ Below w.heap.size w w' := by
  have hz := zero26
  unfold zeroRow at *
  go_enter Try.func53, Try.ntmps53
  go_wp2_with fail
  refine (word_at37 _).mono ?_
  rintro e w1 ⟨rfl, hb⟩
  have hblk := Lib.hid (refinfo_blk hb)
  have hbelow := Lib.hid (refinfo_below hb)
  clear hb
  go_wp2_with (((with_reducible refine wpList_store_row (o := ⟨none, .store 99 (.tmp 2) (.tmp 114), _, _, _, none⟩) rfl 99 _ _ rfl w.heap.size (rowCells 37).toArray ?_ ?_ 99 _ (hblk.out _) ?_ ?_ ?_ ?_); rfl; kernel_rfl; exact info26; rfl; kernel_rfl))
  refine bodyPost_ret (v := .tuple #[rowVal 37, .bool true]) ?_ rfl ?_
  · exact results_cell_tmp Try.results53 _ _ w.heap.size 99 (rowCells 37).toArray (0, 0) _ rfl (setRow_heap _ _ _ _ _ _ (hblk.out _)) Try.underlying99 rfl info26 _ rfl
  · exact ⟨rfl, hbelow.out _ _⟩

theorem word_at38 (w : World) : Calls Try.prog 58 #[.int .i64 38] w fun e w' => e = .returned (.string ⟨#[110, 101, 103]⟩) ∧ Below w.heap.size w w' := word_yes 38 (by decide) (by decide) w
set_option maxRecDepth 100000 in
set_option maxHeartbeats 1000000 in
theorem refinfo_38 (w : World) :
    Calls Try.prog 53 #[.int .u8 38] w fun e w' => e = .returned (.tuple #[rowVal 38, .bool true]) ∧ Below w.heap.size w w' := by
  have hz := zero26
  unfold zeroRow at *
  go_enter Try.func53, Try.ntmps53
  go_wp2_with fail
  refine (word_at38 _).mono ?_
  rintro e w1 ⟨rfl, hb⟩
  have hblk := Lib.hid (refinfo_blk hb)
  have hbelow := Lib.hid (refinfo_below hb)
  clear hb
  go_wp2_with (((with_reducible refine wpList_store_row (o := ⟨none, .store 99 (.tmp 2) (.tmp 114), _, _, _, none⟩) rfl 99 _ _ rfl w.heap.size (rowCells 38).toArray ?_ ?_ 99 _ (hblk.out _) ?_ ?_ ?_ ?_); rfl; kernel_rfl; exact info26; rfl; kernel_rfl))
  refine bodyPost_ret (v := .tuple #[rowVal 38, .bool true]) ?_ rfl ?_
  · exact results_cell_tmp Try.results53 _ _ w.heap.size 99 (rowCells 38).toArray (0, 0) _ rfl (setRow_heap _ _ _ _ _ _ (hblk.out _)) Try.underlying99 rfl info26 _ rfl
  · exact ⟨rfl, hbelow.out _ _⟩

theorem word_at39 (w : World) : Calls Try.prog 58 #[.int .i64 39] w fun e w' => e = .returned (.string ⟨#[97, 100, 100]⟩) ∧ Below w.heap.size w w' := word_yes 39 (by decide) (by decide) w
set_option maxRecDepth 100000 in
set_option maxHeartbeats 1000000 in
theorem refinfo_39 (w : World) :
    Calls Try.prog 53 #[.int .u8 39] w fun e w' => e = .returned (.tuple #[rowVal 39, .bool true]) ∧ Below w.heap.size w w' := by
  have hz := zero26
  unfold zeroRow at *
  go_enter Try.func53, Try.ntmps53
  go_wp2_with fail
  refine (word_at39 _).mono ?_
  rintro e w1 ⟨rfl, hb⟩
  have hblk := Lib.hid (refinfo_blk hb)
  have hbelow := Lib.hid (refinfo_below hb)
  clear hb
  go_wp2_with (((with_reducible refine wpList_store_row (o := ⟨none, .store 99 (.tmp 2) (.tmp 114), _, _, _, none⟩) rfl 99 _ _ rfl w.heap.size (rowCells 39).toArray ?_ ?_ 99 _ (hblk.out _) ?_ ?_ ?_ ?_); rfl; kernel_rfl; exact info26; rfl; kernel_rfl))
  refine bodyPost_ret (v := .tuple #[rowVal 39, .bool true]) ?_ rfl ?_
  · exact results_cell_tmp Try.results53 _ _ w.heap.size 99 (rowCells 39).toArray (0, 0) _ rfl (setRow_heap _ _ _ _ _ _ (hblk.out _)) Try.underlying99 rfl info26 _ rfl
  · exact ⟨rfl, hbelow.out _ _⟩

theorem word_at40 (w : World) : Calls Try.prog 58 #[.int .i64 40] w fun e w' => e = .returned (.string ⟨#[115, 117, 98]⟩) ∧ Below w.heap.size w w' := word_yes 40 (by decide) (by decide) w
set_option maxRecDepth 100000 in
set_option maxHeartbeats 1000000 in
theorem refinfo_40 (w : World) :
    Calls Try.prog 53 #[.int .u8 40] w fun e w' => e = .returned (.tuple #[rowVal 40, .bool true]) ∧ Below w.heap.size w w' := by
  have hz := zero26
  unfold zeroRow at *
  go_enter Try.func53, Try.ntmps53
  go_wp2_with fail
  refine (word_at40 _).mono ?_
  rintro e w1 ⟨rfl, hb⟩
  have hblk := Lib.hid (refinfo_blk hb)
  have hbelow := Lib.hid (refinfo_below hb)
  clear hb
  go_wp2_with (((with_reducible refine wpList_store_row (o := ⟨none, .store 99 (.tmp 2) (.tmp 114), _, _, _, none⟩) rfl 99 _ _ rfl w.heap.size (rowCells 40).toArray ?_ ?_ 99 _ (hblk.out _) ?_ ?_ ?_ ?_); rfl; kernel_rfl; exact info26; rfl; kernel_rfl))
  refine bodyPost_ret (v := .tuple #[rowVal 40, .bool true]) ?_ rfl ?_
  · exact results_cell_tmp Try.results53 _ _ w.heap.size 99 (rowCells 40).toArray (0, 0) _ rfl (setRow_heap _ _ _ _ _ _ (hblk.out _)) Try.underlying99 rfl info26 _ rfl
  · exact ⟨rfl, hbelow.out _ _⟩
end Go.Proofs.Ytofkamnmgpkehab
