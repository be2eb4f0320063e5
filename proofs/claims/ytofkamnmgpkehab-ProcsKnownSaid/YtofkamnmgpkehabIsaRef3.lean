import Derived.Test.YtofkamnmgpkehabIsaRefA
namespace Go.Proofs.Ytofkamnmgpkehab
open Go.RowKit

theorem word_at41 (w : World) : Calls Try.prog 58 #[.int .i64 41] w fun e w' => e = .returned (.string ⟨#[109, 117, 108]⟩) ∧ Below w.heap.size w w' := word_yes 41 (by decide) (by decide) w
set_option maxRecDepth 100000 in
set_option maxHeartbeats 1000000 in
theorem refinfo_41 (w : World) :
    Calls Try.prog 53 #[.int .u8 41] w fun e w' => e = .returned (.tuple #[rowVal 41, .bool true]) ∧ Below w.heap.size w w' := by
  have hz := zero26
  unfold zeroRow at *
  go_enter Try.func53, Try.ntmps53
  go_wp2_with fail
  refine (word_at41 _).mono ?_
  rintro e w1 ⟨rfl, hb⟩
  have hblk := Lib.hid (refinfo_blk hb)
  have hbelow := Lib.hid (refinfo_below hb)
  clear hb
  go_wp2_with (((with_reducible refine wpList_store_row (o := ⟨none, .store 99 (.tmp 2) (.tmp 114), _, _, _, none⟩) rfl 99 _ _ rfl w.heap.size (rowCells 41).toArray ?_ ?_ 99 _ (hblk.out _) ?_ ?_ ?_ ?_); rfl; kernel_rfl; exact info26; rfl; kernel_rfl))
  refine bodyPost_ret (v := .tuple #[rowVal 41, .bool true]) ?_ rfl ?_
  · exact results_cell_tmp Try.results53 _ _ w.heap.size 99 (rowCells 41).toArray (0, 0) _ rfl (setRow_heap _ _ _ _ _ _ (hblk.out _)) Try.underlying99 rfl info26 _ rfl
  · exact ⟨rfl, hbelow.out _ _⟩

theorem word_at42 (w : World) : Calls Try.prog 58 #[.int .i64 42] w fun e w' => e = .returned (.string ⟨#[100, 105, 118, 105]⟩) ∧ Below w.heap.size w w' := word_yes 42 (by decide) (by decide) w
set_option maxRecDepth 100000 in
set_option maxHeartbeats 1000000 in
theorem refinfo_42 (w : World) :
    Calls Try.prog 53 #[.int .u8 42] w fun e w' => e = .returned (.tuple #[rowVal 42, .bool true]) ∧ Below w.heap.size w w' := by
  have hz := zero26
  unfold zeroRow at *
  go_enter Try.func53, Try.ntmps53
  go_wp2_with fail
  refine (word_at42 _).mono ?_
  rintro e w1 ⟨rfl, hb⟩
  have hblk := Lib.hid (refinfo_blk hb)
  have hbelow := Lib.hid (refinfo_below hb)
  clear hb
  go_wp2_with (((with_reducible refine wpList_store_row (o := ⟨none, .store 99 (.tmp 2) (.tmp 114), _, _, _, none⟩) rfl 99 _ _ rfl w.heap.size (rowCells 42).toArray ?_ ?_ 99 _ (hblk.out _) ?_ ?_ ?_ ?_); rfl; kernel_rfl; exact info26; rfl; kernel_rfl))
  refine bodyPost_ret (v := .tuple #[rowVal 42, .bool true]) ?_ rfl ?_
  · exact results_cell_tmp Try.results53 _ _ w.heap.size 99 (rowCells 42).toArray (0, 0) _ rfl (setRow_heap _ _ _ _ _ _ (hblk.out _)) Try.underlying99 rfl info26 _ rfl
  · exact ⟨rfl, hbelow.out _ _⟩

theorem word_at43 (w : World) : Calls Try.prog 58 #[.int .i64 43] w fun e w' => e = .returned (.string ⟨#[100, 105, 118, 117]⟩) ∧ Below w.heap.size w w' := word_yes 43 (by decide) (by decide) w
set_option maxRecDepth 100000 in
set_option maxHeartbeats 1000000 in
theorem refinfo_43 (w : World) :
    Calls Try.prog 53 #[.int .u8 43] w fun e w' => e = .returned (.tuple #[rowVal 43, .bool true]) ∧ Below w.heap.size w w' := by
  have hz := zero26
  unfold zeroRow at *
  go_enter Try.func53, Try.ntmps53
  go_wp2_with fail
  refine (word_at43 _).mono ?_
  rintro e w1 ⟨rfl, hb⟩
  have hblk := Lib.hid (refinfo_blk hb)
  have hbelow := Lib.hid (refinfo_below hb)
  clear hb
  go_wp2_with (((with_reducible refine wpList_store_row (o := ⟨none, .store 99 (.tmp 2) (.tmp 114), _, _, _, none⟩) rfl 99 _ _ rfl w.heap.size (rowCells 43).toArray ?_ ?_ 99 _ (hblk.out _) ?_ ?_ ?_ ?_); rfl; kernel_rfl; exact info26; rfl; kernel_rfl))
  refine bodyPost_ret (v := .tuple #[rowVal 43, .bool true]) ?_ rfl ?_
  · exact results_cell_tmp Try.results53 _ _ w.heap.size 99 (rowCells 43).toArray (0, 0) _ rfl (setRow_heap _ _ _ _ _ _ (hblk.out _)) Try.underlying99 rfl info26 _ rfl
  · exact ⟨rfl, hbelow.out _ _⟩

theorem word_at44 (w : World) : Calls Try.prog 58 #[.int .i64 44] w fun e w' => e = .returned (.string ⟨#[109, 111, 100, 105]⟩) ∧ Below w.heap.size w w' := word_yes 44 (by decide) (by decide) w
set_option maxRecDepth 100000 in
set_option maxHeartbeats 1000000 in
theorem refinfo_44 (w : World) :
    Calls Try.prog 53 #[.int .u8 44] w fun e w' => e = .returned (.tuple #[rowVal 44, .bool true]) ∧ Below w.heap.size w w' := by
  have hz := zero26
  unfold zeroRow at *
  go_enter Try.func53, Try.ntmps53
  go_wp2_with fail
  refine (word_at44 _).mono ?_
  rintro e w1 ⟨rfl, hb⟩
  have hblk := Lib.hid (refinfo_blk hb)
  have hbelow := Lib.hid (refinfo_below hb)
  clear hb
  go_wp2_with (((with_reducible refine wpList_store_row (o := ⟨none, .store 99 (.tmp 2) (.tmp 114), _, _, _, none⟩) rfl 99 _ _ rfl w.heap.size (rowCells 44).toArray ?_ ?_ 99 _ (hblk.out _) ?_ ?_ ?_ ?_); rfl; kernel_rfl; exact info26; rfl; kernel_rfl))
  refine bodyPost_ret (v := .tuple #[rowVal 44, .bool true]) ?_ rfl ?_
  · exact results_cell_tmp Try.results53 _ _ w.heap.size 99 (rowCells 44).toArray (0, 0) _ rfl (setRow_heap _ _ _ _ _ _ (hblk.out _)) Try.underlying99 rfl info26 _ rfl
  · exact ⟨rfl, hbelow.out _ _⟩

theorem word_at45 (w : World) : Calls Try.prog 58 #[.int .i64 45] w fun e w' => e = .returned (.string ⟨#[109, 111, 100, 117]⟩) ∧ Below w.heap.size w w' := word_yes 45 (by decide) (by decide) w
set_option maxRecDepth 100000 in
set_option maxHeartbeats 1000000 in
theorem refinfo_45 (w : World) :
    Calls Try.prog 53 #[.int .u8 45] w fun e w' => e = .returned (.tuple #[rowVal 45, .bool true]) ∧ Below w.heap.size w w' := by
  have hz := zero26
  unfold zeroRow at *
  go_enter Try.func53, Try.ntmps53
  go_wp2_with fail
  refine (word_at45 _).mono ?_
  rintro e w1 ⟨rfl, hb⟩
  have hblk := Lib.hid (refinfo_blk hb)
  have hbelow := Lib.hid (refinfo_below hb)
  clear hb
  go_wp2_with (((with_reducible refine wpList_store_row (o := ⟨none, .store 99 (.tmp 2) (.tmp 114), _, _, _, none⟩) rfl 99 _ _ rfl w.heap.size (rowCells 45).toArray ?_ ?_ 99 _ (hblk.out _) ?_ ?_ ?_ ?_); rfl; kernel_rfl; exact info26; rfl; kernel_rfl))
  refine bodyPost_ret (v := .tuple #[rowVal 45, .bool true]) ?_ rfl ?_
  · exact results_cell_tmp Try.results53 _ _ w.heap.size 99 (rowCells 45).toArray (0, 0) _ rfl (setRow_heap _ _ _ _ _ _ (hblk.out _)) Try.underlying99 rfl info26 _ rfl
  · exact ⟨rfl, hbelow.out _ _⟩

theorem word_at46 (w : World) : Calls Try.prog 58 #[.int .i64 46] w fun e w' => e = .returned (.string ⟨#[97, 110, 100]⟩) ∧ Below w.heap.size w w' := word_yes 46 (by decide) (by decide) w
set_option maxRecDepth 100000 in
set_option maxHeartbeats 1000000 in
theorem refinfo_46 (w : World) :
    Calls Try.prog 53 #[.int .u8 46] w fun e w' => e = .returned (.tuple #[rowVal 46, .bool true]) ∧ Below w.heap.size w w' := by
  have hz := zero26
  unfold zeroRow at *
  go_enter Try.func53, Try.ntmps53
  go_wp2_with fail
  refine (word_at46 _).mono ?_
  rintro e w1 ⟨rfl, hb⟩
  have hblk := Lib.hid (refinfo_blk hb)
  have hbelow := Lib.hid (refinfo_below hb)
  clear hb
  go_wp2_with (((with_reducible refine wpList_store_row (o := ⟨none, .store 99 (.tmp 2) (.tmp 114), _, _, _, none⟩) rfl 99 _ _ rfl w.heap.size (rowCells 46).toArray ?_ ?_ 99 _ (hblk.out _) ?_ ?_ ?_ ?_); rfl; kernel_rfl; exact info26; rfl; kernel_rfl))
  refine bodyPost_ret (v := .tuple #[rowVal 46, .bool true]) ?_ rfl ?_
  · exact results_cell_tmp Try.results53 _ _ w.heap.size 99 (rowCells 46).toArray (0, 0) _ rfl (setRow_heap _ _ _ _ _ _ (hblk.out _)) Try.underlying99 rfl info26 _ rfl
  · exact ⟨rfl, hbelow.out _ _⟩

theorem word_at47 (w : World) : Calls Try.prog 58 #[.int .i64 47] w fun e w' => e = .returned (.string ⟨#[111, 114]⟩) ∧ Below w.heap.size w w' := word_yes 47 (by decide) (by decide) w
set_option maxRecDepth 100000 in
set_option maxHeartbeats 1000000 in
theorem refinfo_47 (w : World) :
    Calls Try.prog 53 #[.int .u8 47] w fun e w' => e = .returned (.tuple #[rowVal 47, .bool true]) ∧ Below w.heap.size w w' := by
  have hz := zero26
  unfold zeroRow at *
  go_enter Try.func53, Try.ntmps53
  go_wp2_with fail
  refine (word_at47 _).mono ?_
  rintro e w1 ⟨rfl, hb⟩
  have hblk := Lib.hid (refinfo_blk hb)
  have hbelow := Lib.hid (refinfo_below hb)
  clear hb
  go_wp2_with (((with_reducible refine wpList_store_row (o := ⟨none, .store 99 (.tmp 2) (.tmp 114), _, _, _, none⟩) rfl 99 _ _ rfl w.heap.size (rowCells 47).toArray ?_ ?_ 99 _ (hblk.out _) ?_ ?_ ?_ ?_); rfl; kernel_rfl; exact info26; rfl; kernel_rfl))
  refine bodyPost_ret (v := .tuple #[rowVal 47, .bool true]) ?_ rfl ?_
  · exact results_cell_tmp Try.results53 _ _ w.heap.size 99 (rowCells 47).toArray (0, 0) _ rfl (setRow_heap _ _ _ _ _ _ (hblk.out _)) Try.underlying99 rfl info26 _ rfl
  · exact ⟨rfl, hbelow.out _ _⟩

theorem word_at48 (w : World) : Calls Try.prog 58 #[.int .i64 48] w fun e w' => e = .returned (.string ⟨#[120, 111, 114]⟩) ∧ Below w.heap.size w w' := word_yes 48 (by decide) (by decide) w
set_option maxRecDepth 100000 in
set_option maxHeartbeats 1000000 in
theorem refinfo_48 (w : World) :
    Calls Try.prog 53 #[.int .u8 48] w fun e w' => e = .returned (.tuple #[rowVal 48, .bool true]) ∧ Below w.heap.size w w' := by
  have hz := zero26
  unfold zeroRow at *
  go_enter Try.func53, Try.ntmps53
  go_wp2_with fail
  refine (word_at48 _).mono ?_
  rintro e w1 ⟨rfl, hb⟩
  have hblk := Lib.hid (refinfo_blk hb)
  have hbelow := Lib.hid (refinfo_below hb)
  clear hb
  go_wp2_with (((with_reducible refine wpList_store_row (o := ⟨none, .store 99 (.tmp 2) (.tmp 114), _, _, _, none⟩) rfl 99 _ _ rfl w.heap.size (rowCells 48).toArray ?_ ?_ 99 _ (hblk.out _) ?_ ?_ ?_ ?_); rfl; kernel_rfl; exact info26; rfl; kernel_rfl))
  refine bodyPost_ret (v := .tuple #[rowVal 48, .bool true]) ?_ rfl ?_
  · exact results_cell_tmp Try.results53 _ _ w.heap.size 99 (rowCells 48).toArray (0, 0) _ rfl (setRow_heap _ _ _ _ _ _ (hblk.out _)) Try.underlying99 rfl info26 _ rfl
  · exact ⟨rfl, hbelow.out _ _⟩

theorem word_at49 (w : World) : Calls Try.prog 58 #[.int .i64 49] w fun e w' => e = .returned (.string ⟨#[110, 111, 116]⟩) ∧ Below w.heap.size w w' := word_yes 49 (by decide) (by decide) w
set_option maxRecDepth 100000 in
set_option maxHeartbeats 1000000 in
theorem refinfo_49 (w : World) :
    Calls Try.prog 53 #[.int .u8 49] w fun e w' => e = .returned (.tuple #[rowVal 49, .bool true]) ∧ Below w.heap.size w w' := by
  have hz := zero26
  unfold zeroRow at *
  go_enter Try.func53, Try.ntmps53
  go_wp2_with fail
  refine (word_at49 _).mono ?_
  rintro e w1 ⟨rfl, hb⟩
  have hblk := Lib.hid (refinfo_blk hb)
  have hbelow := Lib.hid (refinfo_below hb)
  clear hb
  go_wp2_with (((with_reducible refine wpList_store_row (o := ⟨none, .store 99 (.tmp 2) (.tmp 114), _, _, _, none⟩) rfl 99 _ _ rfl w.heap.size (rowCells 49).toArray ?_ ?_ 99 _ (hblk.out _) ?_ ?_ ?_ ?_); rfl; kernel_rfl; exact info26; rfl; kernel_rfl))
  refine bodyPost_ret (v := .tuple #[rowVal 49, .bool true]) ?_ rfl ?_
  · exact results_cell_tmp Try.results53 _ _ w.heap.size 99 (rowCells 49).toArray (0, 0) _ rfl (setRow_heap _ _ _ _ _ _ (hblk.out _)) Try.underlying99 rfl info26 _ rfl
  · exact ⟨rfl, hbelow.out _ _⟩

theorem word_at50 (w : World) : Calls Try.prog 58 #[.int .i64 50] w fun e w' => e = .returned (.string ⟨#[115, 104, 108]⟩) ∧ Below w.heap.size w w' := word_yes 50 (by decide) (by decide) w
set_option maxRecDepth 100000 in
set_option maxHeartbeats 1000000 in
theorem refinfo_50 (w : World) :
    Calls Try.prog 53 #[.int .u8 50] w fun e w' => e = .returned (.tuple #[rowVal 50, .bool true]) ∧ Below w.heap.size w w' := by
  have hz := zero26
  unfold zeroRow at *
  go_enter Try.func53, Try.ntmps53
  go_wp2_with fail
  refine (word_at50 _).mono ?_
  rintro e w1 ⟨rfl, hb⟩
  have hblk := Lib.hid (refinfo_blk hb)
  have hbelow := Lib.hid (refinfo_below hb)
  clear hb
  go_wp2_with (((with_reducible refine wpList_store_row (o := ⟨none, .store 99 (.tmp 2) (.tmp 114), _, _, _, none⟩) rfl 99 _ _ rfl w.heap.size (rowCells 50).toArray ?_ ?_ 99 _ (hblk.out _) ?_ ?_ ?_ ?_); rfl; kernel_rfl; exact info26; rfl; kernel_rfl))
  refine bodyPost_ret (v := .tuple #[rowVal 50, .bool true]) ?_ rfl ?_
  · exact results_cell_tmp Try.results53 _ _ w.heap.size 99 (rowCells 50).toArray (0, 0) _ rfl (setRow_heap _ _ _ _ _ _ (hblk.out _)) Try.underlying99 rfl info26 _ rfl
  · exact ⟨rfl, hbelow.out _ _⟩

theorem word_at51 (w : World) : Calls Try.prog 58 #[.int .i64 51] w fun e w' => e = .returned (.string ⟨#[115, 104, 114, 105]⟩) ∧ Below w.heap.size w w' := word_yes 51 (by decide) (by decide) w
set_option maxRecDepth 100000 in
set_option maxHeartbeats 1000000 in
theorem refinfo_51 (w : World) :
    Calls Try.prog 53 #[.int .u8 51] w fun e w' => e = .returned (.tuple #[rowVal 51, .bool true]) ∧ Below w.heap.size w w' := by
  have hz := zero26
  unfold zeroRow at *
  go_enter Try.func53, Try.ntmps53
  go_wp2_with fail
  refine (word_at51 _).mono ?_
  rintro e w1 ⟨rfl, hb⟩
  have hblk := Lib.hid (refinfo_blk hb)
  have hbelow := Lib.hid (refinfo_below hb)
  clear hb
  go_wp2_with (((with_reducible refine wpList_store_row (o := ⟨none, .store 99 (.tmp 2) (.tmp 114), _, _, _, none⟩) rfl 99 _ _ rfl w.heap.size (rowCells 51).toArray ?_ ?_ 99 _ (hblk.out _) ?_ ?_ ?_ ?_); rfl; kernel_rfl; exact info26; rfl; kernel_rfl))
  refine bodyPost_ret (v := .tuple #[rowVal 51, .bool true]) ?_ rfl ?_
  · exact results_cell_tmp Try.results53 _ _ w.heap.size 99 (rowCells 51).toArray (0, 0) _ rfl (setRow_heap _ _ _ _ _ _ (hblk.out _)) Try.underlying99 rfl info26 _ rfl
  · exact ⟨rfl, hbelow.out _ _⟩

theorem word_at52 (w : World) : Calls Try.prog 58 #[.int .i64 52] w fun e w' => e = .returned (.string ⟨#[115, 104, 114, 117]⟩) ∧ Below w.heap.size w w' := word_yes 52 (by decide) (by decide) w
set_option maxRecDepth 100000 in
set_option maxHeartbeats 1000000 in
theorem refinfo_52 (w : World) :
    Calls Try.prog 53 #[.int .u8 52] w fun e w' => e = .returned (.tuple #[rowVal 52, .bool true]) ∧ Below w.heap.size w w' := by
  have hz := zero26
  unfold zeroRow at *
  go_enter Try.func53, Try.ntmps53
  go_wp2_with fail
  refine (word_at52 _).mono ?_
  rintro e w1 ⟨rfl, hb⟩
  have hblk := Lib.hid (refinfo_blk hb)
  have hbelow := Lib.hid (refinfo_below hb)
  clear hb
  go_wp2_with (((with_reducible refine wpList_store_row (o := ⟨none, .store 99 (.tmp 2) (.tmp 114), _, _, _, none⟩) rfl 99 _ _ rfl w.heap.size (rowCells 52).toArray ?_ ?_ 99 _ (hblk.out _) ?_ ?_ ?_ ?_); rfl; kernel_rfl; exact info26; rfl; kernel_rfl))
  refine bodyPost_ret (v := .tuple #[rowVal 52, .bool true]) ?_ rfl ?_
  · exact results_cell_tmp Try.results53 _ _ w.heap.size 99 (rowCells 52).toArray (0, 0) _ rfl (setRow_heap _ _ _ _ _ _ (hblk.out _)) Try.underlying99 rfl info26 _ rfl
  · exact ⟨rfl, hbelow.out _ _⟩

theorem word_at53 (w : World) : Calls Try.prog 58 #[.int .i64 53] w fun e w' => e = .returned (.string ⟨#[110, 101, 103, 102]⟩) ∧ Below w.heap.size w w' := word_yes 53 (by decide) (by decide) w
set_option maxRecDepth 100000 in
set_option maxHeartbeats 1000000 in
theorem refinfo_53 (w : World) :
    Calls Try.prog 53 #[.int .u8 53] w fun e w' => e = .returned (.tuple #[rowVal 53, .bool true]) ∧ Below w.heap.size w w' := by
  have hz := zero26
  unfold zeroRow at *
  go_enter Try.func53, Try.ntmps53
  go_wp2_with fail
  refine (word_at53 _).mono ?_
  rintro e w1 ⟨rfl, hb⟩
  have hblk := Lib.hid (refinfo_blk hb)
  have hbelow := Lib.hid (refinfo_below hb)
  clear hb
  go_wp2_with (((with_reducible refine wpList_store_row (o := ⟨none, .store 99 (.tmp 2) (.tmp 114), _, _, _, none⟩) rfl 99 _ _ rfl w.heap.size (rowCells 53).toArray ?_ ?_ 99 _ (hblk.out _) ?_ ?_ ?_ ?_); rfl; kernel_rfl; exact info26; rfl; kernel_rfl))
  refine bodyPost_ret (v := .tuple #[rowVal 53, .bool true]) ?_ rfl ?_
  · exact results_cell_tmp Try.results53 _ _ w.heap.size 99 (rowCells 53).toArray (0, 0) _ rfl (setRow_heap _ _ _ _ _ _ (hblk.out _)) Try.underlying99 rfl info26 _ rfl
  · exact ⟨rfl, hbelow.out _ _⟩

theorem word_at54 (w : World) : Calls Try.prog 58 #[.int .i64 54] w fun e w' => e = .returned (.string ⟨#[97, 100, 100, 102]⟩) ∧ Below w.heap.size w w' := word_yes 54 (by decide) (by decide) w
set_option maxRecDepth 100000 in
set_option maxHeartbeats 1000000 in
theorem refinfo_54 (w : World) :
    Calls Try.prog 53 #[.int .u8 54] w fun e w' => e = .returned (.tuple #[rowVal 54, .bool true]) ∧ Below w.heap.size w w' := by
  have hz := zero26
  unfold zeroRow at *
  go_enter Try.func53, Try.ntmps53
  go_wp2_with fail
  refine (word_at54 _).mono ?_
  rintro e w1 ⟨rfl, hb⟩
  have hblk := Lib.hid (refinfo_blk hb)
  have hbelow := Lib.hid (refinfo_below hb)
  clear hb
  go_wp2_with (((with_reducible refine wpList_store_row (o := ⟨none, .store 99 (.tmp 2) (.tmp 114), _, _, _, none⟩) rfl 99 _ _ rfl w.heap.size (rowCells 54).toArray ?_ ?_ 99 _ (hblk.out _) ?_ ?_ ?_ ?_); rfl; kernel_rfl; exact info26; rfl; kernel_rfl))
  refine bodyPost_ret (v := .tuple #[rowVal 54, .bool true]) ?_ rfl ?_
  · exact results_cell_tmp Try.results53 _ _ w.heap.size 99 (rowCells 54).toArray (0, 0) _ rfl (setRow_heap _ _ _ _ _ _ (hblk.out _)) Try.underlying99 rfl info26 _ rfl
  · exact ⟨rfl, hbelow.out _ _⟩

theorem word_at55 (w : World) : Calls Try.prog 58 #[.int .i64 55] w fun e w' => e = .returned (.string ⟨#[115, 117, 98, 102]⟩) ∧ Below w.heap.size w w' := word_yes 55 (by decide) (by decide) w
set_option maxRecDepth 100000 in
set_option maxHeartbeats 1000000 in
theorem refinfo_55 (w : World) :
    Calls Try.prog 53 #[.int .u8 55] w fun e w' => e = .returned (.tuple #[rowVal 55, .bool true]) ∧ Below w.heap.size w w' := by
  have hz := zero26
  unfold zeroRow at *
  go_enter Try.func53, Try.ntmps53
  go_wp2_with fail
  refine (word_at55 _).mono ?_
  rintro e w1 ⟨rfl, hb⟩
  have hblk := Lib.hid (refinfo_blk hb)
  have hbelow := Lib.hid (refinfo_below hb)
  clear hb
  go_wp2_with (((with_reducible refine wpList_store_row (o := ⟨none, .store 99 (.tmp 2) (.tmp 114), _, _, _, none⟩) rfl 99 _ _ rfl w.heap.size (rowCells 55).toArray ?_ ?_ 99 _ (hblk.out _) ?_ ?_ ?_ ?_); rfl; kernel_rfl; exact info26; rfl; kernel_rfl))
  refine bodyPost_ret (v := .tuple #[rowVal 55, .bool true]) ?_ rfl ?_
  · exact results_cell_tmp Try.results53 _ _ w.heap.size 99 (rowCells 55).toArray (0, 0) _ rfl (setRow_heap _ _ _ _ _ _ (hblk.out _)) Try.underlying99 rfl info26 _ rfl
  · exact ⟨rfl, hbelow.out _ _⟩

theorem word_at56 (w : World) : Calls Try.prog 58 #[.int .i64 56] w fun e w' => e = .returned (.string ⟨#[109, 117, 108, 102]⟩) ∧ Below w.heap.size w w' := word_yes 56 (by decide) (by decide) w
set_option maxRecDepth 100000 in
set_option maxHeartbeats 1000000 in
theorem refinfo_56 (w : World) :
    Calls Try.prog 53 #[.int .u8 56] w fun e w' => e = .returned (.tuple #[rowVal 56, .bool true]) ∧ Below w.heap.size w w' := by
  have hz := zero26
  unfold zeroRow at *
  go_enter Try.func53, Try.ntmps53
  go_wp2_with fail
  refine (word_at56 _).mono ?_
  rintro e w1 ⟨rfl, hb⟩
  have hblk := Lib.hid (refinfo_blk hb)
  have hbelow := Lib.hid (refinfo_below hb)
  clear hb
  go_wp2_with (((with_reducible refine wpList_store_row (o := ⟨none, .store 99 (.tmp 2) (.tmp 114), _, _, _, none⟩) rfl 99 _ _ rfl w.heap.size (rowCells 56).toArray ?_ ?_ 99 _ (hblk.out _) ?_ ?_ ?_ ?_); rfl; kernel_rfl; exact info26; rfl; kernel_rfl))
  refine bodyPost_ret (v := .tuple #[rowVal 56, .bool true]) ?_ rfl ?_
  · exact results_cell_tmp Try.results53 _ _ w.heap.size 99 (rowCells 56).toArray (0, 0) _ rfl (setRow_heap _ _ _ _ _ _ (hblk.out _)) Try.underlying99 rfl info26 _ rfl
  · exact ⟨rfl, hbelow.out _ _⟩

theorem word_at57 (w : World) : Calls Try.prog 58 #[.int .i64 57] w fun e w' => e = .returned (.string ⟨#[100, 105, 118, 102]⟩) ∧ Below w.heap.size w w' := word_yes 57 (by decide) (by decide) w
set_option maxRecDepth 100000 in
set_option maxHeartbeats 1000000 in
theorem refinfo_57 (w : World) :
    Calls Try.prog 53 #[.int .u8 57] w fun e w' => e = .returned (.tuple #[rowVal 57, .bool true]) ∧ Below w.heap.size w w' := by
  have hz := zero26
  unfold zeroRow at *
  go_enter Try.func53, Try.ntmps53
  go_wp2_with fail
  refine (word_at57 _).mono ?_
  rintro e w1 ⟨rfl, hb⟩
  have hblk := Lib.hid (refinfo_blk hb)
  have hbelow := Lib.hid (refinfo_below hb)
  clear hb
  go_wp2_with (((with_reducible refine wpList_store_row (o := ⟨none, .store 99 (.tmp 2) (.tmp 114), _, _, _, none⟩) rfl 99 _ _ rfl w.heap.size (rowCells 57).toArray ?_ ?_ 99 _ (hblk.out _) ?_ ?_ ?_ ?_); rfl; kernel_rfl; exact info26; rfl; kernel_rfl))
  refine bodyPost_ret (v := .tuple #[rowVal 57, .bool true]) ?_ rfl ?_
  · exact results_cell_tmp Try.results53 _ _ w.heap.size 99 (rowCells 57).toArray (0, 0) _ rfl (setRow_heap _ _ _ _ _ _ (hblk.out _)) Try.underlying99 rfl info26 _ rfl
  · exact ⟨rfl, hbelow.out _ _⟩

theorem word_at58 (w : World) : Calls Try.prog 58 #[.int .i64 58] w fun e w' => e = .returned (.string ⟨#[99, 118, 105, 102]⟩) ∧ Below w.heap.size w w' := word_yes 58 (by decide) (by decide) w
set_option maxRecDepth 100000 in
set_option maxHeartbeats 1000000 in
theorem refinfo_58 (w : World) :
    Calls Try.prog 53 #[.int .u8 58] w fun e w' => e = .returned (.tuple #[rowVal 58, .bool true]) ∧ Below w.heap.size w w' := by
  have hz := zero26
  unfold zeroRow at *
  go_enter Try.func53, Try.ntmps53
  go_wp2_with fail
  refine (word_at58 _).mono ?_
  rintro e w1 ⟨rfl, hb⟩
  have hblk := Lib.hid (refinfo_blk hb)
  have hbelow := Lib.hid (refinfo_below hb)
  clear hb
  go_wp2_with (((with_reducible refine wpList_store_row (o := ⟨none, .store 99 (.tmp 2) (.tmp 114), _, _, _, none⟩) rfl 99 _ _ rfl w.heap.size (rowCells 58).toArray ?_ ?_ 99 _ (hblk.out _) ?_ ?_ ?_ ?_); rfl; kernel_rfl; exact info26; rfl; kernel_rfl))
  refine bodyPost_ret (v := .tuple #[rowVal 58, .bool true]) ?_ rfl ?_
  · exact results_cell_tmp Try.results53 _ _ w.heap.size 99 (rowCells 58).toArray (0, 0) _ rfl (setRow_heap _ _ _ _ _ _ (hblk.out _)) Try.underlying99 rfl info26 _ rfl
  · exact ⟨rfl, hbelow.out _ _⟩

theorem word_at59 (w : World) : Calls Try.prog 58 #[.int .i64 59] w fun e w' => e = .returned (.string ⟨#[99, 118, 102, 105]⟩) ∧ Below w.heap.size w w' := word_yes 59 (by decide) (by decide) w
set_option maxRecDepth 100000 in
set_option maxHeartbeats 1000000 in
theorem refinfo_59 (w : World) :
    Calls Try.prog 53 #[.int .u8 59] w fun e w' => e = .returned (.tuple #[rowVal 59, .bool true]) ∧ Below w.heap.size w w' := by
  have hz := zero26
  unfold zeroRow at *
  go_enter Try.func53, Try.ntmps53
  go_wp2_with fail
  refine (word_at59 _).mono ?_
  rintro e w1 ⟨rfl, hb⟩
  have hblk := Lib.hid (refinfo_blk hb)
  have hbelow := Lib.hid (refinfo_below hb)
  clear hb
  go_wp2_with (((with_reducible refine wpList_store_row (o := ⟨none, .store 99 (.tmp 2) (.tmp 114), _, _, _, none⟩) rfl 99 _ _ rfl w.heap.size (rowCells 59).toArray ?_ ?_ 99 _ (hblk.out _) ?_ ?_ ?_ ?_); rfl; kernel_rfl; exact info26; rfl; kernel_rfl))
  refine bodyPost_ret (v := .tuple #[rowVal 59, .bool true]) ?_ rfl ?_
  · exact results_cell_tmp Try.results53 _ _ w.heap.size 99 (rowCells 59).toArray (0, 0) _ rfl (setRow_heap _ _ _ _ _ _ (hblk.out _)) Try.underlying99 rfl info26 _ rfl
  · exact ⟨rfl, hbelow.out _ _⟩
end Go.Proofs.Ytofkamnmgpkehab
