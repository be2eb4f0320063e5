import Derived.Test.YtofkamnmgpkehabIsaWordRef
namespace Go.Proofs.Ytofkamnmgpkehab
open Go.RowKit
theorem refinfo_blk {w w1 : World} (hb : Below (w.alloc (.cells #[.string ⟨#[]⟩, .int .i64 0, .int .u32 0, .int .i64 0, .int .i64 0, .int .u8 0] 99)).heap.size (w.alloc (.cells #[.string ⟨#[]⟩, .int .i64 0, .int .u32 0, .int .i64 0, .int .i64 0, .int .u8 0] 99)) w1) (cs : Array Value) :
    (w1.alloc (.cells cs 99)).heap[w.heap.size]? = some (.cells #[.string ⟨#[]⟩, .int .i64 0, .int .u32 0, .int .i64 0, .int .i64 0, .int .u8 0] 99 (0, 0)) :=
  (Below.heap_alloc w1 (.cells cs 99) w.heap.size (by have := hb.size; simp at this; omega)).trans ((hb.block w.heap.size (by simp)).trans (heap_alloc_new w _))
theorem refinfo_below {w w1 : World} (hb : Below (w.alloc (.cells #[.string ⟨#[]⟩, .int .i64 0, .int .u32 0, .int .i64 0, .int .i64 0, .int .u8 0] 99)).heap.size (w.alloc (.cells #[.string ⟨#[]⟩, .int .i64 0, .int .u32 0, .int .i64 0, .int .i64 0, .int .u8 0] 99)) w1) (cs rs : Array Value) :
    Below w.heap.size w ((w1.alloc (.cells cs 99)).setRow w.heap.size rs) :=
  below_setRow ((((Below.refl _ w).alloc (Nat.le_refl _) _).trans (hb.mono (by simp))).alloc (by have := hb.size; simp at this; omega) (.cells cs 99)) w.heap.size (Nat.le_refl _) rs
set_option maxRecDepth 100000 in
set_option maxHeartbeats 400000 in
theorem refinfo_no (k : Nat) (hk : k < 1 ∨ 59 < k) (h2 : k < 256) (w : World) :
    Calls Try.prog 53 #[.int .u8 k] w fun e w' => e = .returned (.tuple #[zeroRow, .bool false]) ∧ Below w.heap.size w w' := by
  have hz := zero26
  unfold zeroRow at *
  rcases hk with hk | hk
  · go_enter Try.func53, Try.ntmps53
    go_wp2
    exact bodyPost_ret (v := .tuple #[zeroRow, .bool false]) (by simp [results, Try.results53, go_sem, zeroRow]) rfl ⟨rfl, (Below.refl _ _).alloc (Nat.le_refl _) _⟩
  · have hk' : ¬ (k < 1) := by omega
    go_enter Try.func53, Try.ntmps53
    go_wp2
    exact bodyPost_ret (v := .tuple #[zeroRow, .bool false]) (by simp [results, Try.results53, go_sem, zeroRow]) rfl ⟨rfl, (Below.refl _ _).alloc (Nat.le_refl _) _⟩
end Go.Proofs.Ytofkamnmgpkehab
