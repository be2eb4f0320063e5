import Derived.Test.YtofkamnmgpkehaaDoorSet2
import Derived.Test.YtofkamnmgpkehaaDoorOwnB
import Derived.Lib.Walk
import Derived.Lib.LazyBuf
/- All: the clone, the iterator. -/
namespace Go.Proofs.YtofkamnmgpkehaaDoor
open Go.RowKit
attribute [local go_sem] Oper.semAt_some
theorem encN_one (k : IntKind) (l : List Nat) : ∀ u ∈ encN k l, u.oneCell' = true := by
  intro u h
  obtain ⟨x, _, rfl⟩ := List.mem_map.1 h
  rfl
theorem run_bs65_0 (w : World) : (Instr.buildSlice 65 0 #[]).run Tryd.prog w = .ok (.slice (some ⟨w.heap.size, 0, none⟩) 0 0) (w.alloc (.cells #[] 78)) := by kernel_rfl
theorem own_empty (w : World) (t : TypeId) (sz : Nat) : (w.alloc (.cells #[] t)).ownsRow 0 t sz (.slice (some ⟨w.heap.size, 0, none⟩) 0 0) 0 [] :=
  ⟨by simp, .inr ⟨w.heap.size, 0, #[], rfl, Nat.zero_le _, World.alloc_heap_new w _, Nat.le_refl _, Nat.zero_le _, by simp, by simp⟩⟩
set_option maxRecDepth 100000 in
set_option maxHeartbeats 1000000 in
theorem clone64_any (u : Value) (l : List Nat) (hl : l.length ≤ 16384) (w : World) (hu : Reads w 1 u l.length (encN .u64 l)) :
    Calls Tryd.prog 46 #[u] w fun e w' => ∃ v, e = .returned v ∧ w'.ownsRow w.heap.size 78 1 v l.length (encN .u64 l) ∧ Below w.heap.size w w' := by
  obtain ⟨i0, hi, hz0, hz1, hz2⟩ := info_parts info78
  have hb := run_bs65_0
  have q65 : ∀ (w : World) (a : Option Addr) (n c n' c' : Nat), (binOp .eql 65 (.slice a n c) (.slice none n' c')).run Tryd.prog w = .ok (.bool a.isNone) w := fun w a n c n' c' => Lib.run_eql_slice_nil w _ _ a n c n' c' Tryd.underlying65
  obtain ⟨a, cap, rfl, h1, h2, h3, hn, hp⟩ := hu
  cases a with
  | none =>
    obtain rfl := hn rfl
    have h0 : l.length = 0 := by omega
    obtain rfl : l = [] := List.eq_nil_of_length_eq_zero h0
    clear hp hn h1
    go_enter Tryd.func46, Tryd.ntmps46
    go_wp2
    exact bodyPost_ret (v := .slice none 0 0) (by simp [results, Tryd.results46, go_sem]) rfl ⟨_, rfl, World.ownsRow_nil _ _ _ _, Below.refl _ _⟩
  | some ad =>
    have Hu := Lib.hid (show Reads (w.alloc (.cells #[] 78)) 1 (.slice (some ad) l.length cap) l.length (encN .u64 l) from Reads.below ⟨some ad, cap, rfl, h1, h2, h3, hn, hp⟩ (Bel.new _ _))
    have Hone := Lib.hid (encN_one .u64 l)
    have Hoe := Lib.hid (own_empty w 78 1)
    clear hp hn h1
    go_enter Tryd.func46, Tryd.ntmps46
    go_wp2_with ((with_reducible refine wpList_append_reads (o := ⟨some 7, .call { callee := .builtin .append, args := #[.tmp 5, .tmp 6], argTypes := #[65, 65] }, _, _, _, none⟩) rfl _ _ 65 rfl 78 i0 (.int .u64 0) 1 8 Tryd.underlying65 hi hz0 hz1 hz2 ?_ ?_ _ 0 [] ?_ Hoe.out _ l.length (encN .u64 l) ?_ Hu.out Hone.out ?_ ?_ ?_); rfl; decide; rfl; rfl; (unfold maxLen; omega); omega; intro v1 w1 o1 g1)
    have hx : w1.ownsRow w.heap.size 78 1 v1 l.length (encN .u64 l) := by
      have := own_from o1 (B := w.heap.size) (fun g e => by
        rcases g1.2 g e with h' | h'
        · cases h'; exact Nat.le_refl _
        · simp at h'; omega)
      simpa using this
    have hbw : Below w.heap.size w w1 := (Bel.new w (.cells #[] 78)).grown g1.1 (by simp) (fun g e => by cases e; exact Nat.le_refl _)
    exact bodyPost_ret (v := v1) (by simp [results, Tryd.results46, go_sem]) rfl ⟨_, rfl, hx, hbw⟩
/-- The table of math/bits. -/
def TabAt (w : World) : Prop := ∀ j, j < 64 → w.cell? ⟨0, j, none⟩ = some (.int .u8 (Lib.deBruijn64tab.getD j 0))
theorem TabAt.below {w W : World} (h : TabAt w) (hb : Below w.heap.size w W) : TabAt W := fun j hj => (hb.cell (p := ⟨0, j, none⟩) (World.block_lt_of_cell? _ _ (h j hj))).trans (h j hj)
theorem tz_key (x a : Nat) (hx : x < 18446744073709551616) (hx0 : x ≠ 0) (hlow : x &&& (18446744073709551616 - x) = a) :
    IntKind.u64.wrap (bits BinOp.and IntKind.u64 (x : Int) (IntKind.u64.wrap (-(x : Int))) * 285870213051353865) / 288230376151711744 = ((a * 285870213051353865 % 18446744073709551616 / 288230376151711744 : Nat) : Int) := by
  have e1 : IntKind.u64.wrap (-(x : Int)) = ((18446744073709551616 - x : Nat) : Int) := by rw [IntKind.wrap_u64]; omega
  rw [e1, bits_and_u64_nat x _ hx (by omega), hlow, IntKind.wrap_u64]
  omega
set_option maxRecDepth 100000 in
set_option maxHeartbeats 1000000 in
theorem ctz_core (x k idx : Nat) (w : World) (hx0 : ((x : Int) == 0) = false)
    (key : IntKind.u64.wrap (bits BinOp.and IntKind.u64 (x : Int) (IntKind.u64.wrap (-(x : Int))) * 285870213051353865) / 288230376151711744 = (idx : Int))
    (hi : idx < 64) (hk : k < 64) (hcell : w.cell? ⟨0, idx, none⟩ = some (.int .u8 k)) :
    Calls Tryd.prog 48 #[.int .u64 x] w fun e w' => e = .returned (.int .i64 k) ∧ w' = w := by
  go_enter Tryd.func48, Tryd.ntmps48
  go_wp2_with (simp only [key])
  go_ret
  exact ⟨rfl, rfl⟩
theorem ctz_any (x : Nat) (hx : x < 18446744073709551616) (hx0 : x ≠ 0) (w : World) (hT : TabAt w) : Calls Tryd.prog 48 #[.int .u64 x] w fun e w' => e = .returned (.int .i64 (Lib.ctz 64 x)) ∧ w' = w := by
  obtain ⟨hlow, hk⟩ := Lib.lowest_bit 64 x hx0 hx
  obtain ⟨hi, htab⟩ := Lib.deBruijn64_at _ hk
  have hcell := hT _ hi
  rw [htab] at hcell
  exact ctz_core x _ _ w (by simp; omega) (tz_key x _ hx hx0 hlow) hi hk hcell
end Go.Proofs.YtofkamnmgpkehaaDoor
