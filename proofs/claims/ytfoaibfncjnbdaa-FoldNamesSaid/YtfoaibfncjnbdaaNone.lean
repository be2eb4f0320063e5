import Derived.Test.YtfoaibfncjnbdaaAwake
/- Pieces of a module that is none. -/
namespace Go.Proofs.Ytfoaibfncjnbdaa
open Go.RowKit
set_option maxRecDepth 100000 in
set_option maxHeartbeats 1000000 in
theorem pieces_nil (w : World) : Calls Try.prog 13 #[.pointer none] w fun e w' => e = .returned (.tuple #[.slice none 0 0, .int .i64 1]) ∧ Below w.heap.size w w' := by
  go_enter Try.func13, Try.ntmps13
  go_wp2
  go_ret2
  exact ⟨rfl, Bel.new _ _⟩
set_option maxRecDepth 100000 in
set_option maxHeartbeats 1000000 in
theorem pieces_zero (b : Nat) (w : World) (hc : w.cell? ⟨b, 0, none⟩ = some (.pointer none)) : Calls Try.prog 13 #[.pointer (some ⟨b, 0, none⟩)] w fun e w' => e = .returned (.tuple #[.slice none 0 0, .int .i64 1]) ∧ Below w.heap.size w w' := by
  go_enter Try.func13, Try.ntmps13
  go_wp2
  go_ret2
  exact ⟨rfl, Bel.new _ _⟩
def askR (l : List (Nat × Nat)) (a e : Nat) : Nat × Nat × Nat × Nat := if (longRes l a e).2 ≠ 0 then (0, 0, 0, 0) else (longRes l a e).1
set_option maxRecDepth 100000 in
set_option maxHeartbeats 1000000 in
theorem asked_any (v : Value) (l : List (Nat × Nat)) (a e : Nat) (ha : a < 4294967296) (he : e < 4294967296) (w : World) (hv : Instrs w v l) :
    Calls Try.prog 12 #[v, .int .u32 a, .int .u32 e] w fun x w' => x = .returned (.agg #[.int .u32 (askR l a e).1, .int .u32 (askR l a e).2.1, .int .u8 (askR l a e).2.2.1, .int .u32 (askR l a e).2.2.2]) ∧ Below w.heap.size w w' := by
  have hv2 := hv.below (Bel.new w (.cells #[.int .u32 0, .int .u32 0, .int .u8 0, .int .u32 0] 27))
  have hL := longest_any v l a e ha he _ hv2
  unfold askR
  generalize longRes l a e = r at *
  obtain ⟨⟨A, L, K, V⟩, er⟩ := r
  simp only at hL ⊢
  have HL := Lib.hid hL
  clear hL hv hv2
  by_cases h : er = 0
  · subst h
    rw [if_neg (by simp)]
    go_enter Try.func12, Try.ntmps12
    go_wp2_with fail
    refine HL.out.mono ?_
    rintro x w1 ⟨rfl, hb1⟩
    have hg := hb1.block w.heap.size (by simp)
    rw [heap_alloc_new] at hg
    have hs := Bel.lt hb1
    have hg2 := Lib.hid ((Below.heap_alloc w1 (.cells #[.int .u32 A, .int .u32 L, .int .u8 K, .int .u32 V] 27) w.heap.size hs).trans hg)
    have HB := Lib.hid (Bel.al (Bel.of hb1) (.cells #[.int .u32 A, .int .u32 L, .int .u8 K, .int .u32 V] 27))
    clear hg hb1 HL
    go_wp2_with ((with_reducible refine wpList_store_row (o := ⟨none, .store 27 (.tmp 6) (.tmp 19), _, _, _, none⟩) rfl 27 _ _ rfl w.heap.size #[.int .u32 A, .int .u32 L, .int .u8 K, .int .u32 V] ?_ ?_ 27 _ hg2.out (size27 _ _ _ _) ?_ (one27 _ _ _ _) ?_); rfl; rfl; rfl)
    exact bodyPost_ret (v := .agg #[.int .u32 (A), .int .u32 (L), .int .u8 (K), .int .u32 (V)]) (results_cell_row Try.results12 _ _ w.heap.size 27 #[.int .u32 (A), .int .u32 (L), .int .u8 (K), .int .u32 (V)] (0, 0) _ rfl (setRow_heap _ _ _ _ _ _ hg2.out) Try.underlying27 rfl (size27 _ _ _ _)) rfl ⟨rfl, below_setRow HB.out _ (Nat.le_refl _) _⟩
  · have hen : ((er : Int) != 0) = true := bne_iff_ne.2 (by omega)
    rw [if_pos h]
    go_enter Try.func12, Try.ntmps12
    go_wp2_with fail
    refine HL.out.mono ?_
    rintro x w1 ⟨rfl, hb1⟩
    have hg := hb1.block w.heap.size (by simp)
    rw [heap_alloc_new] at hg
    have hs := Bel.lt hb1
    have hg2 := Lib.hid ((Below.heap_alloc w1 (.cells #[.int .u32 A, .int .u32 L, .int .u8 K, .int .u32 V] 27) w.heap.size hs).trans hg)
    have HB := Lib.hid (Bel.al (Bel.of hb1) (.cells #[.int .u32 A, .int .u32 L, .int .u8 K, .int .u32 V] 27))
    clear hg hb1 HL
    go_wp2_with ((with_reducible refine wpList_store_row (o := ⟨none, .store 27 (.tmp 6) (.tmp 18), _, _, _, none⟩) rfl 27 _ _ rfl w.heap.size #[.int .u32 0, .int .u32 0, .int .u8 0, .int .u32 0] ?_ ?_ 27 _ hg2.out (size27 _ _ _ _) ?_ (one27 _ _ _ _) ?_); rfl; rfl; rfl)
    exact bodyPost_ret (v := .agg #[.int .u32 (0), .int .u32 (0), .int .u8 (0), .int .u32 (0)]) (results_cell_row Try.results12 _ _ w.heap.size 27 #[.int .u32 (0), .int .u32 (0), .int .u8 (0), .int .u32 (0)] (0, 0) _ rfl (setRow_heap _ _ _ _ _ _ hg2.out) Try.underlying27 rfl (size27 _ _ _ _)) rfl ⟨rfl, below_setRow HB.out _ (Nat.le_refl _) _⟩
end Go.Proofs.Ytfoaibfncjnbdaa
