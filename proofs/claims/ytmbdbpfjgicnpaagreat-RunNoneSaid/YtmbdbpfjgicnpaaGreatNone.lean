import Derived.Test.YtmbdbpfjgicnpaaGreatRow
import Derived.Defers
/- Machines that are none. -/
namespace Go.Proofs.YtmbdbpfjgicnpaaGreat
open Go.RowKit
set_option maxRecDepth 100000 in
theorem made_nil (w : World) : Calls Tryz.prog 18 #[.pointer none] w fun e w' => e = .returned (.bool false) ∧ w' = w := by
  go_enter Tryz.func18, Tryz.ntmps18
  go_wp2
  go_ret
  exact ⟨rfl, rfl⟩
set_option maxRecDepth 100000 in
theorem made_zero (b : Nat) (w : World) (hc : w.cell? ⟨b, 0, none⟩ = some (.pointer none)) : Calls Tryz.prog 18 #[.pointer (some ⟨b, 0, none⟩)] w fun e w' => e = .returned (.bool false) ∧ w' = w := by
  go_enter Tryz.func18, Tryz.ntmps18
  go_wp2
  go_ret
  exact ⟨rfl, rfl⟩
set_option maxRecDepth 100000 in
set_option maxHeartbeats 1000000 in
theorem start_nil (x : Int) (va : Option Addr) (vn vc : Nat) (w : World) : Calls Tryz.prog 7 #[.pointer none, .int .u32 x, .slice va vn vc] w fun e w' => e = .returned (.int .i64 1) ∧ Below w.heap.size w w' := by
  go_enter Tryz.func7, Tryz.ntmps7
  go_wp2_with (first | (go_at_call 18; refine (made_nil _).mono ?_; rintro e w1 ⟨rfl, hw1⟩; subst hw1))
  go_ret
  exact ⟨rfl, by repeat (first | exact Below.refl _ _ | refine Bel.al ?_ _)⟩
set_option maxRecDepth 100000 in
set_option maxHeartbeats 1000000 in
theorem start_zero (b : Nat) (x : Int) (va : Option Addr) (vn vc : Nat) (w : World) (hc : w.cell? ⟨b, 0, none⟩ = some (.pointer none)) : Calls Tryz.prog 7 #[.pointer (some ⟨b, 0, none⟩), .int .u32 x, .slice va vn vc] w fun e w' => e = .returned (.int .i64 1) ∧ Below w.heap.size w w' := by
  have hb : b < w.heap.size := World.block_lt_of_cell? _ _ hc
  go_enter Tryz.func7, Tryz.ntmps7
  go_wp2_with (first | (go_at_call 18; refine (made_zero b _ (by first | exact hc | exact ((Bel.al (Below.refl _ w) _).cell (p := ⟨b, 0, none⟩) hb).trans hc | exact ((Bel.al (Bel.al (Below.refl _ w) _) _).cell (p := ⟨b, 0, none⟩) hb).trans hc | exact ((Bel.al (Bel.al (Bel.al (Below.refl _ w) _) _) _).cell (p := ⟨b, 0, none⟩) hb).trans hc)).mono ?_; rintro e w1 ⟨rfl, hw1⟩; subst hw1))
  go_ret
  exact ⟨rfl, by repeat (first | exact Below.refl _ _ | refine Bel.al ?_ _)⟩
set_option maxRecDepth 100000 in
set_option maxHeartbeats 1000000 in
theorem put_nil (l p q u f : Int) (oa da : Option Addr) (on oc dn dc : Nat) (w : World) : Calls Tryz.prog 8 #[.pointer none, .agg #[.int .u8 l, .int .u32 p, .int .u32 q, .slice oa on oc, .slice da dn dc, .int .u32 u, .int .u8 f]] w fun e w' => e = .returned (.int .i64 1) ∧ Below w.heap.size w w' := by
  go_enter Tryz.func8, Tryz.ntmps8
  go_wp2_with (first | (go_at_call 18; refine (made_nil _).mono ?_; rintro e w1 ⟨rfl, hw1⟩; subst hw1))
  go_ret
  exact ⟨rfl, by repeat (first | exact Below.refl _ _ | refine Bel.al ?_ _)⟩
set_option maxRecDepth 100000 in
set_option maxHeartbeats 1000000 in
theorem put_zero (b : Nat) (l p q u f : Int) (oa da : Option Addr) (on oc dn dc : Nat) (w : World) (hc : w.cell? ⟨b, 0, none⟩ = some (.pointer none)) : Calls Tryz.prog 8 #[.pointer (some ⟨b, 0, none⟩), .agg #[.int .u8 l, .int .u32 p, .int .u32 q, .slice oa on oc, .slice da dn dc, .int .u32 u, .int .u8 f]] w fun e w' => e = .returned (.int .i64 1) ∧ Below w.heap.size w w' := by
  have hb : b < w.heap.size := World.block_lt_of_cell? _ _ hc
  go_enter Tryz.func8, Tryz.ntmps8
  go_wp2_with (first | (go_at_call 18; refine (made_zero b _ (by first | exact hc | exact ((Bel.al (Below.refl _ w) _).cell (p := ⟨b, 0, none⟩) hb).trans hc | exact ((Bel.al (Bel.al (Below.refl _ w) _) _).cell (p := ⟨b, 0, none⟩) hb).trans hc | exact ((Bel.al (Bel.al (Bel.al (Below.refl _ w) _) _) _).cell (p := ⟨b, 0, none⟩) hb).trans hc)).mono ?_; rintro e w1 ⟨rfl, hw1⟩; subst hw1))
  go_ret
  exact ⟨rfl, by repeat (first | exact Below.refl _ _ | refine Bel.al ?_ _)⟩
set_option maxRecDepth 100000 in
set_option maxHeartbeats 1000000 in
theorem log_nil (w : World) : Calls Tryz.prog 9 #[.pointer none, .bool true] w fun e w' => e = .returned (.tuple #[]) ∧ Below w.heap.size w w' := by
  go_enter Tryz.func9, Tryz.ntmps9
  go_wp2_with (first | (go_at_call 18; refine (made_nil _).mono ?_; rintro e w1 ⟨rfl, hw1⟩; subst hw1))
  exact bodyPost_ret (results_none rfl _ _ _) rfl ⟨rfl, by repeat (first | exact Below.refl _ _ | refine Bel.al ?_ _)⟩
set_option maxRecDepth 100000 in
set_option maxHeartbeats 1000000 in
theorem log_zero (b : Nat) (w : World) (hc : w.cell? ⟨b, 0, none⟩ = some (.pointer none)) : Calls Tryz.prog 9 #[.pointer (some ⟨b, 0, none⟩), .bool true] w fun e w' => e = .returned (.tuple #[]) ∧ Below w.heap.size w w' := by
  have hb : b < w.heap.size := World.block_lt_of_cell? _ _ hc
  go_enter Tryz.func9, Tryz.ntmps9
  go_wp2_with (first | (go_at_call 18; refine (made_zero b _ (by first | exact hc | exact ((Bel.al (Below.refl _ w) _).cell (p := ⟨b, 0, none⟩) hb).trans hc | exact ((Bel.al (Bel.al (Below.refl _ w) _) _).cell (p := ⟨b, 0, none⟩) hb).trans hc | exact ((Bel.al (Bel.al (Bel.al (Below.refl _ w) _) _) _).cell (p := ⟨b, 0, none⟩) hb).trans hc)).mono ?_; rintro e w1 ⟨rfl, hw1⟩; subst hw1))
  exact bodyPost_ret (results_none rfl _ _ _) rfl ⟨rfl, by repeat (first | exact Below.refl _ _ | refine Bel.al ?_ _)⟩
set_option maxRecDepth 100000 in
set_option maxHeartbeats 1000000 in
theorem touched_nil (w : World) : Calls Tryz.prog 10 #[.pointer none] w fun e w' => e = .returned (.slice none 0 0) ∧ Below w.heap.size w w' := by
  go_enter Tryz.func10, Tryz.ntmps10
  go_wp2_with (first | (go_at_call 18; refine (made_nil _).mono ?_; rintro e w1 ⟨rfl, hw1⟩; subst hw1))
  go_ret
  exact ⟨rfl, by repeat (first | exact Below.refl _ _ | refine Bel.al ?_ _)⟩
set_option maxRecDepth 100000 in
set_option maxHeartbeats 1000000 in
theorem touched_zero (b : Nat) (w : World) (hc : w.cell? ⟨b, 0, none⟩ = some (.pointer none)) : Calls Tryz.prog 10 #[.pointer (some ⟨b, 0, none⟩)] w fun e w' => e = .returned (.slice none 0 0) ∧ Below w.heap.size w w' := by
  have hb : b < w.heap.size := World.block_lt_of_cell? _ _ hc
  go_enter Tryz.func10, Tryz.ntmps10
  go_wp2_with (first | (go_at_call 18; refine (made_zero b _ (by first | exact hc | exact ((Bel.al (Below.refl _ w) _).cell (p := ⟨b, 0, none⟩) hb).trans hc | exact ((Bel.al (Bel.al (Below.refl _ w) _) _).cell (p := ⟨b, 0, none⟩) hb).trans hc | exact ((Bel.al (Bel.al (Bel.al (Below.refl _ w) _) _) _).cell (p := ⟨b, 0, none⟩) hb).trans hc)).mono ?_; rintro e w1 ⟨rfl, hw1⟩; subst hw1))
  go_ret
  exact ⟨rfl, by repeat (first | exact Below.refl _ _ | refine Bel.al ?_ _)⟩
set_option maxRecDepth 100000 in
set_option maxHeartbeats 1000000 in
theorem state_nil (w : World) : Calls Tryz.prog 12 #[.pointer none] w fun e w' => e = .returned (.agg #[.int .u8 0, .int .u32 0, .int .u32 0, .slice none 0 0, .slice none 0 0, .int .u32 0, .int .u8 0]) ∧ Below w.heap.size w w' := by
  go_enter Tryz.func12, Tryz.ntmps12
  go_wp2_with (first | (go_at_call 18; refine (made_nil _).mono ?_; rintro e w1 ⟨rfl, hw1⟩; subst hw1))
  exact bodyPost_ret (v := .agg #[.int .u8 0, .int .u32 0, .int .u32 0, .slice none 0 0, .slice none 0 0, .int .u32 0, .int .u8 0]) (by simp [results, Tryz.results12, go_sem]) rfl ⟨rfl, by repeat (first | exact Below.refl _ _ | refine Bel.al ?_ _)⟩
set_option maxRecDepth 100000 in
set_option maxHeartbeats 1000000 in
theorem state_zero (b : Nat) (w : World) (hc : w.cell? ⟨b, 0, none⟩ = some (.pointer none)) : Calls Tryz.prog 12 #[.pointer (some ⟨b, 0, none⟩)] w fun e w' => e = .returned (.agg #[.int .u8 0, .int .u32 0, .int .u32 0, .slice none 0 0, .slice none 0 0, .int .u32 0, .int .u8 0]) ∧ Below w.heap.size w w' := by
  have hb : b < w.heap.size := World.block_lt_of_cell? _ _ hc
  go_enter Tryz.func12, Tryz.ntmps12
  go_wp2_with (first | (go_at_call 18; refine (made_zero b _ (by first | exact hc | exact ((Bel.al (Below.refl _ w) _).cell (p := ⟨b, 0, none⟩) hb).trans hc | exact ((Bel.al (Bel.al (Below.refl _ w) _) _).cell (p := ⟨b, 0, none⟩) hb).trans hc | exact ((Bel.al (Bel.al (Bel.al (Below.refl _ w) _) _) _).cell (p := ⟨b, 0, none⟩) hb).trans hc)).mono ?_; rintro e w1 ⟨rfl, hw1⟩; subst hw1))
  exact bodyPost_ret (v := .agg #[.int .u8 0, .int .u32 0, .int .u32 0, .slice none 0 0, .slice none 0 0, .int .u32 0, .int .u8 0]) (by simp [results, Tryz.results12, go_sem]) rfl ⟨rfl, by repeat (first | exact Below.refl _ _ | refine Bel.al ?_ _)⟩
set_option maxRecDepth 100000 in
set_option maxHeartbeats 1000000 in
theorem go_nil (x : Int) (va : Option Addr) (vn vc : Nat) (w : World) : Calls Tryz.prog 5 #[.pointer none, .int .i64 x, .slice va vn vc] w fun e w' => e = .returned (.tuple #[.agg #[.int .u8 0, .int .u32 0, .int .u32 0, .int .u8 0, .int .i64 0, .int .i64 0, .slice none 0 0, .int .u32 0, .int .u32 0, .slice none 0 0, .int .u32 0], .int .i64 1]) ∧ Below w.heap.size w w' := by
  go_enter Tryz.func5, Tryz.ntmps5
  go_wp2_with (first | (go_at_call 18; refine (made_nil _).mono ?_; rintro e w1 ⟨rfl, hw1⟩; subst hw1))
  exact bodyPost_ret (v := .tuple #[.agg #[.int .u8 0, .int .u32 0, .int .u32 0, .int .u8 0, .int .i64 0, .int .i64 0, .slice none 0 0, .int .u32 0, .int .u32 0, .slice none 0 0, .int .u32 0], .int .i64 1]) (by simp [results, Tryz.results5, go_sem]) rfl ⟨rfl, by repeat (first | exact Below.refl _ _ | refine Bel.al ?_ _)⟩
set_option maxRecDepth 100000 in
set_option maxHeartbeats 1000000 in
theorem go_zero (b : Nat) (x : Int) (va : Option Addr) (vn vc : Nat) (w : World) (hc : w.cell? ⟨b, 0, none⟩ = some (.pointer none)) : Calls Tryz.prog 5 #[.pointer (some ⟨b, 0, none⟩), .int .i64 x, .slice va vn vc] w fun e w' => e = .returned (.tuple #[.agg #[.int .u8 0, .int .u32 0, .int .u32 0, .int .u8 0, .int .i64 0, .int .i64 0, .slice none 0 0, .int .u32 0, .int .u32 0, .slice none 0 0, .int .u32 0], .int .i64 1]) ∧ Below w.heap.size w w' := by
  have hb : b < w.heap.size := World.block_lt_of_cell? _ _ hc
  go_enter Tryz.func5, Tryz.ntmps5
  go_wp2_with (first | (go_at_call 18; refine (made_zero b _ (by first | exact hc | exact ((Bel.al (Below.refl _ w) _).cell (p := ⟨b, 0, none⟩) hb).trans hc | exact ((Bel.al (Bel.al (Below.refl _ w) _) _).cell (p := ⟨b, 0, none⟩) hb).trans hc | exact ((Bel.al (Bel.al (Bel.al (Below.refl _ w) _) _) _).cell (p := ⟨b, 0, none⟩) hb).trans hc)).mono ?_; rintro e w1 ⟨rfl, hw1⟩; subst hw1))
  exact bodyPost_ret (v := .tuple #[.agg #[.int .u8 0, .int .u32 0, .int .u32 0, .int .u8 0, .int .i64 0, .int .i64 0, .slice none 0 0, .int .u32 0, .int .u32 0, .slice none 0 0, .int .u32 0], .int .i64 1]) (by simp [results, Tryz.results5, go_sem]) rfl ⟨rfl, by repeat (first | exact Below.refl _ _ | refine Bel.al ?_ _)⟩
end Go.Proofs.YtmbdbpfjgicnpaaGreat
