import Derived.Test.YtofkamnmgpkehaaDoorSwar
import Derived.Test.YtofkamnmgpkehaaDoorOwn
/- math/bits.OnesCount64. -/
namespace Go.Proofs.YtofkamnmgpkehaaDoor
open Go.RowKit
theorem M85 : MM 85 8 = 6148914691236517205 := by decide
theorem M51 : MM 51 8 = 3689348814741910323 := by decide
theorem M15 : MM 15 8 = 1085102592571150095 := by decide
theorem ones_plain (w : Nat) (y4 y5 y6 : Nat) (hy4 : y4 = Y 8 w + Y 8 w / 256) (hy5 : y5 = y4 + y4 / 65536) (hy6 : y6 = y5 + y5 / 4294967296) : y6 % 128 = pop w ∧ y6 < 9223372036854775808 := by
  have p := fun x => pop8_le (x % 256) (Nat.mod_lt _ (by decide))
  have hh : Y 1 (w / 256 / 256 / 256 / 256 / 256 / 256 / 256) = pop8 (w / 256 / 256 / 256 / 256 / 256 / 256 / 256 % 256) := by simp [Y]
  have := fold8 (Y 8 w) (Y 7 (w / 256)) (Y 6 (w / 256 / 256)) (Y 5 (w / 256 / 256 / 256)) (Y 4 (w / 256 / 256 / 256 / 256)) (Y 3 (w / 256 / 256 / 256 / 256 / 256)) (Y 2 (w / 256 / 256 / 256 / 256 / 256 / 256)) (Y 1 (w / 256 / 256 / 256 / 256 / 256 / 256 / 256))
    _ _ _ _ _ _ _ (p w) (p (w / 256)) (p (w / 256 / 256)) (p (w / 256 / 256 / 256)) (p (w / 256 / 256 / 256 / 256)) (p (w / 256 / 256 / 256 / 256 / 256)) (p (w / 256 / 256 / 256 / 256 / 256 / 256)) (by rw [hh]; exact p _) rfl rfl rfl rfl rfl rfl rfl y4 y5 y6 hy4 hy5 hy6
  refine ⟨?_, this.2⟩
  rw [this.1, pop_PP, hh]
  simp only [PP]
  omega
theorem and127 (a : Nat) (ha : a < 9223372036854775808) : bits .and .i64 (a : Int) 127 = ((a % 128 : Nat) : Int) := by
  have h1 : (BitVec.ofInt 64 (a : Int)).toNat = a := by
    rw [BitVec.ofInt_natCast, BitVec.toNat_ofNat]; exact Nat.mod_eq_of_lt (by omega)
  have h2 : (BitVec.ofInt 64 (127 : Int)).toNat = 127 := by decide
  show IntKind.i64.wrap ((BitVec.ofInt 64 (a : Int) &&& BitVec.ofInt 64 (127 : Int)).toNat : Int) = _
  rw [BitVec.toNat_and, h1, h2, show (127 : Nat) = 2 ^ 7 - 1 from rfl, Nat.and_two_pow_sub_one_eq_mod]
  exact IntWalk.i64_in _ (by omega)
theorem and_u64 (a b : Nat) (ha : a < 18446744073709551616) (hb : b < 18446744073709551616) : bits .and .u64 (a : Int) (b : Int) = ((a &&& b : Nat) : Int) := bits_and_u64_nat a b ha hb
set_option maxRecDepth 100000 in
set_option maxHeartbeats 1000000 in
theorem ones_any (x : Nat) (hx : x < 18446744073709551616) (w : World) : Calls Tryd.prog 38 #[.int .u64 x] w fun e w' => e = .returned (.int .i64 (pop x)) ∧ w' = w := by
  have L1 : (x / 2 &&& 6148914691236517205) + (x &&& 6148914691236517205) < 18446744073709551616 := by
    have := Nat.and_le_right (n := x / 2) (m := 6148914691236517205); have := Nat.and_le_right (n := x) (m := 6148914691236517205); omega
  have F1 : IntKind.u64.wrap (bits .and .u64 ((x : Int) / 2) 6148914691236517205 + bits .and .u64 (x : Int) 6148914691236517205) = ((f1 8 x : Nat) : Int) := by
    unfold f1
    rw [M85, show ((x : Int) / 2) = ((x / 2 : Nat) : Int) from by omega, show (6148914691236517205 : Int) = ((6148914691236517205 : Nat) : Int) from rfl, and_u64 _ _ (by omega) (by decide), and_u64 _ _ hx (by decide), IntKind.wrap_u64]
    omega
  have L1' : f1 8 x < 18446744073709551616 := by unfold f1; rw [M85]; exact L1
  have hs := (steps 8 x (by simpa using hx)).2
  generalize f1 8 x = a at *
  have L2 : f2 8 a ≤ 7378697629483820646 := by
    unfold f2; rw [M51]
    have := Nat.and_le_right (n := a / 4) (m := 3689348814741910323); have := Nat.and_le_right (n := a) (m := 3689348814741910323); omega
  have F2 : IntKind.u64.wrap (bits .and .u64 ((a : Int) / 4) 3689348814741910323 + bits .and .u64 (a : Int) 3689348814741910323) = ((f2 8 a : Nat) : Int) := by
    unfold f2 at *
    rw [M51] at *
    rw [show ((a : Int) / 4) = ((a / 4 : Nat) : Int) from by omega, show (3689348814741910323 : Int) = ((3689348814741910323 : Nat) : Int) from rfl, and_u64 _ _ (by omega) (by decide), and_u64 _ _ L1' (by decide), IntKind.wrap_u64]
    omega
  generalize f2 8 a = b at *
  have F3 : bits .and .u64 (IntKind.u64.wrap ((b : Int) / 16 + (b : Int))) 1085102592571150095 = ((f3 8 b : Nat) : Int) := by
    unfold f3
    rw [M15, show IntKind.u64.wrap ((b : Int) / 16 + (b : Int)) = ((b / 16 + b : Nat) : Int) from by rw [IntKind.wrap_u64]; omega, show (1085102592571150095 : Int) = ((1085102592571150095 : Nat) : Int) from rfl, and_u64 _ _ (by omega) (by decide)]
  rw [hs] at F3
  obtain ⟨y4, h4⟩ : ∃ y, y = Y 8 x + Y 8 x / 256 := ⟨_, rfl⟩
  obtain ⟨y5, h5⟩ : ∃ y, y = y4 + y4 / 65536 := ⟨_, rfl⟩
  obtain ⟨y6, h6⟩ : ∃ y, y = y5 + y5 / 4294967296 := ⟨_, rfl⟩
  obtain ⟨hp, hlt⟩ := ones_plain x y4 y5 y6 h4 h5 h6
  generalize Y 8 x = c at *
  generalize pop x = p at *
  have F4 : IntKind.u64.wrap ((c : Int) + (c : Int) / 256) = ((y4 : Nat) : Int) := by rw [IntKind.wrap_u64]; omega
  have F5 : IntKind.u64.wrap ((y4 : Int) + (y4 : Int) / 65536) = ((y5 : Nat) : Int) := by rw [IntKind.wrap_u64]; omega
  have F6 : IntKind.u64.wrap ((y5 : Int) + (y5 : Int) / 4294967296) = ((y6 : Nat) : Int) := by rw [IntKind.wrap_u64]; omega
  have F7 : IntKind.i64.wrap (y6 : Int) = (y6 : Int) := IntWalk.i64_in _ (by omega)
  have F8 : bits .and .i64 (y6 : Int) 127 = (p : Int) := by rw [and127 _ hlt, hp]
  clear h4 h5 h6 hp hs L1 L1' L2
  go_enter Tryd.func38, Tryd.ntmps38
  go_wp2
  go_ret
  first | exact ⟨rfl, rfl⟩ | (refine ⟨?_, rfl⟩; simp [F1, F2, F3, F4, F5, F6, F7, F8])
end Go.Proofs.YtofkamnmgpkehaaDoor
