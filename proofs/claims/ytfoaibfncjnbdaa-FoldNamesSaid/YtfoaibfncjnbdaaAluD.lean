import Derived.Test.YtfoaibfncjnbdaaAluA
/- What the comparisons say. -/
namespace Go.Proofs.Ytfoaibfncjnbdaa
open Go.RowKit
theorem beq_int (a b : Nat) : ((a : Int) == (b : Int)) = (a == b) := by
  rw [Bool.eq_iff_iff, beq_iff_eq, beq_iff_eq]; omega
theorem bne_int (a b : Nat) : ((a : Int) != (b : Int)) = (a != b) := by unfold bne; rw [beq_int]
def floB (o s : Nat) : Bool :=
  if o = 23 then s == 3 else if o = 24 then s != 3 else if o = 25 then s == 2 else if o = 26 then s == 2 || s == 3 else if o = 27 then s == 4 else if o = 28 then s == 4 || s == 3 else false
set_option maxRecDepth 100000 in
set_option maxHeartbeats 1000000 in
theorem flo23 (s : Nat) (h : s = 1 ∨ s = 2 ∨ s = 3 ∨ s = 4) (w : World) : Calls Try.prog 52 #[.int .u8 23, .int .u8 s] w fun e w' => e = .returned (.tuple #[.bool (floB 23 s), .int .i64 0]) ∧ w' = w := by
  rcases h with rfl | rfl | rfl | rfl
  all_goals
    go_enter Try.func52, Try.ntmps52
    go_wp2
    go_ret2
    exact ⟨rfl, rfl⟩
set_option maxRecDepth 100000 in
set_option maxHeartbeats 1000000 in
theorem flo24 (s : Nat) (h : s = 1 ∨ s = 2 ∨ s = 3 ∨ s = 4) (w : World) : Calls Try.prog 52 #[.int .u8 24, .int .u8 s] w fun e w' => e = .returned (.tuple #[.bool (floB 24 s), .int .i64 0]) ∧ w' = w := by
  rcases h with rfl | rfl | rfl | rfl
  all_goals
    go_enter Try.func52, Try.ntmps52
    go_wp2
    go_ret2
    exact ⟨rfl, rfl⟩
set_option maxRecDepth 100000 in
set_option maxHeartbeats 1000000 in
theorem flo25 (s : Nat) (h : s = 1 ∨ s = 2 ∨ s = 3 ∨ s = 4) (w : World) : Calls Try.prog 52 #[.int .u8 25, .int .u8 s] w fun e w' => e = .returned (.tuple #[.bool (floB 25 s), .int .i64 0]) ∧ w' = w := by
  rcases h with rfl | rfl | rfl | rfl
  all_goals
    go_enter Try.func52, Try.ntmps52
    go_wp2
    go_ret2
    exact ⟨rfl, rfl⟩
set_option maxRecDepth 100000 in
set_option maxHeartbeats 1000000 in
theorem flo26 (s : Nat) (h : s = 1 ∨ s = 2 ∨ s = 3 ∨ s = 4) (w : World) : Calls Try.prog 52 #[.int .u8 26, .int .u8 s] w fun e w' => e = .returned (.tuple #[.bool (floB 26 s), .int .i64 0]) ∧ w' = w := by
  rcases h with rfl | rfl | rfl | rfl
  all_goals
    go_enter Try.func52, Try.ntmps52
    go_wp2
    go_ret2
    exact ⟨rfl, rfl⟩
set_option maxRecDepth 100000 in
set_option maxHeartbeats 1000000 in
theorem flo27 (s : Nat) (h : s = 1 ∨ s = 2 ∨ s = 3 ∨ s = 4) (w : World) : Calls Try.prog 52 #[.int .u8 27, .int .u8 s] w fun e w' => e = .returned (.tuple #[.bool (floB 27 s), .int .i64 0]) ∧ w' = w := by
  rcases h with rfl | rfl | rfl | rfl
  all_goals
    go_enter Try.func52, Try.ntmps52
    go_wp2
    go_ret2
    exact ⟨rfl, rfl⟩
set_option maxRecDepth 100000 in
set_option maxHeartbeats 1000000 in
theorem flo28 (s : Nat) (h : s = 1 ∨ s = 2 ∨ s = 3 ∨ s = 4) (w : World) : Calls Try.prog 52 #[.int .u8 28, .int .u8 s] w fun e w' => e = .returned (.tuple #[.bool (floB 28 s), .int .i64 0]) ∧ w' = w := by
  rcases h with rfl | rfl | rfl | rfl
  all_goals
    go_enter Try.func52, Try.ntmps52
    go_wp2
    go_ret2
    exact ⟨rfl, rfl⟩
def hoB (o a b : Nat) : Bool :=
  if o = 13 then a == b else if o = 14 then a != b else if o = 15 then decide (wrap32 a < wrap32 b) else if o = 16 then decide (wrap32 a ≤ wrap32 b) else if o = 17 then decide (wrap32 b < wrap32 a) else if o = 18 then decide (wrap32 b ≤ wrap32 a) else if o = 19 then decide (a < b) else if o = 20 then decide (a ≤ b) else if o = 21 then decide (b < a) else if o = 22 then decide (b ≤ a) else floB o (standF a b)
set_option maxRecDepth 100000 in
set_option maxHeartbeats 1000000 in
theorem ho13 (a b : Nat) (w : World) : Calls Try.prog 38 #[.int .u8 13, .int .u32 a, .int .u32 b] w fun e w' => e = .returned (.tuple #[.bool (hoB 13 a b), .int .i64 0]) ∧ w' = w := by
  have e1 : hoB 13 a b = (a == b) := by simp [hoB]
  rw [e1]
  clear e1
  have hq := beq_int a b
  go_enter Try.func38, Try.ntmps38
  go_wp2
  go_ret2
  exact ⟨rfl, rfl⟩
set_option maxRecDepth 100000 in
set_option maxHeartbeats 1000000 in
theorem ho14 (a b : Nat) (w : World) : Calls Try.prog 38 #[.int .u8 14, .int .u32 a, .int .u32 b] w fun e w' => e = .returned (.tuple #[.bool (hoB 14 a b), .int .i64 0]) ∧ w' = w := by
  have e1 : hoB 14 a b = (a != b) := by simp [hoB]
  rw [e1]
  clear e1
  have hq := bne_int a b
  go_enter Try.func38, Try.ntmps38
  go_wp2
  go_ret2
  exact ⟨rfl, rfl⟩
set_option maxRecDepth 100000 in
set_option maxHeartbeats 1000000 in
theorem ho15 (a b : Nat) (w : World) : Calls Try.prog 38 #[.int .u8 15, .int .u32 a, .int .u32 b] w fun e w' => e = .returned (.tuple #[.bool (hoB 15 a b), .int .i64 0]) ∧ w' = w := by
  have e1 : hoB 15 a b = (decide (wrap32 a < wrap32 b)) := by simp [hoB]
  rw [e1]
  clear e1
  go_enter Try.func38, Try.ntmps38
  go_wp2
  go_ret2
  exact ⟨rfl, rfl⟩
set_option maxRecDepth 100000 in
set_option maxHeartbeats 1000000 in
theorem ho16 (a b : Nat) (w : World) : Calls Try.prog 38 #[.int .u8 16, .int .u32 a, .int .u32 b] w fun e w' => e = .returned (.tuple #[.bool (hoB 16 a b), .int .i64 0]) ∧ w' = w := by
  have e1 : hoB 16 a b = (decide (wrap32 a ≤ wrap32 b)) := by simp [hoB]
  rw [e1]
  clear e1
  go_enter Try.func38, Try.ntmps38
  go_wp2
  go_ret2
  exact ⟨rfl, rfl⟩
set_option maxRecDepth 100000 in
set_option maxHeartbeats 1000000 in
theorem ho17 (a b : Nat) (w : World) : Calls Try.prog 38 #[.int .u8 17, .int .u32 a, .int .u32 b] w fun e w' => e = .returned (.tuple #[.bool (hoB 17 a b), .int .i64 0]) ∧ w' = w := by
  have e1 : hoB 17 a b = (decide (wrap32 b < wrap32 a)) := by simp [hoB]
  rw [e1]
  clear e1
  go_enter Try.func38, Try.ntmps38
  go_wp2
  go_ret2
  exact ⟨rfl, rfl⟩
set_option maxRecDepth 100000 in
set_option maxHeartbeats 1000000 in
theorem ho18 (a b : Nat) (w : World) : Calls Try.prog 38 #[.int .u8 18, .int .u32 a, .int .u32 b] w fun e w' => e = .returned (.tuple #[.bool (hoB 18 a b), .int .i64 0]) ∧ w' = w := by
  have e1 : hoB 18 a b = (decide (wrap32 b ≤ wrap32 a)) := by simp [hoB]
  rw [e1]
  clear e1
  go_enter Try.func38, Try.ntmps38
  go_wp2
  go_ret2
  exact ⟨rfl, rfl⟩
set_option maxRecDepth 100000 in
set_option maxHeartbeats 1000000 in
theorem ho19 (a b : Nat) (w : World) : Calls Try.prog 38 #[.int .u8 19, .int .u32 a, .int .u32 b] w fun e w' => e = .returned (.tuple #[.bool (hoB 19 a b), .int .i64 0]) ∧ w' = w := by
  have e1 : hoB 19 a b = (decide (a < b)) := by simp [hoB]
  rw [e1]
  clear e1
  go_enter Try.func38, Try.ntmps38
  go_wp2
  go_ret2
  exact ⟨by simp, rfl⟩
set_option maxRecDepth 100000 in
set_option maxHeartbeats 1000000 in
theorem ho20 (a b : Nat) (w : World) : Calls Try.prog 38 #[.int .u8 20, .int .u32 a, .int .u32 b] w fun e w' => e = .returned (.tuple #[.bool (hoB 20 a b), .int .i64 0]) ∧ w' = w := by
  have e1 : hoB 20 a b = (decide (a ≤ b)) := by simp [hoB]
  rw [e1]
  clear e1
  go_enter Try.func38, Try.ntmps38
  go_wp2
  go_ret2
  exact ⟨by simp, rfl⟩
set_option maxRecDepth 100000 in
set_option maxHeartbeats 1000000 in
theorem ho21 (a b : Nat) (w : World) : Calls Try.prog 38 #[.int .u8 21, .int .u32 a, .int .u32 b] w fun e w' => e = .returned (.tuple #[.bool (hoB 21 a b), .int .i64 0]) ∧ w' = w := by
  have e1 : hoB 21 a b = (decide (b < a)) := by simp [hoB]
  rw [e1]
  clear e1
  go_enter Try.func38, Try.ntmps38
  go_wp2
  go_ret2
  exact ⟨by simp, rfl⟩
set_option maxRecDepth 100000 in
set_option maxHeartbeats 1000000 in
theorem ho22 (a b : Nat) (w : World) : Calls Try.prog 38 #[.int .u8 22, .int .u32 a, .int .u32 b] w fun e w' => e = .returned (.tuple #[.bool (hoB 22 a b), .int .i64 0]) ∧ w' = w := by
  have e1 : hoB 22 a b = (decide (b ≤ a)) := by simp [hoB]
  rw [e1]
  clear e1
  go_enter Try.func38, Try.ntmps38
  go_wp2
  go_ret2
  exact ⟨by simp, rfl⟩
set_option maxRecDepth 100000 in
set_option maxHeartbeats 1000000 in
theorem ho23 (a b : Nat) (w : World) : Calls Try.prog 38 #[.int .u8 23, .int .u32 a, .int .u32 b] w fun e w' => e = .returned (.tuple #[.bool (hoB 23 a b), .int .i64 0]) ∧ w' = w := by
  have e1 : hoB 23 a b = floB 23 (standF a b) := by simp [hoB]
  have hs : standF a b = 1 ∨ standF a b = 2 ∨ standF a b = 3 ∨ standF a b = 4 := by unfold standF; split <;> (try split) <;> (try split) <;> simp
  have H := Lib.hid (fun W => stand_any a b W)
  have H2 := Lib.hid (fun W => flo23 _ hs W)
  rw [e1]
  clear e1 hs
  generalize standF a b = s at *
  generalize floB 23 s = t at *
  go_enter Try.func38, Try.ntmps38
  go_wp2_with (first | (go_at_call 53; refine (H.out _).mono ?_; rintro e w1 ⟨rfl, hw1⟩; subst hw1) | (go_at_call 52; refine (H2.out _).mono ?_; rintro e w1 ⟨rfl, hw1⟩; subst hw1))
  go_ret2
  exact ⟨rfl, rfl⟩
set_option maxRecDepth 100000 in
set_option maxHeartbeats 1000000 in
theorem ho24 (a b : Nat) (w : World) : Calls Try.prog 38 #[.int .u8 24, .int .u32 a, .int .u32 b] w fun e w' => e = .returned (.tuple #[.bool (hoB 24 a b), .int .i64 0]) ∧ w' = w := by
  have e1 : hoB 24 a b = floB 24 (standF a b) := by simp [hoB]
  have hs : standF a b = 1 ∨ standF a b = 2 ∨ standF a b = 3 ∨ standF a b = 4 := by unfold standF; split <;> (try split) <;> (try split) <;> simp
  have H := Lib.hid (fun W => stand_any a b W)
  have H2 := Lib.hid (fun W => flo24 _ hs W)
  rw [e1]
  clear e1 hs
  generalize standF a b = s at *
  generalize floB 24 s = t at *
  go_enter Try.func38, Try.ntmps38
  go_wp2_with (first | (go_at_call 53; refine (H.out _).mono ?_; rintro e w1 ⟨rfl, hw1⟩; subst hw1) | (go_at_call 52; refine (H2.out _).mono ?_; rintro e w1 ⟨rfl, hw1⟩; subst hw1))
  go_ret2
  exact ⟨rfl, rfl⟩
set_option maxRecDepth 100000 in
set_option maxHeartbeats 1000000 in
theorem ho25 (a b : Nat) (w : World) : Calls Try.prog 38 #[.int .u8 25, .int .u32 a, .int .u32 b] w fun e w' => e = .returned (.tuple #[.bool (hoB 25 a b), .int .i64 0]) ∧ w' = w := by
  have e1 : hoB 25 a b = floB 25 (standF a b) := by simp [hoB]
  have hs : standF a b = 1 ∨ standF a b = 2 ∨ standF a b = 3 ∨ standF a b = 4 := by unfold standF; split <;> (try split) <;> (try split) <;> simp
  have H := Lib.hid (fun W => stand_any a b W)
  have H2 := Lib.hid (fun W => flo25 _ hs W)
  rw [e1]
  clear e1 hs
  generalize standF a b = s at *
  generalize floB 25 s = t at *
  go_enter Try.func38, Try.ntmps38
  go_wp2_with (first | (go_at_call 53; refine (H.out _).mono ?_; rintro e w1 ⟨rfl, hw1⟩; subst hw1) | (go_at_call 52; refine (H2.out _).mono ?_; rintro e w1 ⟨rfl, hw1⟩; subst hw1))
  go_ret2
  exact ⟨rfl, rfl⟩
set_option maxRecDepth 100000 in
set_option maxHeartbeats 1000000 in
theorem ho26 (a b : Nat) (w : World) : Calls Try.prog 38 #[.int .u8 26, .int .u32 a, .int .u32 b] w fun e w' => e = .returned (.tuple #[.bool (hoB 26 a b), .int .i64 0]) ∧ w' = w := by
  have e1 : hoB 26 a b = floB 26 (standF a b) := by simp [hoB]
  have hs : standF a b = 1 ∨ standF a b = 2 ∨ standF a b = 3 ∨ standF a b = 4 := by unfold standF; split <;> (try split) <;> (try split) <;> simp
  have H := Lib.hid (fun W => stand_any a b W)
  have H2 := Lib.hid (fun W => flo26 _ hs W)
  rw [e1]
  clear e1 hs
  generalize standF a b = s at *
  generalize floB 26 s = t at *
  go_enter Try.func38, Try.ntmps38
  go_wp2_with (first | (go_at_call 53; refine (H.out _).mono ?_; rintro e w1 ⟨rfl, hw1⟩; subst hw1) | (go_at_call 52; refine (H2.out _).mono ?_; rintro e w1 ⟨rfl, hw1⟩; subst hw1))
  go_ret2
  exact ⟨rfl, rfl⟩
set_option maxRecDepth 100000 in
set_option maxHeartbeats 1000000 in
theorem ho27 (a b : Nat) (w : World) : Calls Try.prog 38 #[.int .u8 27, .int .u32 a, .int .u32 b] w fun e w' => e = .returned (.tuple #[.bool (hoB 27 a b), .int .i64 0]) ∧ w' = w := by
  have e1 : hoB 27 a b = floB 27 (standF a b) := by simp [hoB]
  have hs : standF a b = 1 ∨ standF a b = 2 ∨ standF a b = 3 ∨ standF a b = 4 := by unfold standF; split <;> (try split) <;> (try split) <;> simp
  have H := Lib.hid (fun W => stand_any a b W)
  have H2 := Lib.hid (fun W => flo27 _ hs W)
  rw [e1]
  clear e1 hs
  generalize standF a b = s at *
  generalize floB 27 s = t at *
  go_enter Try.func38, Try.ntmps38
  go_wp2_with (first | (go_at_call 53; refine (H.out _).mono ?_; rintro e w1 ⟨rfl, hw1⟩; subst hw1) | (go_at_call 52; refine (H2.out _).mono ?_; rintro e w1 ⟨rfl, hw1⟩; subst hw1))
  go_ret2
  exact ⟨rfl, rfl⟩
set_option maxRecDepth 100000 in
set_option maxHeartbeats 1000000 in
theorem ho28 (a b : Nat) (w : World) : Calls Try.prog 38 #[.int .u8 28, .int .u32 a, .int .u32 b] w fun e w' => e = .returned (.tuple #[.bool (hoB 28 a b), .int .i64 0]) ∧ w' = w := by
  have e1 : hoB 28 a b = floB 28 (standF a b) := by simp [hoB]
  have hs : standF a b = 1 ∨ standF a b = 2 ∨ standF a b = 3 ∨ standF a b = 4 := by unfold standF; split <;> (try split) <;> (try split) <;> simp
  have H := Lib.hid (fun W => stand_any a b W)
  have H2 := Lib.hid (fun W => flo28 _ hs W)
  rw [e1]
  clear e1 hs
  generalize standF a b = s at *
  generalize floB 28 s = t at *
  go_enter Try.func38, Try.ntmps38
  go_wp2_with (first | (go_at_call 53; refine (H.out _).mono ?_; rintro e w1 ⟨rfl, hw1⟩; subst hw1) | (go_at_call 52; refine (H2.out _).mono ?_; rintro e w1 ⟨rfl, hw1⟩; subst hw1))
  go_ret2
  exact ⟨rfl, rfl⟩
theorem holds_any (o a b : Nat) (h1 : 13 ≤ o) (h2 : o ≤ 28) (w : World) : Calls Try.prog 38 #[.int .u8 o, .int .u32 a, .int .u32 b] w fun e w' => e = .returned (.tuple #[.bool (hoB o a b), .int .i64 0]) ∧ w' = w := by
  have : o = 13 ∨ o = 14 ∨ o = 15 ∨ o = 16 ∨ o = 17 ∨ o = 18 ∨ o = 19 ∨ o = 20 ∨ o = 21 ∨ o = 22 ∨ o = 23 ∨ o = 24 ∨ o = 25 ∨ o = 26 ∨ o = 27 ∨ o = 28 := by omega
  rcases this with rfl | rfl | rfl | rfl | rfl | rfl | rfl | rfl | rfl | rfl | rfl | rfl | rfl | rfl | rfl | rfl
  · exact ho13 a b w
  · exact ho14 a b w
  · exact ho15 a b w
  · exact ho16 a b w
  · exact ho17 a b w
  · exact ho18 a b w
  · exact ho19 a b w
  · exact ho20 a b w
  · exact ho21 a b w
  · exact ho22 a b w
  · exact ho23 a b w
  · exact ho24 a b w
  · exact ho25 a b w
  · exact ho26 a b w
  · exact ho27 a b w
  · exact ho28 a b w
end Go.Proofs.Ytfoaibfncjnbdaa
