import Derived.Test.YtfoaibfncjnbdaaAluA
/- What Unary does. -/
namespace Go.Proofs.Ytfoaibfncjnbdaa
open Go.RowKit
def isUn (o : Nat) : Bool := o == 36 || o == 37 || o == 38 || o == 49 || o == 53 || o == 58 || o == 59
def unW (o a : Nat) : Nat :=
  if o = 36 then w32 (IntKind.i8.wrap a) else if o = 37 then w32 (IntKind.i16.wrap a) else if o = 38 then w32 (-a) else if o = 49 then (bits .xor .u32 IntKind.u32.max a).toNat else if o = 53 then turnF a else if o = 58 then wordF (floatOfInt .f32 (wrap32 a)) else if o = 59 then w32 (towardF a) else 0
def unE (o : Nat) : Nat := if isUn o then 0 else 61
set_option maxRecDepth 100000 in
set_option maxHeartbeats 1000000 in
theorem un36 (a : Nat) (w : World) : Calls Try.prog 40 #[.int .u8 36, .int .u32 a] w fun e w' => e = .returned (.tuple #[.int .u32 (unW 36 a : Nat), .int .i64 (unE 36 : Nat)]) ∧ w' = w := by
  have e1 : unW 36 a = w32 (IntKind.i8.wrap a) := by simp [unW]
  have e2 : unE 36 = 0 := by decide
  rw [e1, e2]
  clear e1 e2
  have hw := fun x => w32_eq x
  go_enter Try.func40, Try.ntmps40
  go_wp2
  go_ret2
  exact ⟨rfl, rfl⟩
set_option maxRecDepth 100000 in
set_option maxHeartbeats 1000000 in
theorem un37 (a : Nat) (w : World) : Calls Try.prog 40 #[.int .u8 37, .int .u32 a] w fun e w' => e = .returned (.tuple #[.int .u32 (unW 37 a : Nat), .int .i64 (unE 37 : Nat)]) ∧ w' = w := by
  have e1 : unW 37 a = w32 (IntKind.i16.wrap a) := by simp [unW]
  have e2 : unE 37 = 0 := by decide
  rw [e1, e2]
  clear e1 e2
  have hw := fun x => w32_eq x
  go_enter Try.func40, Try.ntmps40
  go_wp2
  go_ret2
  exact ⟨rfl, rfl⟩
set_option maxRecDepth 100000 in
set_option maxHeartbeats 1000000 in
theorem un38 (a : Nat) (w : World) : Calls Try.prog 40 #[.int .u8 38, .int .u32 a] w fun e w' => e = .returned (.tuple #[.int .u32 (unW 38 a : Nat), .int .i64 (unE 38 : Nat)]) ∧ w' = w := by
  have e1 : unW 38 a = w32 (-a) := by simp [unW]
  have e2 : unE 38 = 0 := by decide
  rw [e1, e2]
  clear e1 e2
  have hw := fun x => w32_eq x
  go_enter Try.func40, Try.ntmps40
  go_wp2
  go_ret2
  exact ⟨rfl, rfl⟩
set_option maxRecDepth 100000 in
set_option maxHeartbeats 1000000 in
theorem un49 (a : Nat) (w : World) : Calls Try.prog 40 #[.int .u8 49, .int .u32 a] w fun e w' => e = .returned (.tuple #[.int .u32 (unW 49 a : Nat), .int .i64 (unE 49 : Nat)]) ∧ w' = w := by
  have e1 : unW 49 a = (bits .xor .u32 IntKind.u32.max a).toNat := by simp [unW]
  have e2 : unE 49 = 0 := by decide
  rw [e1, e2]
  clear e1 e2
  have hx := bits_nat .xor IntKind.u32.max a
  generalize (bits .xor .u32 IntKind.u32.max a).toNat = t at *
  go_enter Try.func40, Try.ntmps40
  go_wp2
  go_ret2
  exact ⟨rfl, rfl⟩
set_option maxRecDepth 100000 in
set_option maxHeartbeats 1000000 in
theorem un53 (a : Nat) (w : World) : Calls Try.prog 40 #[.int .u8 53, .int .u32 a] w fun e w' => e = .returned (.tuple #[.int .u32 (unW 53 a : Nat), .int .i64 (unE 53 : Nat)]) ∧ w' = w := by
  have e1 : unW 53 a = turnF a := by simp [unW]
  have e2 : unE 53 = 0 := by decide
  rw [e1, e2]
  clear e1 e2
  have hw := fun x => w32_eq x
  have H := Lib.hid (fun W => turned_any a W)
  generalize turnF a = t at *
  go_enter Try.func40, Try.ntmps40
  go_wp2_with (go_at_call 56; refine (H.out _).mono ?_; rintro e w1 ⟨rfl, hw1⟩; subst hw1)
  go_ret2
  exact ⟨rfl, rfl⟩
set_option maxRecDepth 100000 in
set_option maxHeartbeats 1000000 in
theorem un58 (a : Nat) (w : World) : Calls Try.prog 40 #[.int .u8 58, .int .u32 a] w fun e w' => e = .returned (.tuple #[.int .u32 (unW 58 a : Nat), .int .i64 (unE 58 : Nat)]) ∧ w' = w := by
  have e1 : unW 58 a = wordF (floatOfInt .f32 (wrap32 a)) := by simp [unW]
  have e2 : unE 58 = 0 := by decide
  rw [e1, e2]
  clear e1 e2
  have hw := fun x => w32_eq x
  have H := Lib.hid (fun W => of_any (wrap32 a) W)
  generalize wordF (floatOfInt .f32 (wrap32 a)) = t at *
  go_enter Try.func40, Try.ntmps40
  go_wp2_with (go_at_call 57; refine (H.out _).mono ?_; rintro e w1 ⟨rfl, hw1⟩; subst hw1)
  go_ret2
  exact ⟨rfl, rfl⟩
set_option maxRecDepth 100000 in
set_option maxHeartbeats 1000000 in
theorem un59 (a : Nat) (w : World) : Calls Try.prog 40 #[.int .u8 59, .int .u32 a] w fun e w' => e = .returned (.tuple #[.int .u32 (unW 59 a : Nat), .int .i64 (unE 59 : Nat)]) ∧ w' = w := by
  have e1 : unW 59 a = w32 (towardF a) := by simp [unW]
  have e2 : unE 59 = 0 := by decide
  rw [e1, e2]
  clear e1 e2
  have hw := fun x => w32_eq x
  have H := Lib.hid (fun W => toward_any a W)
  generalize towardF a = t at *
  go_enter Try.func40, Try.ntmps40
  go_wp2_with (go_at_call 58; refine (H.out _).mono ?_; rintro e w1 ⟨rfl, hw1⟩; subst hw1)
  go_ret2
  exact ⟨rfl, rfl⟩
set_option maxRecDepth 100000 in
set_option maxHeartbeats 1000000 in
theorem un_no (o a : Nat) (h : isUn o = false) (w : World) : Calls Try.prog 40 #[.int .u8 o, .int .u32 a] w fun e w' => e = .returned (.tuple #[.int .u32 (0 : Nat), .int .i64 (61 : Nat)]) ∧ w' = w := by
  simp only [isUn, Bool.or_eq_false_iff, beq_eq_false_iff_ne] at h
  have k36 : ((o : Int) == 36) = false := by simp; omega
  have k37 : ((o : Int) == 37) = false := by simp; omega
  have k38 : ((o : Int) == 38) = false := by simp; omega
  have k49 : ((o : Int) == 49) = false := by simp; omega
  have k53 : ((o : Int) == 53) = false := by simp; omega
  have k58 : ((o : Int) == 58) = false := by simp; omega
  have k59 : ((o : Int) == 59) = false := by simp; omega
  go_enter Try.func40, Try.ntmps40
  go_wp2
  go_ret2
  exact ⟨rfl, rfl⟩
theorem unary_any (o a : Nat) (w : World) : Calls Try.prog 40 #[.int .u8 o, .int .u32 a] w fun e w' => e = .returned (.tuple #[.int .u32 (unW o a : Nat), .int .i64 (unE o : Nat)]) ∧ w' = w := by
  cases h : isUn o with
  | true =>
    simp only [isUn, Bool.or_eq_true, beq_iff_eq] at h
    rcases h with (((((rfl | rfl) | rfl) | rfl) | rfl) | rfl) | rfl
    · exact un36 a w
    · exact un37 a w
    · exact un38 a w
    · exact un49 a w
    · exact un53 a w
    · exact un58 a w
    · exact un59 a w
  | false =>
    have e1 : unW o a = 0 := by
      simp only [isUn, Bool.or_eq_false_iff, beq_eq_false_iff_ne] at h
      unfold unW
      rw [if_neg (by omega), if_neg (by omega), if_neg (by omega), if_neg (by omega), if_neg (by omega), if_neg (by omega), if_neg (by omega)]
    have e2 : unE o = 61 := by unfold unE; rw [h]; rfl
    rw [e1, e2]
    exact un_no o a h w
end Go.Proofs.Ytfoaibfncjnbdaa
