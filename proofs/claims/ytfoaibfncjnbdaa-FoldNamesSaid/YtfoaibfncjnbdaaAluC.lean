import Derived.Test.YtfoaibfncjnbdaaAluA
/- What the binary operations do. -/
namespace Go.Proofs.Ytfoaibfncjnbdaa
open Go.RowKit
def isDiv (o : Nat) : Bool := o == 42 || o == 43 || o == 44 || o == 45
def isBi (o : Nat) : Bool := o == 39 || o == 40 || o == 41 || o == 46 || o == 47 || o == 48 || o == 50 || o == 52 || o == 51 || o == 54 || o == 55 || o == 56 || o == 57
def biW (o a b : Nat) : Nat :=
  if o = 39 then w32 (a + b) else if o = 40 then w32 (a - b) else if o = 41 then w32 (a * b) else if o = 42 then w32 (wrap32 ((wrap32 a).tdiv (wrap32 b))) else if o = 44 then w32 ((wrap32 a).tmod (wrap32 b)) else if o = 43 then w32 ((a : Int) / b) else if o = 45 then a % b else if o = 46 then (bits .and .u32 a b).toNat else if o = 47 then (bits .or .u32 a b).toNat else if o = 48 then (bits .xor .u32 a b).toNat else if o = 50 then w32 (a * 2 ^ (b % 32)) else if o = 52 then a / 2 ^ (b % 32) else if o = 51 then w32 (wrap32 a / 2 ^ (b % 32)) else if o = 54 then arithF .add a b else if o = 55 then arithF .sub a b else if o = 56 then arithF .mul a b else if o = 57 then arithF .quo a b else 0
set_option maxRecDepth 100000 in
set_option maxHeartbeats 1000000 in
theorem bi39 (a b : Nat) (w : World) : Calls Try.prog 55 #[.int .u8 39, .int .u32 a, .int .u32 b] w fun e w' => e = .returned (.tuple #[.int .u32 (biW 39 a b : Nat), .int .i64 0]) ∧ Below w.heap.size w w' := by
  have e1 : biW 39 a b = w32 (a + b) := by simp [biW]
  rw [e1]
  clear e1
  have hw := fun x => w32_eq x
  go_enter Try.func55, Try.ntmps55
  go_wp2
  go_ret2
  exact ⟨rfl, Below.refl _ _⟩
set_option maxRecDepth 100000 in
set_option maxHeartbeats 1000000 in
theorem bi40 (a b : Nat) (w : World) : Calls Try.prog 55 #[.int .u8 40, .int .u32 a, .int .u32 b] w fun e w' => e = .returned (.tuple #[.int .u32 (biW 40 a b : Nat), .int .i64 0]) ∧ Below w.heap.size w w' := by
  have e1 : biW 40 a b = w32 (a - b) := by simp [biW]
  rw [e1]
  clear e1
  have hw := fun x => w32_eq x
  go_enter Try.func55, Try.ntmps55
  go_wp2
  go_ret2
  exact ⟨rfl, Below.refl _ _⟩
set_option maxRecDepth 100000 in
set_option maxHeartbeats 1000000 in
theorem bi41 (a b : Nat) (w : World) : Calls Try.prog 55 #[.int .u8 41, .int .u32 a, .int .u32 b] w fun e w' => e = .returned (.tuple #[.int .u32 (biW 41 a b : Nat), .int .i64 0]) ∧ Below w.heap.size w w' := by
  have e1 : biW 41 a b = w32 (a * b) := by simp [biW]
  rw [e1]
  clear e1
  have hw := fun x => w32_eq x
  go_enter Try.func55, Try.ntmps55
  go_wp2
  go_ret2
  exact ⟨rfl, Below.refl _ _⟩
set_option maxRecDepth 100000 in
set_option maxHeartbeats 1000000 in
theorem bi42 (a b : Nat) (hb : b < 4294967296) (hb0 : b ≠ 0) (w : World) : Calls Try.prog 55 #[.int .u8 42, .int .u32 a, .int .u32 b] w fun e w' => e = .returned (.tuple #[.int .u32 (biW 42 a b : Nat), .int .i64 0]) ∧ Below w.heap.size w w' := by
  have e1 : biW 42 a b = w32 (wrap32 ((wrap32 a).tdiv (wrap32 b))) := by simp [biW]
  rw [e1]
  clear e1
  have hw := fun x => w32_eq x
  have hz : ¬ wrap32 (b : Int) = 0 := by unfold wrap32; omega
  go_enter Try.func55, Try.ntmps55
  go_wp2
  go_ret2
  exact ⟨rfl, Below.refl _ _⟩
set_option maxRecDepth 100000 in
set_option maxHeartbeats 1000000 in
theorem bi44 (a b : Nat) (hb : b < 4294967296) (hb0 : b ≠ 0) (w : World) : Calls Try.prog 55 #[.int .u8 44, .int .u32 a, .int .u32 b] w fun e w' => e = .returned (.tuple #[.int .u32 (biW 44 a b : Nat), .int .i64 0]) ∧ Below w.heap.size w w' := by
  have e1 : biW 44 a b = w32 ((wrap32 a).tmod (wrap32 b)) := by simp [biW]
  rw [e1]
  clear e1
  have hw := fun x => w32_eq x
  have hz : ¬ wrap32 (b : Int) = 0 := by unfold wrap32; omega
  go_enter Try.func55, Try.ntmps55
  go_wp2
  go_ret2
  exact ⟨rfl, Below.refl _ _⟩
set_option maxRecDepth 100000 in
set_option maxHeartbeats 1000000 in
theorem bi43 (a b : Nat) (_hb : b < 4294967296) (hb0 : b ≠ 0) (w : World) : Calls Try.prog 55 #[.int .u8 43, .int .u32 a, .int .u32 b] w fun e w' => e = .returned (.tuple #[.int .u32 (biW 43 a b : Nat), .int .i64 0]) ∧ Below w.heap.size w w' := by
  have e1 : biW 43 a b = w32 ((a : Int) / b) := by simp [biW]
  rw [e1]
  clear e1
  have hw := fun x => w32_eq x
  have hz : ¬ (b : Int) = 0 := by omega
  go_enter Try.func55, Try.ntmps55
  go_wp2
  go_ret2
  exact ⟨rfl, Below.refl _ _⟩
set_option maxRecDepth 100000 in
set_option maxHeartbeats 1000000 in
theorem bi45 (a b : Nat) (_hb : b < 4294967296) (hb0 : b ≠ 0) (w : World) : Calls Try.prog 55 #[.int .u8 45, .int .u32 a, .int .u32 b] w fun e w' => e = .returned (.tuple #[.int .u32 (biW 45 a b : Nat), .int .i64 0]) ∧ Below w.heap.size w w' := by
  have e1 : biW 45 a b = a % b := by simp [biW]
  rw [e1]
  clear e1
  have hw := fun x => w32_eq x
  have hz : ¬ (b : Int) = 0 := by omega
  go_enter Try.func55, Try.ntmps55
  go_wp2
  go_ret2
  exact ⟨by simp, Below.refl _ _⟩
set_option maxRecDepth 100000 in
set_option maxHeartbeats 1000000 in
theorem bi46 (a b : Nat) (w : World) : Calls Try.prog 55 #[.int .u8 46, .int .u32 a, .int .u32 b] w fun e w' => e = .returned (.tuple #[.int .u32 (biW 46 a b : Nat), .int .i64 0]) ∧ Below w.heap.size w w' := by
  have e1 : biW 46 a b = (bits .and .u32 a b).toNat := by simp [biW]
  rw [e1]
  clear e1
  have hx := bits_nat .and a b
  generalize (bits .and .u32 a b).toNat = t at *
  go_enter Try.func55, Try.ntmps55
  go_wp2
  go_ret2
  exact ⟨rfl, Below.refl _ _⟩
set_option maxRecDepth 100000 in
set_option maxHeartbeats 1000000 in
theorem bi47 (a b : Nat) (w : World) : Calls Try.prog 55 #[.int .u8 47, .int .u32 a, .int .u32 b] w fun e w' => e = .returned (.tuple #[.int .u32 (biW 47 a b : Nat), .int .i64 0]) ∧ Below w.heap.size w w' := by
  have e1 : biW 47 a b = (bits .or .u32 a b).toNat := by simp [biW]
  rw [e1]
  clear e1
  have hx := bits_nat .or a b
  generalize (bits .or .u32 a b).toNat = t at *
  go_enter Try.func55, Try.ntmps55
  go_wp2
  go_ret2
  exact ⟨rfl, Below.refl _ _⟩
set_option maxRecDepth 100000 in
set_option maxHeartbeats 1000000 in
theorem bi48 (a b : Nat) (w : World) : Calls Try.prog 55 #[.int .u8 48, .int .u32 a, .int .u32 b] w fun e w' => e = .returned (.tuple #[.int .u32 (biW 48 a b : Nat), .int .i64 0]) ∧ Below w.heap.size w w' := by
  have e1 : biW 48 a b = (bits .xor .u32 a b).toNat := by simp [biW]
  rw [e1]
  clear e1
  have hx := bits_nat .xor a b
  generalize (bits .xor .u32 a b).toNat = t at *
  go_enter Try.func55, Try.ntmps55
  go_wp2
  go_ret2
  exact ⟨rfl, Below.refl _ _⟩
set_option maxRecDepth 100000 in
set_option maxHeartbeats 1000000 in
theorem bi50 (a b : Nat) (w : World) : Calls Try.prog 55 #[.int .u8 50, .int .u32 a, .int .u32 b] w fun e w' => e = .returned (.tuple #[.int .u32 (biW 50 a b : Nat), .int .i64 0]) ∧ Below w.heap.size w w' := by
  have e1 : biW 50 a b = w32 (a * 2 ^ (b % 32)) := by simp [biW]
  rw [e1]
  clear e1
  have hw := fun x => w32_eq x
  go_enter Try.func55, Try.ntmps55
  go_wp2
  go_ret2
  exact ⟨rfl, Below.refl _ _⟩
set_option maxRecDepth 100000 in
set_option maxHeartbeats 1000000 in
theorem bi52 (a b : Nat) (w : World) : Calls Try.prog 55 #[.int .u8 52, .int .u32 a, .int .u32 b] w fun e w' => e = .returned (.tuple #[.int .u32 (biW 52 a b : Nat), .int .i64 0]) ∧ Below w.heap.size w w' := by
  have e1 : biW 52 a b = a / 2 ^ (b % 32) := by simp [biW]
  rw [e1]
  clear e1
  have hw := fun x => w32_eq x
  go_enter Try.func55, Try.ntmps55
  go_wp2
  go_ret2
  exact ⟨by simp, Below.refl _ _⟩
set_option maxRecDepth 100000 in
set_option maxHeartbeats 1000000 in
theorem bi51 (a b : Nat) (w : World) : Calls Try.prog 55 #[.int .u8 51, .int .u32 a, .int .u32 b] w fun e w' => e = .returned (.tuple #[.int .u32 (biW 51 a b : Nat), .int .i64 0]) ∧ Below w.heap.size w w' := by
  have e1 : biW 51 a b = w32 (wrap32 a / 2 ^ (b % 32)) := by simp [biW]
  rw [e1]
  clear e1
  have hw := fun x => w32_eq x
  go_enter Try.func55, Try.ntmps55
  go_wp2
  go_ret2
  exact ⟨rfl, Below.refl _ _⟩
set_option maxRecDepth 100000 in
set_option maxHeartbeats 1000000 in
theorem bi54 (a b : Nat) (w : World) : Calls Try.prog 55 #[.int .u8 54, .int .u32 a, .int .u32 b] w fun e w' => e = .returned (.tuple #[.int .u32 (biW 54 a b : Nat), .int .i64 0]) ∧ Below w.heap.size w w' := by
  have e1 : biW 54 a b = arithF .add a b := by simp [biW]
  rw [e1]
  clear e1
  have H := Lib.hid (fun W => sum_any a b W)
  generalize arithF .add a b = t at *
  go_enter Try.func55, Try.ntmps55
  go_wp2_with (go_at_call 72; refine (H.out _).mono ?_; rintro e w1 ⟨rfl, hb1⟩)
  go_ret2
  exact ⟨rfl, hb1⟩
set_option maxRecDepth 100000 in
set_option maxHeartbeats 1000000 in
theorem bi55 (a b : Nat) (w : World) : Calls Try.prog 55 #[.int .u8 55, .int .u32 a, .int .u32 b] w fun e w' => e = .returned (.tuple #[.int .u32 (biW 55 a b : Nat), .int .i64 0]) ∧ Below w.heap.size w w' := by
  have e1 : biW 55 a b = arithF .sub a b := by simp [biW]
  rw [e1]
  clear e1
  have H := Lib.hid (fun W => rest_any a b W)
  generalize arithF .sub a b = t at *
  go_enter Try.func55, Try.ntmps55
  go_wp2_with (go_at_call 73; refine (H.out _).mono ?_; rintro e w1 ⟨rfl, hb1⟩)
  go_ret2
  exact ⟨rfl, hb1⟩
set_option maxRecDepth 100000 in
set_option maxHeartbeats 1000000 in
theorem bi56 (a b : Nat) (w : World) : Calls Try.prog 55 #[.int .u8 56, .int .u32 a, .int .u32 b] w fun e w' => e = .returned (.tuple #[.int .u32 (biW 56 a b : Nat), .int .i64 0]) ∧ Below w.heap.size w w' := by
  have e1 : biW 56 a b = arithF .mul a b := by simp [biW]
  rw [e1]
  clear e1
  have H := Lib.hid (fun W => product_any a b W)
  generalize arithF .mul a b = t at *
  go_enter Try.func55, Try.ntmps55
  go_wp2_with (go_at_call 74; refine (H.out _).mono ?_; rintro e w1 ⟨rfl, hb1⟩)
  go_ret2
  exact ⟨rfl, hb1⟩
set_option maxRecDepth 100000 in
set_option maxHeartbeats 1000000 in
theorem bi57 (a b : Nat) (w : World) : Calls Try.prog 55 #[.int .u8 57, .int .u32 a, .int .u32 b] w fun e w' => e = .returned (.tuple #[.int .u32 (biW 57 a b : Nat), .int .i64 0]) ∧ Below w.heap.size w w' := by
  have e1 : biW 57 a b = arithF .quo a b := by simp [biW]
  rw [e1]
  clear e1
  have H := Lib.hid (fun W => ratio_any a b W)
  generalize arithF .quo a b = t at *
  go_enter Try.func55, Try.ntmps55
  go_wp2_with (go_at_call 75; refine (H.out _).mono ?_; rintro e w1 ⟨rfl, hb1⟩)
  go_ret2
  exact ⟨rfl, hb1⟩
set_option maxRecDepth 100000 in
set_option maxHeartbeats 1000000 in
theorem bi42_no (a : Nat) (w : World) : Calls Try.prog 55 #[.int .u8 42, .int .u32 a, .int .u32 (0 : Nat)] w fun e w' => (∃ u pv, e = .panicked [{ v := .iface u pv, recovered := false }]) ∧ Below w.heap.size w w' := by
  have hz : wrap32 ((0 : Nat) : Int) = 0 := by unfold wrap32; decide
  go_enter Try.func55, Try.ntmps55
  go_wp2
  exact ⟨rfl, ⟨_, _, rfl⟩, Below.refl _ _⟩
set_option maxRecDepth 100000 in
set_option maxHeartbeats 1000000 in
theorem bi44_no (a : Nat) (w : World) : Calls Try.prog 55 #[.int .u8 44, .int .u32 a, .int .u32 (0 : Nat)] w fun e w' => (∃ u pv, e = .panicked [{ v := .iface u pv, recovered := false }]) ∧ Below w.heap.size w w' := by
  have hz : wrap32 ((0 : Nat) : Int) = 0 := by unfold wrap32; decide
  go_enter Try.func55, Try.ntmps55
  go_wp2
  exact ⟨rfl, ⟨_, _, rfl⟩, Below.refl _ _⟩
set_option maxRecDepth 100000 in
set_option maxHeartbeats 1000000 in
theorem bi43_no (a : Nat) (w : World) : Calls Try.prog 55 #[.int .u8 43, .int .u32 a, .int .u32 (0 : Nat)] w fun e w' => (∃ u pv, e = .panicked [{ v := .iface u pv, recovered := false }]) ∧ Below w.heap.size w w' := by
  have hz : wrap32 ((0 : Nat) : Int) = 0 := by unfold wrap32; decide
  go_enter Try.func55, Try.ntmps55
  go_wp2
  exact ⟨rfl, ⟨_, _, rfl⟩, Below.refl _ _⟩
set_option maxRecDepth 100000 in
set_option maxHeartbeats 1000000 in
theorem bi45_no (a : Nat) (w : World) : Calls Try.prog 55 #[.int .u8 45, .int .u32 a, .int .u32 (0 : Nat)] w fun e w' => (∃ u pv, e = .panicked [{ v := .iface u pv, recovered := false }]) ∧ Below w.heap.size w w' := by
  have hz : wrap32 ((0 : Nat) : Int) = 0 := by unfold wrap32; decide
  go_enter Try.func55, Try.ntmps55
  go_wp2
  exact ⟨rfl, ⟨_, _, rfl⟩, Below.refl _ _⟩
set_option maxRecDepth 100000 in
set_option maxHeartbeats 1000000 in
theorem bi_un (o a b : Nat) (h : isBi o = false) (h2 : isDiv o = false) (w : World) : Calls Try.prog 55 #[.int .u8 o, .int .u32 a, .int .u32 b] w fun e w' => e = .returned (.tuple #[.int .u32 (0 : Nat), .int .i64 61]) ∧ Below w.heap.size w w' := by
  simp only [isBi, isDiv, Bool.or_eq_false_iff, beq_eq_false_iff_ne] at h h2
  have k39 : ((o : Int) == 39) = false := by simp; omega
  have k40 : ((o : Int) == 40) = false := by simp; omega
  have k41 : ((o : Int) == 41) = false := by simp; omega
  have k42 : ((o : Int) == 42) = false := by simp; omega
  have k44 : ((o : Int) == 44) = false := by simp; omega
  have k43 : ((o : Int) == 43) = false := by simp; omega
  have k45 : ((o : Int) == 45) = false := by simp; omega
  have k46 : ((o : Int) == 46) = false := by simp; omega
  have k47 : ((o : Int) == 47) = false := by simp; omega
  have k48 : ((o : Int) == 48) = false := by simp; omega
  have k50 : ((o : Int) == 50) = false := by simp; omega
  have k52 : ((o : Int) == 52) = false := by simp; omega
  have k51 : ((o : Int) == 51) = false := by simp; omega
  have k54 : ((o : Int) == 54) = false := by simp; omega
  have k55 : ((o : Int) == 55) = false := by simp; omega
  have k56 : ((o : Int) == 56) = false := by simp; omega
  have k57 : ((o : Int) == 57) = false := by simp; omega
  go_enter Try.func55, Try.ntmps55
  go_wp2
  go_ret2
  exact ⟨rfl, Below.refl _ _⟩
/-- What Binary answers: the word, the error. -/
def biR (o a b : Nat) : Nat × Nat := if isBi o then (biW o a b, 0) else if isDiv o then (if b = 0 then (0, 60) else (biW o a b, 0)) else (0, 61)
theorem bi_yes (o a b : Nat) (hb : b < 4294967296) (h : ¬ (isDiv o = true ∧ b = 0)) (w : World) : Calls Try.prog 55 #[.int .u8 o, .int .u32 a, .int .u32 b] w fun e w' => e = .returned (.tuple #[.int .u32 (biR o a b).1, .int .i64 (biR o a b).2]) ∧ Below w.heap.size w w' := by
  cases h1 : isBi o with
  | true =>
    rw [show biR o a b = (biW o a b, 0) from by unfold biR; rw [h1]; rfl]
    simp only [isBi, Bool.or_eq_true, beq_iff_eq] at h1
    rcases h1 with (((((((((((rfl | rfl) | rfl) | rfl) | rfl) | rfl) | rfl) | rfl) | rfl) | rfl) | rfl) | rfl) | rfl
    · exact bi39 a b w
    · exact bi40 a b w
    · exact bi41 a b w
    · exact bi46 a b w
    · exact bi47 a b w
    · exact bi48 a b w
    · exact bi50 a b w
    · exact bi52 a b w
    · exact bi51 a b w
    · exact bi54 a b w
    · exact bi55 a b w
    · exact bi56 a b w
    · exact bi57 a b w
  | false =>
    cases h2 : isDiv o with
    | true =>
      have hb0 : b ≠ 0 := fun e => h ⟨h2, e⟩
      rw [show biR o a b = (biW o a b, 0) from by unfold biR; rw [h1, h2]; simp [hb0]]
      simp only [isDiv, Bool.or_eq_true, beq_iff_eq] at h2
      rcases h2 with ((rfl | rfl) | rfl) | rfl
      · exact bi42 a b hb hb0 w
      · exact bi43 a b hb hb0 w
      · exact bi44 a b hb hb0 w
      · exact bi45 a b hb hb0 w
    | false =>
      rw [show biR o a b = (0, 61) from by unfold biR; rw [h1, h2]; rfl]
      exact bi_un o a b h1 h2 w
theorem bi_no (o a : Nat) (h : isDiv o = true) (w : World) : Calls Try.prog 55 #[.int .u8 o, .int .u32 a, .int .u32 (0 : Nat)] w fun e w' => (∃ u pv, e = .panicked [{ v := .iface u pv, recovered := false }]) ∧ Below w.heap.size w w' := by
  simp only [isDiv, Bool.or_eq_true, beq_iff_eq] at h
  rcases h with ((rfl | rfl) | rfl) | rfl
  · exact bi42_no a w
  · exact bi43_no a w
  · exact bi44_no a w
  · exact bi45_no a w
end Go.Proofs.Ytfoaibfncjnbdaa
