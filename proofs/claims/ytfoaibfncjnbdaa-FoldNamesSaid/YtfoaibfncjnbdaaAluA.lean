import Derived.Test.YtfoaibfncjnbdaaBase
import Derived.Laws.Closers25b
/- Floats by their bits. -/
namespace Go.Proofs.Ytfoaibfncjnbdaa
open Go.RowKit
def w32 (x : Int) : Nat := (IntKind.u32.wrap x).toNat
theorem w32_eq (x : Int) : IntKind.u32.wrap x = (w32 x : Int) := by unfold w32; rw [IntKind.wrap_u32]; omega
theorem w32_lt (x : Int) : w32 x < 4294967296 := by unfold w32; rw [IntKind.wrap_u32]; omega
theorem frombits (n : Nat) (w : World) : (callFunc 91 #[.int .u32 n]).run Try.prog w = .ok (.value (.float .f32 n)) w := by
  rw [run_callFunc_extern Try.func91 (by kernel_rfl) (by kernel_rfl) (by kernel_rfl) (e := Extern.MathFloatBits.float32frombits) (by kernel_rfl)]; rfl
theorem tobits (n : Nat) (w : World) : (callFunc 92 #[.float .f32 n]).run Try.prog w = .ok (.value (.int .u32 n)) w := by
  rw [run_callFunc_extern Try.func92 (by kernel_rfl) (by kernel_rfl) (by kernel_rfl) (e := Extern.MathFloatBits.float32bits) (by kernel_rfl)]; rfl
/-- Is it none? -/
def nanF (x : Nat) : Bool := (FloatKind.f32.format.order x x) != some .eq
def wordF (x : Nat) : Nat := if nanF x then 2143289344 else x
set_option maxRecDepth 100000 in
theorem word_any (x : Nat) (w : World) : Calls Try.prog 76 #[.float .f32 x] w fun e w' => e = .returned (.int .u32 (wordF x)) ∧ w' = w := by
  have hb := tobits x
  cases h : nanF x <;> unfold nanF at h <;> unfold wordF nanF <;> rw [h]
  all_goals
    go_enter Try.func76, Try.ntmps76
    go_wp2
    go_ret
    exact ⟨rfl, rfl⟩
set_option maxRecDepth 100000 in
theorem number_any (x : Nat) (w : World) : Calls Try.prog 71 #[.int .u32 x] w fun e w' => e = .returned (.float .f32 x) ∧ w' = w := by
  have hb := frombits x
  go_enter Try.func71, Try.ntmps71
  go_wp2
  go_ret
  exact ⟨rfl, rfl⟩
theorem wordF_nan (t r : Nat) (h1 : t < 2) (h2 : r < 8388607) : wordF (t * 2147483648 + 2139095040 + 1 + r) = 2143289344 := by
  have hr : Ieee.single.read (t * 2147483648 + 2139095040 + 1 + r) = .nan (t == 1) (r + 1) := by
    have e1 : (t * 2147483648 + 2139095040 + 1 + r) / 2147483648 = t := by omega
    have e2 : (t * 2147483648 + 2139095040 + 1 + r) % 2147483648 = 2139095040 + 1 + r := by omega
    have e3 : t % 2 = t := by omega
    simp only [Ieee.Format.read, Ieee.Format.signWeight, Ieee.single, Ieee.Format.binade, Ieee.Format.infRung, show (2 : Nat) ^ (8 + 23) = 2147483648 from rfl, show (2 : Nat) ^ 23 = 8388608 from rfl, show ((2 : Nat) ^ 8 - 1) * 8388608 = 2139095040 from rfl, e1, e2, e3]
    rw [if_neg (by omega), if_neg (by omega), if_neg (by omega), show 2139095040 + 1 + r - 2139095040 = r + 1 from by omega]
  have : nanF (t * 2147483648 + 2139095040 + 1 + r) = true := by
    unfold nanF
    show (Ieee.Datum.order (Ieee.single.read _) (Ieee.single.read _) != _) = true
    rw [hr]
    rfl
  unfold wordF
  rw [this]
  rfl
/-- Go's four operations on floats. -/
theorem nan_arith (op : BinOp) (hop : op = .add ∨ op = .sub ∨ op = .mul ∨ op = .quo) (t : TypeId) (x y : Nat) (h : floatBits op .f32 x y = none) (w : World) :
    ∃ b, wordF b = 2143289344 ∧ (binOp op t (.float .f32 x) (.float .f32 y)).run Try.prog w = .ok (.float .f32 b) w.drew := by
  refine ⟨(Question.nanBits .f32 x y).cut (w.tape w.drawn (.nanBits .f32 x y)), ?_, ?_⟩
  · exact wordF_nan (w.tape w.drawn (.nanBits .f32 x y) % 2) _ (by omega) (Nat.mod_lt _ (by decide))
  · have hq : (Question.nanBits .f32 x y).forced = false := rfl
    unfold floatBits at h
    rcases hop with rfl | rfl | rfl | rfl <;> simp only at h <;> simp [binOp, Op.floatArith, h, hq]
def arithF (op : BinOp) (x y : Nat) : Nat := match floatBits op .f32 x y with
  | some r => wordF r
  | none => 2143289344
theorem arith_run (op : BinOp) (hop : op = .add ∨ op = .sub ∨ op = .mul ∨ op = .quo) (t : TypeId) (x y : Nat) (w : World) :
    ∃ b w', wordF b = arithF op x y ∧ Below w.heap.size w w' ∧ (binOp op t (.float .f32 x) (.float .f32 y)).run Try.prog w = .ok (.float .f32 b) w' := by
  unfold arithF
  cases h : floatBits op .f32 x y with
  | some r => exact ⟨r, w, rfl, Below.refl _ _, run_float_arith w op t .f32 x y r h⟩
  | none =>
    obtain ⟨b, hb, hr⟩ := nan_arith op hop t x y h w
    exact ⟨b, w.drew, hb, (Below.refl _ _).drew, hr⟩
set_option maxRecDepth 100000 in
theorem sum_any (x y : Nat) (w : World) : Calls Try.prog 72 #[.int .u32 x, .int .u32 y] w fun e w' => e = .returned (.int .u32 (arithF .add x y)) ∧ Below w.heap.size w w' := by
  obtain ⟨b, w1, hb, hbl, hr⟩ := arith_run .add (by decide) 120 x y w
  have Hb := Lib.hid hb
  clear hb
  go_enter Try.func72, Try.ntmps72
  go_wp2_with (first | (go_at_call 71; refine (number_any _ _).mono ?_; rintro e w1 ⟨rfl, hw1⟩; subst hw1) | (go_at_call 76; refine (word_any _ _).mono ?_; rintro e w1 ⟨rfl, hw1⟩; subst hw1))
  go_ret
  exact ⟨by simp [Hb.out], hbl⟩
set_option maxRecDepth 100000 in
theorem rest_any (x y : Nat) (w : World) : Calls Try.prog 73 #[.int .u32 x, .int .u32 y] w fun e w' => e = .returned (.int .u32 (arithF .sub x y)) ∧ Below w.heap.size w w' := by
  obtain ⟨b, w1, hb, hbl, hr⟩ := arith_run .sub (by decide) 120 x y w
  have Hb := Lib.hid hb
  clear hb
  go_enter Try.func73, Try.ntmps73
  go_wp2_with (first | (go_at_call 71; refine (number_any _ _).mono ?_; rintro e w1 ⟨rfl, hw1⟩; subst hw1) | (go_at_call 76; refine (word_any _ _).mono ?_; rintro e w1 ⟨rfl, hw1⟩; subst hw1))
  go_ret
  exact ⟨by simp [Hb.out], hbl⟩
set_option maxRecDepth 100000 in
theorem product_any (x y : Nat) (w : World) : Calls Try.prog 74 #[.int .u32 x, .int .u32 y] w fun e w' => e = .returned (.int .u32 (arithF .mul x y)) ∧ Below w.heap.size w w' := by
  obtain ⟨b, w1, hb, hbl, hr⟩ := arith_run .mul (by decide) 120 x y w
  have Hb := Lib.hid hb
  clear hb
  go_enter Try.func74, Try.ntmps74
  go_wp2_with (first | (go_at_call 71; refine (number_any _ _).mono ?_; rintro e w1 ⟨rfl, hw1⟩; subst hw1) | (go_at_call 76; refine (word_any _ _).mono ?_; rintro e w1 ⟨rfl, hw1⟩; subst hw1))
  go_ret
  exact ⟨by simp [Hb.out], hbl⟩
set_option maxRecDepth 100000 in
theorem ratio_any (x y : Nat) (w : World) : Calls Try.prog 75 #[.int .u32 x, .int .u32 y] w fun e w' => e = .returned (.int .u32 (arithF .quo x y)) ∧ Below w.heap.size w w' := by
  obtain ⟨b, w1, hb, hbl, hr⟩ := arith_run .quo (by decide) 120 x y w
  have Hb := Lib.hid hb
  clear hb
  go_enter Try.func75, Try.ntmps75
  go_wp2_with (first | (go_at_call 71; refine (number_any _ _).mono ?_; rintro e w1 ⟨rfl, hw1⟩; subst hw1) | (go_at_call 76; refine (word_any _ _).mono ?_; rintro e w1 ⟨rfl, hw1⟩; subst hw1))
  go_ret
  exact ⟨by simp [Hb.out], hbl⟩

def standF (x y : Nat) : Nat :=
  if FloatKind.f32.format.order x y == some .lt then 2 else if FloatKind.f32.format.order x y == some .gt then 4 else if FloatKind.f32.format.order x y == some .eq then 3 else 1
set_option maxRecDepth 100000 in
theorem stand_any (x y : Nat) (w : World) : Calls Try.prog 53 #[.int .u32 x, .int .u32 y] w fun e w' => e = .returned (.int .u8 (standF x y)) ∧ w' = w := by
  unfold standF
  cases h1 : FloatKind.f32.format.order x y == some .lt <;> cases h2 : FloatKind.f32.format.order x y == some .gt <;> cases h3 : FloatKind.f32.format.order x y == some .eq
  all_goals
    go_enter Try.func53, Try.ntmps53
    go_wp2_with (first | (go_at_call 71; refine (number_any _ _).mono ?_; rintro e w1 ⟨rfl, hw1⟩; subst hw1))
    go_ret
    exact ⟨by simp, rfl⟩
theorem bits_nat (op : BinOp) (x y : Int) : bits op .u32 x y = ((bits op .u32 x y).toNat : Int) := by have := bits_lo_u32 op x y; omega
def turnF (x : Nat) : Nat := (bits .xor .u32 x 2147483648).toNat
set_option maxRecDepth 100000 in
theorem turned_any (x : Nat) (w : World) : Calls Try.prog 56 #[.int .u32 x] w fun e w' => e = .returned (.int .u32 (turnF x)) ∧ w' = w := by
  have hx := Lib.hid (bits_nat .xor x 2147483648)
  unfold turnF
  go_enter Try.func56, Try.ntmps56
  go_wp2
  go_ret
  exact ⟨by rw [← hx.out]; rfl, rfl⟩
set_option maxRecDepth 100000 in
theorem of_any (x : Int) (w : World) : Calls Try.prog 57 #[.int .i32 x] w fun e w' => e = .returned (.int .u32 (wordF (floatOfInt .f32 x))) ∧ w' = w := by
  go_enter Try.func57, Try.ntmps57
  go_wp2_with (first | (go_at_call 76; refine (word_any _ _).mono ?_; rintro e w1 ⟨rfl, hw1⟩; subst hw1))
  go_ret
  exact ⟨by simp, rfl⟩
theorem cut_low (neg : Bool) (n drop : Nat) : (Ieee.Toward.zero.cut neg n drop) * 2 ^ drop ≤ n := by
  simp only [Ieee.Toward.cut, Bool.toNat_false, Nat.add_zero, Nat.one_shiftLeft]
  by_cases h : drop ≤ n.log2 + 2
  · rw [Nat.min_eq_left h]; exact Nat.div_mul_le_self _ _
  · rw [Nat.min_eq_right (by omega)]
    have : n / 2 ^ (n.log2 + 2) = 0 := Nat.div_eq_of_lt (Nat.lt_of_lt_of_le Nat.lt_log2_self (Nat.pow_le_pow_right (by decide) (by omega)))
    rw [this]; simp
theorem cut_bound (s : Bool) (m : Nat) (i : Int) (c : Nat) (hc : m * 2 ^ (i - min i 8).toNat < c + 8388608 * 2 ^ (8 - min i 8).toNat) (hc1 : c ≤ 1) : Ieee.Toward.zero.cut s (m <<< i.toNat) (-i).toNat < c + 2147483648 := by
  have h := cut_low s (m <<< i.toNat) (-i).toNat
  rw [Nat.shiftLeft_eq] at h
  by_cases h8 : 8 ≤ i
  · rw [show min i 8 = 8 from by omega] at hc
    rw [show ((8 : Int) - 8).toNat = 0 from rfl] at hc
    rw [show (-i).toNat = 0 from by omega] at h ⊢
    have e : i.toNat = (i - 8).toNat + 8 := by omega
    rw [e, Nat.pow_add, ← Nat.mul_assoc] at h
    rw [Nat.shiftLeft_eq, e, Nat.pow_add, ← Nat.mul_assoc]
    generalize m * 2 ^ (i - 8).toNat = q at *
    omega
  · rw [show min i 8 = i from by omega] at hc
    rw [show (i - i).toNat = 0 from by omega] at hc
    by_cases h0 : 0 ≤ i
    · rw [show (-i).toNat = 0 from by omega] at h ⊢
      rw [Nat.shiftLeft_eq]
      have : i = 0 ∨ i = 1 ∨ i = 2 ∨ i = 3 ∨ i = 4 ∨ i = 5 ∨ i = 6 ∨ i = 7 := by omega
      rcases this with rfl | rfl | rfl | rfl | rfl | rfl | rfl | rfl <;> simp at h hc ⊢ <;> omega
    · obtain ⟨D, hD⟩ : ∃ D : Nat, i = -(D : Int) := ⟨(-i).toNat, by omega⟩
      rw [show (8 - i).toNat = 8 + D from by omega, Nat.pow_add] at hc
      rw [show (-i).toNat = D from by omega, show i.toNat = 0 from by omega] at h ⊢
      rw [Nat.shiftLeft_eq]
      have hp := Nat.two_pow_pos D
      generalize 2 ^ D = p at *
      generalize Ieee.Toward.zero.cut s (m * 2 ^ 0) D = v at *
      have h1 : v * p < c + 2147483648 * p := by
        have : 8388608 * (2 ^ 8 * p) = 2147483648 * p := by omega
        omega
      rcases (show c = 0 ∨ c = 1 by omega) with rfl | rfl
      · rw [Nat.zero_add] at h1 ⊢
        exact Nat.lt_of_mul_lt_mul_right h1
      · have : v ≤ 2147483648 := Nat.le_of_mul_le_mul_right (show v * p ≤ 2147483648 * p by omega) hp
        omega
/-- Toward nought: the number is within the kind where it is not too great and not too small. -/
def towardF (x : Nat) : Int := if nanF x then 0 else if (FloatKind.f32.format.order x 1325400064 == some .gt || FloatKind.f32.format.order x 1325400064 == some .eq) then 2147483647 else if FloatKind.f32.format.order x 3472883712 == some .lt then -2147483648 else (floatToIntVal .f32 x .i32).getD 0
theorem read_hi : Ieee.single.read 1325400064 = .number false 8388608 8 := by decide +kernel
theorem read_lo : Ieee.single.read 3472883712 = .number true 8388608 8 := by decide +kernel
theorem ord_lt (a b : Int) (h : (some (compare a b) == some .gt || some (compare a b) == some .eq) = false) : a < b := by
  rw [← Int.compare_eq_lt]
  generalize compare a b = o at h
  cases o
  · rfl
  · simp at h
  · simp at h
theorem ord_ge (a b : Int) (h : (some (compare a b) == some .lt) = false) : ¬ a < b := by
  rw [← Int.compare_eq_lt]
  generalize compare a b = o at h
  cases o
  · simp at h
  · simp
  · simp
theorem toward_fits (x : Nat) (h0 : nanF x = false) (h1 : (FloatKind.f32.format.order x 1325400064 == some .gt || FloatKind.f32.format.order x 1325400064 == some .eq) = false) (h2 : (FloatKind.f32.format.order x 3472883712 == some .lt) = false) :
    ∃ n, floatToIntVal .f32 x .i32 = some n := by
  unfold nanF at h0
  simp only [FloatKind.format, Ieee.Format.order, read_hi, read_lo] at h0 h1 h2
  unfold floatToIntVal FloatKind.decode
  simp only [FloatKind.format]
  cases hd : Ieee.single.read x with
  | nan s t => rw [hd] at h0; simp [Ieee.Datum.order] at h0
  | infinity s =>
    rw [hd] at h1 h2
    cases s <;> simp [Ieee.Datum.order] at h1 h2
  | number s m i =>
    rw [hd] at h1 h2
    simp only [Ieee.Datum.order, Ieee.signed] at h1 h2
    have hc1 := ord_lt _ _ h1
    have hc2 := ord_ge _ _ h2
    clear h1 h2
    simp only [Nat.shiftLeft_eq] at hc1 hc2
    simp only [Ieee.Datum.toInt, Ieee.Datum.integral, Ieee.signed, Nat.shiftLeft_zero]
    have hm : IntKind.i32.min = -2147483648 := rfl
    have hM : IntKind.i32.max = 2147483647 := rfl
    cases s with
    | false =>
      simp only [Bool.false_eq_true, if_false] at hc1 hc2 ⊢
      have := cut_bound false m i 0 (by omega) (by omega)
      rw [if_pos (by omega)]
      exact ⟨_, rfl⟩
    | true =>
      simp only [if_true] at hc1 hc2 ⊢
      have := cut_bound true m i 1 (by omega) (by omega)
      rw [if_pos (by omega)]
      exact ⟨_, rfl⟩
set_option maxRecDepth 100000 in
theorem toward_any (x : Nat) (w : World) : Calls Try.prog 58 #[.int .u32 x] w fun e w' => e = .returned (.int .i32 (towardF x)) ∧ w' = w := by
  unfold towardF
  cases h0 : nanF x
  · cases h1 : (FloatKind.f32.format.order x 1325400064 == some .gt || FloatKind.f32.format.order x 1325400064 == some .eq)
    · cases h2 : FloatKind.f32.format.order x 3472883712 == some .lt
      · obtain ⟨n, hn⟩ := toward_fits x h0 h1 h2
        have hcv := fun w => run_convert_float_int (P := Try.prog) w 120 21 .f32 .i32 x n (by kernel_rfl) Try.underlying21 hn
        rw [hn]
        unfold nanF at h0
        go_enter Try.func58, Try.ntmps58
        go_wp2_with (first | (go_at_call 71; refine (number_any _ _).mono ?_; rintro e w1 ⟨rfl, hw1⟩; subst hw1))
        go_ret
        exact ⟨by simp, rfl⟩
      · unfold nanF at h0
        go_enter Try.func58, Try.ntmps58
        go_wp2_with (first | (go_at_call 71; refine (number_any _ _).mono ?_; rintro e w1 ⟨rfl, hw1⟩; subst hw1))
        go_ret
        exact ⟨by simp, rfl⟩
    · unfold nanF at h0
      go_enter Try.func58, Try.ntmps58
      go_wp2_with (first | (go_at_call 71; refine (number_any _ _).mono ?_; rintro e w1 ⟨rfl, hw1⟩; subst hw1))
      go_ret
      exact ⟨by simp, rfl⟩
  · unfold nanF at h0
    go_enter Try.func58, Try.ntmps58
    go_wp2_with (first | (go_at_call 71; refine (number_any _ _).mono ?_; rintro e w1 ⟨rfl, hw1⟩; subst hw1))
    go_ret
    exact ⟨by simp, rfl⟩
end Go.Proofs.Ytfoaibfncjnbdaa
