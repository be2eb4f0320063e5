import Derived.Test.YtofkamnmgpkehaaDoorBits
/- How many bits: the sums of math/bits.OnesCount64: plain laws. -/
namespace Go.Proofs.YtofkamnmgpkehaaDoor
def MM (c : Nat) : Nat → Nat
  | 0 => 0
  | k + 1 => MM c k * 256 + c
theorem and_split (a b c d : Nat) (hb : b < 256) (hd : d < 256) : (a * 256 + b) &&& (c * 256 + d) = (a &&& c) * 256 + (b &&& d) := by
  have hbd : b &&& d < 256 := Nat.lt_of_le_of_lt Nat.and_le_left hb
  apply Nat.eq_of_testBit_eq
  intro i
  rw [Nat.testBit_and, show a * 256 + b = 2 ^ 8 * a + b from by omega, show c * 256 + d = 2 ^ 8 * c + d from by omega, show (a &&& c) * 256 + (b &&& d) = 2 ^ 8 * (a &&& c) + (b &&& d) from by omega,
    Nat.testBit_two_pow_mul_add _ hb, Nat.testBit_two_pow_mul_add _ hd, Nat.testBit_two_pow_mul_add _ hbd]
  by_cases h : i < 8
  · rw [if_pos h, if_pos h, if_pos h, Nat.testBit_and]
  · rw [if_neg h, if_neg h, if_neg h, Nat.testBit_and]
def f1 (k w : Nat) : Nat := (w / 2 &&& MM 85 k) + (w &&& MM 85 k)
def f2 (k x : Nat) : Nat := (x / 4 &&& MM 51 k) + (x &&& MM 51 k)
def f3 (k x : Nat) : Nat := (x / 16 + x) &&& MM 15 k
def g1 (b : Nat) : Nat := (b / 2 &&& 85) + (b &&& 85)
def g2 (c : Nat) : Nat := (c / 4 &&& 51) + (c &&& 51)
def pop8 (b : Nat) : Nat := cnt 8 b.testBit
theorem d1 : ∀ b < 256, (∀ e < 2, (e * 128 + b / 2) &&& 85 = b / 2 &&& 85) ∧ g1 b < 256 := by decide +kernel
theorem d2 : ∀ b < 256, (∀ e < 4, (e * 64 + b / 4) &&& 51 = b / 4 &&& 51) ∧ g2 b < 256 := by decide +kernel
theorem d3 : ∀ b < 256, g2 (g1 b) % 16 ≤ 4 ∧ ∀ e < 5, e * 16 + g2 (g1 b) / 16 + g2 (g1 b) < 256 ∧ (e * 16 + g2 (g1 b) / 16 + g2 (g1 b)) &&& 15 = pop8 b := by decide +kernel
theorem pop8_le : ∀ b < 256, pop8 b ≤ 8 := by decide +kernel
theorem f1_succ (k w b : Nat) (hb : b < 256) : f1 (k + 1) (w * 256 + b) = f1 k w * 256 + g1 b := by
  unfold f1 g1
  have e : (w * 256 + b) / 2 = w / 2 * 256 + (w % 2 * 128 + b / 2) := by omega
  rw [e]
  simp only [MM]
  rw [and_split _ _ _ _ (by omega) (by decide), and_split _ _ _ _ hb (by decide), (d1 b hb).1 (w % 2) (by omega)]
  omega
theorem f2_succ (k w b : Nat) (hb : b < 256) : f2 (k + 1) (w * 256 + b) = f2 k w * 256 + g2 b := by
  unfold f2 g2
  have e : (w * 256 + b) / 4 = w / 4 * 256 + (w % 4 * 64 + b / 4) := by omega
  rw [e]
  simp only [MM]
  rw [and_split _ _ _ _ (by omega) (by decide), and_split _ _ _ _ hb (by decide), (d2 b hb).1 (w % 4) (by omega)]
  omega
def Y : Nat → Nat → Nat
  | 0, _ => 0
  | k + 1, w => Y k (w / 256) * 256 + pop8 (w % 256)
theorem steps (k : Nat) : ∀ w, w < 256 ^ k → f2 k (f1 k w) % 16 ≤ 4 ∧ f3 k (f2 k (f1 k w)) = Y k w := by
  induction k with
  | zero =>
    intro w hw
    have : w = 0 := by simp at hw; exact hw
    subst this
    exact ⟨by decide, rfl⟩
  | succ k ih =>
    intro w hw
    have hw2 : w / 256 < 256 ^ k := by rw [Nat.pow_succ] at hw; omega
    obtain ⟨h1, h2⟩ := ih (w / 256) hw2
    have hb : w % 256 < 256 := Nat.mod_lt _ (by decide)
    have e : w = w / 256 * 256 + w % 256 := by omega
    generalize w / 256 = v at *
    generalize w % 256 = b at *
    subst e
    rw [f1_succ _ _ _ hb, f2_succ _ _ _ (d1 b hb).2]
    generalize f2 k (f1 k v) = x at *
    obtain ⟨h3, h4⟩ := d3 b hb
    obtain ⟨h5, h6⟩ := h4 (x % 16) (by omega)
    have hg := (d2 (g1 b) (d1 b hb).2).2
    refine ⟨by omega, ?_⟩
    unfold f3 at *
    have e2 : (x * 256 + g2 (g1 b)) / 16 + (x * 256 + g2 (g1 b)) = (x / 16 + x) * 256 + (x % 16 * 16 + g2 (g1 b) / 16 + g2 (g1 b)) := by omega
    rw [e2]
    simp only [MM]
    rw [and_split _ _ _ _ h5 (by decide), h6, h2]
    show Y k v * 256 + pop8 b = Y k ((v * 256 + b) / 256) * 256 + pop8 ((v * 256 + b) % 256)
    rw [show (v * 256 + b) / 256 = v from by omega, show (v * 256 + b) % 256 = b from by omega]
def PP : Nat → Nat → Nat
  | 0, _ => 0
  | k + 1, w => PP k (w / 256) + pop8 (w % 256)
theorem cnt_PP (k : Nat) : ∀ w, cnt (8 * k) w.testBit = PP k w := by
  induction k with
  | zero => intro w; rfl
  | succ k ih =>
    intro w
    rw [show 8 * (k + 1) = 8 + 8 * k from by omega, cnt_add]
    simp only [PP]
    rw [← ih]
    have e1 : cnt 8 w.testBit = pop8 (w % 256) := cnt_congr 8 _ _ (fun i hi => by rw [show (256 : Nat) = 2 ^ 8 from rfl, Nat.testBit_mod_two_pow, decide_eq_true hi, Bool.true_and])
    have e2 : cnt (8 * k) (fun i => w.testBit (8 + i)) = cnt (8 * k) (w / 256).testBit := cnt_congr _ _ _ (fun i _ => by rw [show (256 : Nat) = 2 ^ 8 from rfl, Nat.testBit_div_two_pow, Nat.add_comm])
    rw [e1, e2]; omega
theorem pop_PP (w : Nat) : pop w = PP 8 w := cnt_PP 8 w
theorem dig_add {x y c x' y' c' : Nat} (h : x = y * 256 + c) (h' : x' = y' * 256 + c') : x + x' = (y + y') * 256 + (c + c') := by omega
theorem dig_div {x y c : Nat} (h : x = y * 256 + c) (hc : c < 256) : x / 256 = y := by omega
theorem dig_div2 {x y z c d : Nat} (h : x = y * 256 + c) (h' : y = z * 256 + d) (hc : c < 256) (hd : d < 256) : x / 65536 = z := by
  rw [show 65536 = 256 * 256 from rfl, ← Nat.div_div_eq_div_mul, dig_div h hc, dig_div h' hd]
theorem dig_mod {x y c : Nat} (h : x = y * 256 + c) : x % 128 = c % 128 := by omega
theorem dig_lt {x y c B : Nat} (h : x = y * 256 + c) (hy : y ≤ B) (hc : c ≤ 255) : x ≤ B * 256 + 255 := by omega
set_option maxRecDepth 100000 in
theorem fold8 (t0 t1 t2 t3 t4 t5 t6 h a b c d e f g : Nat) (ha : a ≤ 8) (hb : b ≤ 8) (hc : c ≤ 8) (hd : d ≤ 8) (he : e ≤ 8) (hf : f ≤ 8) (hg : g ≤ 8) (hh : h ≤ 8)
    (h6 : t6 = h * 256 + g) (h5 : t5 = t6 * 256 + f) (h4 : t4 = t5 * 256 + e) (h3 : t3 = t4 * 256 + d) (h2 : t2 = t3 * 256 + c) (h1 : t1 = t2 * 256 + b) (h0 : t0 = t1 * 256 + a)
    (y4 y5 y6 : Nat) (hy4 : y4 = t0 + t0 / 256) (hy5 : y5 = y4 + y4 / 65536) (hy6 : y6 = y5 + y5 / 4294967296) : y6 % 128 = a + b + c + d + e + f + g + h ∧ y6 < 9223372036854775808 := by
  have h7 : h = 0 * 256 + h := by rw [Nat.zero_mul, Nat.zero_add]
  rw [dig_div h0 (by clear h0 h1 h2 h3 h4 h5 h6 h7 hy4 hy5 hy6; omega)] at hy4
  have V0 := dig_add h0 h1
  have V1 := dig_add h1 h2
  have V2 := dig_add h2 h3
  have V3 := dig_add h3 h4
  have V4 := dig_add h4 h5
  have V5 := dig_add h5 h6
  have V6 := dig_add h6 h7
  rw [Nat.add_zero] at V6
  clear h0 h1 h2 h3 h4 h5 h6
  rw [← hy4] at V0
  generalize t1 + t2 = u1 at *
  generalize t2 + t3 = u2 at *
  generalize t3 + t4 = u3 at *
  generalize t4 + t5 = u4 at *
  generalize t5 + t6 = u5 at *
  generalize t6 + h = u6 at *
  clear hy4
  rw [dig_div2 V0 V1 (by clear V0 V1 V2 V3 V4 V5 V6 h7 hy5 hy6; omega) (by clear V0 V1 V2 V3 V4 V5 V6 h7 hy5 hy6; omega)] at hy5
  have X0 := dig_add V0 V2
  have X1 := dig_add V1 V3
  have X2 := dig_add V2 V4
  have X3 := dig_add V3 V5
  have X4 := dig_add V4 V6
  have X5 := dig_add V5 h7
  rw [Nat.add_zero] at X5
  have B5 : u5 + h ≤ 600000 := by
    have := dig_lt V6 hh (show g + h ≤ 255 by clear V0 V1 V2 V3 V4 V5 V6 h7 hy5 hy6 X0 X1 X2 X3 X4 X5; omega)
    have := dig_lt V5 this (show f + g ≤ 255 by clear V0 V1 V2 V3 V4 V5 V6 h7 hy5 hy6 X0 X1 X2 X3 X4 X5; omega)
    clear V0 V1 V2 V3 V4 V5 V6 h7 hy5 hy6 X0 X1 X2 X3 X4 X5
    omega
  clear V0 V1 V2 V3 V4 V5 V6
  rw [← hy5] at X0
  generalize u1 + u3 = v1 at *
  generalize u2 + u4 = v2 at *
  generalize u3 + u5 = v3 at *
  generalize u4 + u6 = v4 at *
  generalize u5 + h = v5 at *
  clear hy5 X5 h7
  have k0 : a + b + (c + d) ≤ 255 := by clear X0 X1 X2 X3 X4 hy6 B5; omega
  have k1 : b + c + (d + e) ≤ 255 := by clear X0 X1 X2 X3 X4 hy6 B5; omega
  have k2 : c + d + (e + f) ≤ 255 := by clear X0 X1 X2 X3 X4 hy6 B5; omega
  have k3 : d + e + (f + g) ≤ 255 := by clear X0 X1 X2 X3 X4 hy6 B5; omega
  have k4 : e + f + (g + h) ≤ 255 := by clear X0 X1 X2 X3 X4 hy6 B5; omega
  have x3 : y5 / 4294967296 = v4 := by
    rw [show 4294967296 = 65536 * 65536 from rfl, ← Nat.div_div_eq_div_mul, dig_div2 X0 X1 (by exact Nat.lt_succ_of_le k0) (by exact Nat.lt_succ_of_le k1), dig_div2 X2 X3 (by exact Nat.lt_succ_of_le k2) (by exact Nat.lt_succ_of_le k3)]
  have b4 := dig_lt X4 B5 k4
  have b3 := dig_lt X3 b4 k3
  have b2 := dig_lt X2 b3 k2
  have b1 := dig_lt X1 b2 k1
  have b0 := dig_lt X0 b1 k0
  have m0 := dig_mod X0
  have m4 := dig_mod X4
  rw [x3] at hy6
  clear X0 X1 X2 X3 X4 x3 k1 k2 k3
  subst hy6
  constructor
  · clear b4 b3 b2 b1 b0 B5
    rw [Nat.add_mod, m0, m4, ← Nat.add_mod]
    clear m0 m4
    omega
  · clear m0 m4 b3 b2 b1
    omega
end Go.Proofs.YtofkamnmgpkehaaDoor
