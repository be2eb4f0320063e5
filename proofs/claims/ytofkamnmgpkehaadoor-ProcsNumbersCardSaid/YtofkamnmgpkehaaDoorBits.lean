import Derived.Laws.Bits64b
import Derived.Lib.TrailingZeros
import Derived.KernelRfl
/- Sets of bits: plain laws. -/
namespace Go.Proofs.YtofkamnmgpkehaaDoor
def cnt : Nat → (Nat → Bool) → Nat
  | 0, _ => 0
  | n + 1, f => (f 0).toNat + cnt n (fun i => f (i + 1))
theorem cnt_congr (n : Nat) : ∀ (f g : Nat → Bool), (∀ i, i < n → f i = g i) → cnt n f = cnt n g := by
  induction n with
  | zero => intro f g _; rfl
  | succ n ih => intro f g h; simp only [cnt]; rw [h 0 (by omega), ih _ (fun i => g (i + 1)) (fun i hi => h (i + 1) (by omega))]
theorem cnt_add (m n : Nat) : ∀ f : Nat → Bool, cnt (m + n) f = cnt m f + cnt n (fun i => f (m + i)) := by
  induction m with
  | zero => intro f; simp [cnt]
  | succ m ih =>
    intro f
    rw [show m + 1 + n = (m + n) + 1 from by omega]
    simp only [cnt]
    rw [ih, Nat.add_assoc]
    congr 2
    exact cnt_congr n _ _ (fun i _ => by rw [show m + i + 1 = m + 1 + i from by omega])
theorem cnt_false (n : Nat) : ∀ f : Nat → Bool, (∀ i, i < n → f i = false) → cnt n f = 0 := by
  induction n with
  | zero => intro f _; rfl
  | succ n ih => intro f h; simp only [cnt]; rw [h 0 (by omega), ih _ (fun i hi => h (i + 1) (by omega))]; rfl
theorem cnt_set (n : Nat) : ∀ (k : Nat) (f : Nat → Bool), k < n → f k = false → cnt n (fun i => f i || decide (i = k)) = cnt n f + 1 := by
  induction n with
  | zero => intro k f hk; exact absurd hk (Nat.not_lt_zero _)
  | succ n ih =>
    intro k f hk hf
    simp only [cnt]
    cases k with
    | zero =>
      rw [hf, cnt_congr n _ (fun i => f (i + 1)) (fun i _ => by simp)]
      simp; omega
    | succ k =>
      have e : cnt n (fun i => f (i + 1) || decide (i + 1 = k + 1)) = cnt n (fun i => f (i + 1) || decide (i = k)) := cnt_congr n _ _ (fun i _ => by simp)
      rw [e, ih k (fun i => f (i + 1)) (by omega) hf]
      simp; omega
def pop (w : Nat) : Nat := cnt 64 w.testBit
def mem (ws : List Nat) (x : Nat) : Bool := (ws.getD (x / 64) 0).testBit (x % 64)
theorem mem_cons_lt (w : Nat) (ws : List Nat) (i : Nat) (h : i < 64) : mem (w :: ws) i = w.testBit i := by
  unfold mem; rw [Nat.div_eq_of_lt h, Nat.mod_eq_of_lt h]; rfl
theorem mem_cons_add (w : Nat) (ws : List Nat) (i : Nat) : mem (w :: ws) (64 + i) = mem ws i := by
  unfold mem
  rw [show (64 + i) / 64 = i / 64 + 1 from by omega, show (64 + i) % 64 = i % 64 from by omega]
  rfl
theorem len_eq (ws : List Nat) : (ws.map pop).sum = cnt (64 * ws.length) (mem ws) := by
  induction ws with
  | nil => rfl
  | cons w ws ih =>
    rw [List.map_cons, List.sum_cons, List.length_cons, show 64 * (ws.length + 1) = 64 + 64 * ws.length from by omega, cnt_add, ih]
    have e1 : pop w = cnt 64 (mem (w :: ws)) := cnt_congr 64 _ _ (fun i hi => (mem_cons_lt w ws i hi).symm)
    have e2 : cnt (64 * ws.length) (mem ws) = cnt (64 * ws.length) (fun i => mem (w :: ws) (64 + i)) := cnt_congr _ _ _ (fun i _ => (mem_cons_add w ws i).symm)
    rw [e1, e2]
theorem mem_set (ws : List Nat) (k v x : Nat) (hk : k < ws.length) : mem (ws.set k v) x = if x / 64 = k then v.testBit (x % 64) else mem ws x := by
  unfold mem
  rw [List.getD_eq_getElem?_getD, List.getElem?_set]
  by_cases h : k = x / 64
  · rw [if_pos h, if_pos (by omega), if_pos h.symm]; rfl
  · rw [if_neg h, if_neg (fun e => h e.symm), List.getD_eq_getElem?_getD]
theorem mem_add (ws : List Nat) (y x : Nat) (hk : y / 64 < ws.length) : mem (ws.set (y / 64) (ws.getD (y / 64) 0 ||| 2 ^ (y % 64))) x = (mem ws x || decide (x = y)) := by
  rw [mem_set _ _ _ _ hk]
  by_cases h : x / 64 = y / 64
  · rw [if_pos h, Nat.testBit_or, Nat.testBit_two_pow]
    unfold mem
    rw [h]
    congr 1
    exact decide_eq_decide.2 ⟨fun e => by omega, fun e => by rw [e]⟩
  · rw [if_neg h, decide_eq_false (fun e => h (by rw [e])), Bool.or_false]
/-- a without b's bits. -/
def clr (a b : Nat) : Nat := (BitVec.ofNat 64 a &&& ~~~ BitVec.ofNat 64 b).toNat
theorem clr_lt (a b : Nat) : clr a b < 18446744073709551616 := (BitVec.ofNat 64 a &&& ~~~ BitVec.ofNat 64 b).isLt
theorem clr_bit (a b t : Nat) (ht : t < 64) : (clr a b).testBit t = (a.testBit t && !b.testBit t) := by
  unfold clr
  rw [BitVec.testBit_toNat, BitVec.getLsbD_and, BitVec.getLsbD_not, BitVec.getLsbD_ofNat, BitVec.getLsbD_ofNat]
  simp [ht]
theorem mem_drop (ws : List Nat) (y x : Nat) (hk : y / 64 < ws.length) : mem (ws.set (y / 64) (clr (ws.getD (y / 64) 0) (2 ^ (y % 64)))) x = (mem ws x && !decide (x = y)) := by
  rw [mem_set _ _ _ _ hk]
  by_cases h : x / 64 = y / 64
  · rw [if_pos h, clr_bit _ _ _ (Nat.mod_lt _ (by decide)), Nat.testBit_two_pow]
    unfold mem
    rw [h]
    congr 2
    exact decide_eq_decide.2 ⟨fun e => by omega, fun e => by rw [e]⟩
  · rw [if_neg h, decide_eq_false (fun e => h (by rw [e]))]; simp
theorem bits_andNot_u64 (a b : Nat) : Go.bits .andNot .u64 (a : Int) (b : Int) = ((clr a b : Nat) : Int) := by
  have h1 : BitVec.ofInt 64 (a : Int) = BitVec.ofNat 64 a := BitVec.ofInt_natCast 64 a
  have h2 : BitVec.ofInt 64 (b : Int) = BitVec.ofNat 64 b := BitVec.ofInt_natCast 64 b
  show Go.IntKind.u64.wrap ((BitVec.ofInt 64 (a : Int) &&& ~~~ BitVec.ofInt 64 (b : Int)).toNat : Int) = _
  rw [h1, h2]
  have := clr_lt a b
  unfold clr at *
  rw [Go.IntKind.wrap_u64]
  omega
/-- The numbers of one word, of all. -/
def bl (w : Nat) : List Nat := (List.range 64).filter w.testBit
def eW : Nat → List Nat → List Nat
  | _, [] => []
  | i, w :: ws => (bl w).map (64 * i + ·) ++ eW (i + 1) ws
theorem eW_mem (ws : List Nat) : ∀ (i x : Nat), x ∈ eW i ws → ∃ y, x = 64 * i + y ∧ y < 64 * ws.length ∧ mem ws y = true := by
  induction ws with
  | nil => intro i x h; cases h
  | cons w ws ih =>
    intro i x h
    rcases List.mem_append.1 h with h | h
    · obtain ⟨t, ht, rfl⟩ := List.mem_map.1 h
      obtain ⟨h1, h2⟩ := List.mem_filter.1 ht
      have h3 := List.mem_range.1 h1
      exact ⟨t, rfl, by rw [List.length_cons]; omega, by rw [mem_cons_lt w ws t h3]; exact h2⟩
    · obtain ⟨y, rfl, hy, hm⟩ := ih (i + 1) x h
      exact ⟨64 + y, by omega, by rw [List.length_cons]; omega, by rw [mem_cons_add]; exact hm⟩
theorem bl_zero : bl 0 = [] := by unfold bl; rw [List.filter_eq_nil_iff]; intro a _; simp
theorem filter_first (n c : Nat) (p q : Nat → Bool) (hc : c < n) (hp : p c = true) (h0 : ∀ i, i < c → p i = false) (hq : ∀ i, q i = (p i && !decide (i = c))) : (List.range n).filter p = c :: (List.range n).filter q := by
  obtain ⟨r, rfl⟩ : ∃ r, n = c + (1 + r) := ⟨n - c - 1, by omega⟩
  have e1 : (List.range c).filter p = [] := by rw [List.filter_eq_nil_iff]; intro a ha; rw [h0 a (List.mem_range.1 ha)]; simp
  have e2 : (List.range c).filter q = [] := by rw [List.filter_eq_nil_iff]; intro a ha; rw [hq, h0 a (List.mem_range.1 ha)]; simp
  have e3 : ((List.range r).map (fun x => c + (1 + x))).filter p = ((List.range r).map (fun x => c + (1 + x))).filter q := by
    apply List.filter_congr
    intro x hx
    obtain ⟨t, _, rfl⟩ := List.mem_map.1 hx
    rw [hq, decide_eq_false (by omega)]; simp
  have hqc : q c = false := by rw [hq]; simp
  rw [List.range_add, List.range_add, List.filter_append, List.filter_append, e1, e2, List.map_append, List.filter_append, List.filter_append, List.map_map]
  have e4 : ((List.range 1).map (c + ·)).filter p = [c] := by simp [List.range_succ, hp]
  have e5 : ((List.range 1).map (c + ·)).filter q = [] := by simp [List.range_succ, hqc]
  rw [e4, e5]
  show c :: _ = c :: _
  congr 1
theorem bl_step (w : Nat) (h0 : w ≠ 0) (h : w < 18446744073709551616) : bl w = Go.Lib.ctz 64 w :: bl (w &&& (w - 1)) ∧ Go.Lib.ctz 64 w < 64 ∧ w &&& (w - 1) < w := by
  have hz : Go.Lib.ctz 64 w = Go.Lib.ctzFrom 64 w := by unfold Go.Lib.ctz; rw [if_neg h0]
  obtain ⟨m, hm, hc⟩ := Go.Lib.ctzFrom_spec 64 w (by omega) (by simpa using h)
  rw [← hz] at hm hc
  generalize Go.Lib.ctz 64 w = c at *
  have hpc : 0 < 2 ^ c := Nat.two_pow_pos c
  have hw : w = 2 ^ c * (2 * m + 1) + 0 := by omega
  have hw1 : w - 1 = 2 ^ c * (2 * m) + (2 ^ c - 1) := by rw [hm, Nat.mul_add, Nat.mul_one]; omega
  have t1 : ∀ i, w.testBit i = (decide (c ≤ i) && (2 * m + 1).testBit (i - c)) := fun i => by
    rw [hm, Nat.testBit_two_pow_mul]
  have t2 : ∀ i, (w &&& (w - 1)).testBit i = (w.testBit i && !decide (i = c)) := fun i => by
    rw [Nat.testBit_and, hw1, Nat.testBit_two_pow_mul_add _ (by omega), t1]
    by_cases h1 : i < c
    · rw [decide_eq_false (by omega)]; simp
    · rw [if_neg h1, decide_eq_true (by omega)]
      by_cases h2 : i = c
      · subst h2; simp [Nat.testBit_zero]
      · obtain ⟨d, rfl⟩ : ∃ d, i = c + (d + 1) := ⟨i - c - 1, by omega⟩
        rw [decide_eq_false h2, show c + (d + 1) - c = d + 1 from by omega, Nat.testBit_succ, Nat.testBit_succ, show (2 * m + 1) / 2 = m from by omega, show 2 * m / 2 = m from by omega]
        simp
  refine ⟨?_, hc, ?_⟩
  · unfold bl
    refine filter_first 64 c _ _ hc ?_ ?_ t2
    · rw [t1, decide_eq_true (Nat.le_refl _)]; simp
    · intro i hi; rw [t1, decide_eq_false (by omega)]; rfl
  · have := Nat.and_le_right (n := w) (m := w - 1); omega
end Go.Proofs.YtofkamnmgpkehaaDoor
