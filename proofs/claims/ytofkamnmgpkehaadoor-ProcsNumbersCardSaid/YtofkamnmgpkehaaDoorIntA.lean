import Derived.Test.YtofkamnmgpkehaaDoorSet6
import Derived.Test.YtofkamnmgpkehaaDoorWrd3
/- Sets of ints: made, one more, one less. -/
namespace Go.Proofs.YtofkamnmgpkehaaDoor.I
open Go.RowKit
attribute [local go_sem] Oper.semAt_some
theorem run_b74 (x : Int) (a : Option Addr) (n c : Nat) (w : World) : (Instr.build 67 #[(0, .int .i64 x), (1, .slice a n c)]).run Tryd.prog w = .ok (.agg #[.int .i64 x, .slice a n c]) w := by kernel_rfl
set_option maxRecDepth 100000 in
set_option maxHeartbeats 1000000 in
theorem newset_any (N : Nat) (hN : N ≤ 1048576) (w : World) : Calls Tryd.prog 15 #[.int .i64 N] w fun e w' => ∃ b vw, e = .returned (.tuple #[.pointer (some ⟨b, 0, none⟩), .int .i64 0]) ∧ SetAt w' w.heap.size b vw N (List.replicate ((N + 63) / 64) 0) ∧ Below w.heap.size w w' := by
  have hb74 := run_b74
  have h0 : (0 : Int) ≤ (N : Int) := by omega
  have h1 : decide ((1048576 : Int) < (N : Int)) = false := decide_eq_false (by omega)
  have h2 : decide ((N : Int) < 0) = false := decide_eq_false (by omega)
  obtain ⟨i1, hi1, x0, x1, x2⟩ := info_parts info78
  obtain ⟨q, hq⟩ : ∃ q, q = (N + 63) / 64 := ⟨_, rfl⟩
  have hqi : ((N : Int) + 63) / 64 = (q : Int) := by omega
  have hq20 : q ≤ 16384 := by omega
  have hwr : Below w.heap.size w w := Below.refl _ _
  have hsz : w.heap.size ≤ w.heap.size := Nat.le_refl _
  rw [← hq]
  have Hq := Lib.hid hq
  clear hq
  go_enter Tryd.func15, Tryd.ntmps15
  go_wp2_with (at_make; refine wpList_make_full _ rfl _ _ 65 rfl w.heap.size 78 i1 (.int .u64 0) 1 Tryd.underlying65 hi1 x0 x1 .i64 .i64 _ _ q rfl rfl hqi hqi (by rw [x2]; omega) (by unfold maxLen; omega) hsz ?_; intro w9 ho9 hg9)
  rw [made_words] at ho9
  have hb9 : Below w.heap.size w w9 := grownBy_below hg9
  have hs9 := hb9.size
  refine bodyPost_ret (v := .tuple #[.pointer (some ⟨w9.heap.size, 0, none⟩), .int .i64 0]) (by simp [results, Tryd.results15, go_sem]) rfl ⟨w9.heap.size, .slice (some ⟨w.heap.size, 0, none⟩) q q, rfl, ⟨?_, ?_, hs9, ?_, ?_, ?_, hN, ?_⟩, Bel.al hb9 _⟩
  · simp [go_sem]
  · simp [go_sem]
  · rw [List.length_replicate]; exact ho9.alloc _
  · intro e; have := (ho9.lt _ e).2; omega
  · intro k; rw [List.getD_eq_getElem?_getD, List.getElem?_replicate]; split <;> simp
  · rw [List.length_replicate]; exact Hq.out
set_option maxRecDepth 100000 in
set_option maxHeartbeats 1000000 in
theorem holds_yes {W : World} {B b : Nat} {vw : Value} {N : Nat} {ws : List Nat} (h : SetAt W B b vw N ws) (x : Nat) (hx : x < N) :
    Calls Tryd.prog 45 #[.pointer (some ⟨b, 0, none⟩), .int .i64 x] W fun e w' => e = .returned (.tuple #[.int .i64 (x / 64 : Nat), .int .u64 (2 ^ (x % 64) : Nat), .bool true]) ∧ w' = W := by
  have hc := h.c0
  have hN := h.hN
  have h1 : decide ((x : Int) < 0) = false := decide_eq_false (by omega)
  have h2 : decide ((N : Int) ≤ (x : Int)) = false := decide_eq_false (by omega)
  have h3 : decide (N ≤ x) = false := decide_eq_false (by omega)
  have hw : IntKind.i64.wrap (x : Int) = (x : Int) := IntWalk.i64_in _ (by omega)
  have hp := Nat.pow_lt_pow_right (show 1 < 2 by decide) (Nat.mod_lt x (show 0 < 64 by decide))
  clear h
  go_enter Tryd.func45, Tryd.ntmps45
  go_wp2
  have e1 : (x : Int) / 64 = ((x / 64 : Nat) : Int) := by omega
  have e2 : IntKind.u64.wrap (2 ^ (x % 64)) = ((2 ^ (x % 64) : Nat) : Int) := by
    rw [show (2 : Int) ^ (x % 64) = ((2 ^ (x % 64) : Nat) : Int) from by rw [Int.natCast_pow]; rfl, IntKind.wrap_u64]
    generalize 2 ^ (x % 64) = p at *
    omega
  exact bodyPost_ret (v := .tuple #[.int .i64 (x / 64 : Nat), .int .u64 (2 ^ (x % 64) : Nat), .bool true]) (by rw [← e1, ← e2]; simp [results, Tryd.results45, go_sem]) rfl ⟨rfl, rfl⟩
set_option maxRecDepth 100000 in
set_option maxHeartbeats 1000000 in
theorem holds_no {W : World} {B b : Nat} {vw : Value} {N : Nat} {ws : List Nat} (h : SetAt W B b vw N ws) (x : Nat) (hx32 : x < 9223372036854775808) (hx : ¬ x < N) :
    Calls Tryd.prog 45 #[.pointer (some ⟨b, 0, none⟩), .int .i64 x] W fun e w' => e = .returned (.tuple #[.int .i64 0, .int .u64 0, .bool false]) ∧ w' = W := by
  have hc := h.c0
  have hN := h.hN
  have h1 : decide ((x : Int) < 0) = false := decide_eq_false (by omega)
  have h2 : decide ((N : Int) ≤ (x : Int)) = true := decide_eq_true (by omega)
  have hw : IntKind.i64.wrap (x : Int) = (x : Int) := IntWalk.i64_in _ (by omega)
  have h3 : decide (N ≤ x) = true := decide_eq_true (by omega)
  clear h
  go_enter Tryd.func45, Tryd.ntmps45
  go_wp2
  exact bodyPost_ret (v := .tuple #[.int .i64 0, .int .u64 0, .bool false]) (by simp [results, Tryd.results45, go_sem]) rfl ⟨rfl, rfl⟩
set_option maxRecDepth 100000 in
set_option maxHeartbeats 1000000 in
theorem add_any {W : World} {B b : Nat} {vw : Value} {N : Nat} {ws : List Nat} (h : SetAt W B b vw N ws) (x : Nat) (hx32 : x < 9223372036854775808) :
    Calls Tryd.prog 30 #[.pointer (some ⟨b, 0, none⟩), .int .i64 x] W fun e w' => e = .returned (.bool (decide (x < N) && !mem ws x)) ∧ W.grownBy w' vw.ownBlock ∧
      ∃ ws', SetAt w' B b vw N ws' ∧ ∀ y, mem ws' y = (mem ws y || (decide (x < N) && decide (y = x))) := by
  by_cases hx : x < N
  · have H := Lib.hid (holds_yes h x hx)
    obtain ⟨hk, hlen, q, c, rfl, hqb, hBq, hcq, hfq⟩ := h.word x hx
    have hc1 := h.c1
    have hj := Nat.mod_lt x (show 0 < 64 by decide)
    have hwl := h.hl (x / 64)
    obtain ⟨hn, he⟩ := bit_ne (ws.getD (x / 64) 0) (x % 64) hwl hj
    have hp := Nat.pow_lt_pow_right (show 1 < 2 by decide) hj
    have hor : bits .or .u64 ((ws.getD (x / 64) 0 : Nat) : Int) ((2 ^ (x % 64) : Nat) : Int) = ((ws.getD (x / 64) 0 ||| 2 ^ (x % 64) : Nat) : Int) := bits_or_u64_nat _ _ hwl (by omega)
    have hst := h.store (x / 64) (ws.getD (x / 64) 0 ||| 2 ^ (x % 64)) (by have := Nat.or_lt_two_pow (n := 64) (by simpa using hwl) (by simpa using hp); simpa using this)
    have hme := fun y => mem_add ws x y hk
    have hm : mem ws x = (ws.getD (x / 64) 0).testBit (x % 64) := rfl
    have Hh := Lib.hid h
    rw [← hm] at hn he
    have hk0 : (0 : Int) ≤ ((x / 64 : Nat) : Int) := by omega
    have hki : ((x / 64 : Nat) : Int) < (ws.length : Int) := by omega
    have Hst := Lib.hid (And.intro hst hme)
    clear h hst hme hm he
    generalize x / 64 = i at *
    generalize 2 ^ (x % 64) = p at *
    generalize ws.getD i 0 = wv at *
    rw [decide_eq_true hx, Bool.true_and]
    cases hmx : mem ws x
    · rw [hmx] at hn
      have Hmx := Lib.hid hmx
      clear hmx
      go_enter Tryd.func30, Tryd.ntmps30
      go_wp2_with (go_at_call 45; refine H.out.mono ?_; rintro e w1 ⟨rfl, hw1⟩; subst hw1)
      refine bodyPost_ret (v := .bool true) (by simp [results, Tryd.results30, go_sem]) rfl ⟨rfl, Hst.out.1.2, _, Hst.out.1.1, fun y => ?_⟩
      rw [Hst.out.2 y, Bool.true_and]
    · rw [hmx] at hn
      have Hmx := Lib.hid hmx
      clear hmx
      go_enter Tryd.func30, Tryd.ntmps30
      go_wp2_with (go_at_call 45; refine H.out.mono ?_; rintro e w1 ⟨rfl, hw1⟩; subst hw1)
      refine bodyPost_ret (v := .bool false) (by simp [results, Tryd.results30, go_sem]) rfl ⟨rfl, grownBy_refl _ _, ws, Hh.out, fun y => ?_⟩
      by_cases e : y = x
      · rw [e, Hmx.out]; rfl
      · rw [decide_eq_false e]; simp
  · have H := Lib.hid (holds_no h x hx32 hx)
    have Hh := Lib.hid h
    rw [decide_eq_false hx]
    clear h
    go_enter Tryd.func30, Tryd.ntmps30
    go_wp2_with (go_at_call 45; refine H.out.mono ?_; rintro e w1 ⟨rfl, hw1⟩; subst hw1)
    exact bodyPost_ret (v := .bool false) (by simp [results, Tryd.results30, go_sem]) rfl ⟨rfl, grownBy_refl _ _, ws, Hh.out, fun y => by simp⟩
set_option maxRecDepth 100000 in
set_option maxHeartbeats 1000000 in
theorem drop_any {W : World} {B b : Nat} {vw : Value} {N : Nat} {ws : List Nat} (h : SetAt W B b vw N ws) (x : Nat) (hx32 : x < 9223372036854775808) :
    Calls Tryd.prog 31 #[.pointer (some ⟨b, 0, none⟩), .int .i64 x] W fun e w' => e = .returned (.bool (decide (x < N) && mem ws x)) ∧ W.grownBy w' vw.ownBlock ∧
      ∃ ws', SetAt w' B b vw N ws' ∧ ∀ y, mem ws' y = (mem ws y && !(decide (x < N) && decide (y = x))) := by
  by_cases hx : x < N
  · have H := Lib.hid (holds_yes h x hx)
    obtain ⟨hk, hlen, q, c, rfl, hqb, hBq, hcq, hfq⟩ := h.word x hx
    have hc1 := h.c1
    have hj := Nat.mod_lt x (show 0 < 64 by decide)
    have hwl := h.hl (x / 64)
    obtain ⟨hn, he⟩ := bit_ne (ws.getD (x / 64) 0) (x % 64) hwl hj
    have hp := Nat.pow_lt_pow_right (show 1 < 2 by decide) hj
    have hor : bits .andNot .u64 ((ws.getD (x / 64) 0 : Nat) : Int) ((2 ^ (x % 64) : Nat) : Int) = ((clr (ws.getD (x / 64) 0) (2 ^ (x % 64)) : Nat) : Int) := bits_andNot_u64 _ _
    have hst := h.store (x / 64) (clr (ws.getD (x / 64) 0) (2 ^ (x % 64))) (clr_lt _ _)
    have hme := fun y => mem_drop ws x y hk
    have hm : mem ws x = (ws.getD (x / 64) 0).testBit (x % 64) := rfl
    have Hh := Lib.hid h
    rw [← hm] at hn he
    have hk0 : (0 : Int) ≤ ((x / 64 : Nat) : Int) := by omega
    have hki : ((x / 64 : Nat) : Int) < (ws.length : Int) := by omega
    have Hst := Lib.hid (And.intro hst hme)
    clear h hst hme hm
    generalize x / 64 = i at *
    generalize 2 ^ (x % 64) = p at *
    generalize ws.getD i 0 = wv at *
    rw [decide_eq_true hx, Bool.true_and]
    cases hmx : mem ws x
    · rw [hmx] at he
      have Hmx := Lib.hid hmx
      clear hmx
      go_enter Tryd.func31, Tryd.ntmps31
      go_wp2_with (go_at_call 45; refine H.out.mono ?_; rintro e w1 ⟨rfl, hw1⟩; subst hw1)
      refine bodyPost_ret (v := .bool false) (by simp [results, Tryd.results31, go_sem]) rfl ⟨rfl, grownBy_refl _ _, ws, Hh.out, fun y => ?_⟩
      by_cases e : y = x
      · rw [e, Hmx.out]; rfl
      · rw [decide_eq_false e]; simp
    · rw [hmx] at he
      have Hmx := Lib.hid hmx
      clear hmx
      go_enter Tryd.func31, Tryd.ntmps31
      go_wp2_with (go_at_call 45; refine H.out.mono ?_; rintro e w1 ⟨rfl, hw1⟩; subst hw1)
      refine bodyPost_ret (v := .bool true) (by simp [results, Tryd.results31, go_sem]) rfl ⟨rfl, Hst.out.1.2, _, Hst.out.1.1, fun y => ?_⟩
      rw [Hst.out.2 y, Bool.true_and]
  · have H := Lib.hid (holds_no h x hx32 hx)
    have Hh := Lib.hid h
    rw [decide_eq_false hx]
    clear h
    go_enter Tryd.func31, Tryd.ntmps31
    go_wp2_with (go_at_call 45; refine H.out.mono ?_; rintro e w1 ⟨rfl, hw1⟩; subst hw1)
    exact bodyPost_ret (v := .bool false) (by simp [results, Tryd.results31, go_sem]) rfl ⟨rfl, grownBy_refl _ _, ws, Hh.out, fun y => by simp⟩
set_option maxRecDepth 100000 in
set_option maxHeartbeats 1000000 in
theorem has_any {W : World} {B b : Nat} {vw : Value} {N : Nat} {ws : List Nat} (h : SetAt W B b vw N ws) (x : Nat) (hx32 : x < 9223372036854775808) :
    Calls Tryd.prog 32 #[.pointer (some ⟨b, 0, none⟩), .int .i64 x] W fun e w' => e = .returned (.bool (decide (x < N) && mem ws x)) ∧ w' = W := by
  by_cases hx : x < N
  · have H := Lib.hid (holds_yes h x hx)
    obtain ⟨hk, hlen, q, c, rfl, hqb, hBq, hcq, hfq⟩ := h.word x hx
    have hc1 := h.c1
    have hj := Nat.mod_lt x (show 0 < 64 by decide)
    have hwl := h.hl (x / 64)
    obtain ⟨hn, he⟩ := bit_ne (ws.getD (x / 64) 0) (x % 64) hwl hj
    have hm : mem ws x = (ws.getD (x / 64) 0).testBit (x % 64) := rfl
    rw [← hm] at hn he
    have hk0 : (0 : Int) ≤ ((x / 64 : Nat) : Int) := by omega
    have hki : ((x / 64 : Nat) : Int) < (ws.length : Int) := by omega
    clear h hm he
    generalize x / 64 = i at *
    generalize 2 ^ (x % 64) = p at *
    generalize ws.getD i 0 = wv at *
    rw [decide_eq_true hx, Bool.true_and]
    generalize mem ws x = mb at *
    go_enter Tryd.func32, Tryd.ntmps32
    go_wp2_with (go_at_call 45; refine H.out.mono ?_; rintro e w1 ⟨rfl, hw1⟩; subst hw1)
    go_ret
    exact ⟨by simp, rfl⟩
  · have H := Lib.hid (holds_no h x hx32 hx)
    rw [decide_eq_false hx]
    clear h
    go_enter Tryd.func32, Tryd.ntmps32
    go_wp2_with (go_at_call 45; refine H.out.mono ?_; rintro e w1 ⟨rfl, hw1⟩; subst hw1)
    go_ret
    exact ⟨by simp, rfl⟩
set_option maxRecDepth 100000 in
set_option maxHeartbeats 1000000 in
theorem len_any {W : World} {B b : Nat} {vw : Value} {N : Nat} {ws : List Nat} (h : SetAt W B b vw N ws) :
    Calls Tryd.prog 33 #[.pointer (some ⟨b, 0, none⟩)] W fun e w' => e = .returned (.int .i64 ((ws.map pop).sum : Nat)) ∧ w' = W := by
  have hc1 := h.c1
  have hN := h.hN
  have hn := h.hn
  obtain ⟨a, c, rfl, hnc, hcm, hp⟩ := own_sl h.ow
  have Hp := Lib.hid hp
  have Hl := Lib.hid h.hl
  have hlm : ws.length ≤ 16384 := by omega
  clear h hp
  obtain ⟨n, hnn⟩ : ∃ n, n = ws.length := ⟨_, rfl⟩
  have HN := Lib.hid hnn
  rw [← hnn] at hnc hlm hc1
  clear hnn hn hN
  go_enter Tryd.func33, Tryd.ntmps33
  go_wp2_with fail
  go_loopw [13, 3] (fun i s wr => ∃ k, k ≤ n ∧ i = .int .i64 (k : Nat) ∧ s = .int .i64 (((ws.take k).map pop).sum : Nat) ∧ wr = W) (fun i _ _ => n - (intOf i).toNat)
  case atStart => exact ⟨0, by omega, rfl, rfl, rfl⟩
  case round =>
    obtain ⟨k, hk, rfl, rfl, rfl⟩ := hrel
    by_cases hlt : k < n
    · obtain ⟨q, rfl, hq, hc⟩ := Hp.out (by rw [← HN.out]; omega)
      have hkl : k < ws.length := by rw [← HN.out]; exact hlt
      have hcq := hc k (by rw [encN_length]; exact hkl)
      rw [encN_at _ _ _ hkl] at hcq
      have hs := sum_take ws k hkl
      have hle := sum_le ws k
      have hpl := pop_le (ws.getD k 0)
      have HO := Lib.hid (fun W => ones_any (ws.getD k 0) (Hl.out k) W)
      have Hs := Lib.hid hs
      have hki : (k : Int) < (n : Int) := by omega
      have hk0 : (0 : Int) ≤ (k : Int) := by omega
      clear hc hs hkl
      generalize ws.getD k 0 = wv at *
      generalize ((ws.take k).map pop).sum = sm at *
      generalize hpw : pop wv = pw at *
      go_wp2_with (go_at_call 38; refine (HO.out _).mono ?_; rintro e w1 ⟨rfl, hw1⟩; subst hw1)
      go_roundw
      case rel => exact ⟨k + 1, by omega, by go_num, by rw [Hs.out]; go_num, trivial⟩
      case measure => simp [intOf]; omega
    · obtain rfl : k = n := by omega
      have hfin : (ws.take k).map pop = ws.map pop := by rw [List.take_of_length_le (by rw [← HN.out]; exact Nat.le_refl _)]
      rw [hfin]
      go_wp2
      go_ret
      exact ⟨rfl, rfl⟩
end Go.Proofs.YtofkamnmgpkehaaDoor.I
