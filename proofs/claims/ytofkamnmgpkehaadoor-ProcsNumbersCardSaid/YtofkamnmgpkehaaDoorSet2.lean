import Derived.Test.YtofkamnmgpkehaaDoorSet1
/- Drop, Has, Len. -/
namespace Go.Proofs.YtofkamnmgpkehaaDoor
open Go.RowKit
set_option maxRecDepth 100000 in
set_option maxHeartbeats 1000000 in
theorem drop_any {W : World} {B b : Nat} {vw : Value} {N : Nat} {ws : List Nat} (h : SetAt W B b vw N ws) (x : Nat) (hx32 : x < 4294967296) :
    Calls Tryd.prog 21 #[.pointer (some ⟨b, 0, none⟩), .int .u32 x] W fun e w' => e = .returned (.bool (decide (x < N) && mem ws x)) ∧ W.grownBy w' vw.ownBlock ∧
      ∃ ws', SetAt w' B b vw N ws' ∧ ∀ y, mem ws' y = (mem ws y && !(decide (x < N) && decide (y = x))) := by
  by_cases hx : x < N
  · have H := Lib.hid (holds_yes h x hx)
    obtain ⟨hk, hlen, q, c, rfl, hqb, hBq, hcq, hfq⟩ := h.word x hx
    have hc1 := h.c1
    have hj := Nat.mod_lt x (show 0 < 64 by decide)
    have hwl := h.hl (x / 64)
    obtain ⟨hn, he⟩ := bit_ne (ws.getD (x / 64) 0) (x % 64) hwl hj
    have hp := Nat.pow_lt_pow_right (show 1 < 2 by decide) hj
    have hor : bits .andNot .u64 ((ws.getD (x / 64) 0 : Nat) : Int) ((2 ^ (x % 64) : Nat) : Int) = ((clr (ws.getD (x / 64) 0) (2 ^ (x % 64)) : Nat) : Int) := bits_andNot_u64 _ _
    have hst := h.store (x / 64) (clr (ws.getD (x / 64) 0) (2 ^ (x % 64))) (clr_lt _ _)
    have hme := fun y => mem_drop ws x y hk
    have hm : mem ws x = (ws.getD (x / 64) 0).testBit (x % 64) := rfl
    have Hh := Lib.hid h
    rw [← hm] at hn he
    have hk0 : (0 : Int) ≤ ((x / 64 : Nat) : Int) := by omega
    have hki : ((x / 64 : Nat) : Int) < (ws.length : Int) := by omega
    have Hst := Lib.hid (And.intro hst hme)
    clear h hst hme hm
    generalize x / 64 = i at *
    generalize 2 ^ (x % 64) = p at *
    generalize ws.getD i 0 = wv at *
    rw [decide_eq_true hx, Bool.true_and]
    cases hmx : mem ws x
    · rw [hmx] at he
      have Hmx := Lib.hid hmx
      clear hmx
      go_enter Tryd.func21, Tryd.ntmps21
      go_wp2_with (go_at_call 41; refine H.out.mono ?_; rintro e w1 ⟨rfl, hw1⟩; subst hw1)
      refine bodyPost_ret (v := .bool false) (by simp [results, Tryd.results21, go_sem]) rfl ⟨rfl, grownBy_refl _ _, ws, Hh.out, fun y => ?_⟩
      by_cases e : y = x
      · rw [e, Hmx.out]; rfl
      · rw [decide_eq_false e]; simp
    · rw [hmx] at he
      have Hmx := Lib.hid hmx
      clear hmx
      go_enter Tryd.func21, Tryd.ntmps21
      go_wp2_with (go_at_call 41; refine H.out.mono ?_; rintro e w1 ⟨rfl, hw1⟩; subst hw1)
      refine bodyPost_ret (v := .bool true) (by simp [results, Tryd.results21, go_sem]) rfl ⟨rfl, Hst.out.1.2, _, Hst.out.1.1, fun y => ?_⟩
      rw [Hst.out.2 y, Bool.true_and]
  · have H := Lib.hid (holds_no h x hx32 hx)
    have Hh := Lib.hid h
    rw [decide_eq_false hx]
    clear h
    go_enter Tryd.func21, Tryd.ntmps21
    go_wp2_with (go_at_call 41; refine H.out.mono ?_; rintro e w1 ⟨rfl, hw1⟩; subst hw1)
    exact bodyPost_ret (v := .bool false) (by simp [results, Tryd.results21, go_sem]) rfl ⟨rfl, grownBy_refl _ _, ws, Hh.out, fun y => by simp⟩
set_option maxRecDepth 100000 in
set_option maxHeartbeats 1000000 in
theorem has_any {W : World} {B b : Nat} {vw : Value} {N : Nat} {ws : List Nat} (h : SetAt W B b vw N ws) (x : Nat) (hx32 : x < 4294967296) :
    Calls Tryd.prog 22 #[.pointer (some ⟨b, 0, none⟩), .int .u32 x] W fun e w' => e = .returned (.bool (decide (x < N) && mem ws x)) ∧ w' = W := by
  by_cases hx : x < N
  · have H := Lib.hid (holds_yes h x hx)
    obtain ⟨hk, hlen, q, c, rfl, hqb, hBq, hcq, hfq⟩ := h.word x hx
    have hc1 := h.c1
    have hj := Nat.mod_lt x (show 0 < 64 by decide)
    have hwl := h.hl (x / 64)
    obtain ⟨hn, he⟩ := bit_ne (ws.getD (x / 64) 0) (x % 64) hwl hj
    have hm : mem ws x = (ws.getD (x / 64) 0).testBit (x % 64) := rfl
    rw [← hm] at hn he
    have hk0 : (0 : Int) ≤ ((x / 64 : Nat) : Int) := by omega
    have hki : ((x / 64 : Nat) : Int) < (ws.length : Int) := by omega
    clear h hm he
    generalize x / 64 = i at *
    generalize 2 ^ (x % 64) = p at *
    generalize ws.getD i 0 = wv at *
    rw [decide_eq_true hx, Bool.true_and]
    generalize mem ws x = mb at *
    go_enter Tryd.func22, Tryd.ntmps22
    go_wp2_with (go_at_call 41; refine H.out.mono ?_; rintro e w1 ⟨rfl, hw1⟩; subst hw1)
    go_ret
    exact ⟨by simp, rfl⟩
  · have H := Lib.hid (holds_no h x hx32 hx)
    rw [decide_eq_false hx]
    clear h
    go_enter Tryd.func22, Tryd.ntmps22
    go_wp2_with (go_at_call 41; refine H.out.mono ?_; rintro e w1 ⟨rfl, hw1⟩; subst hw1)
    go_ret
    exact ⟨by simp, rfl⟩
theorem pop_le (w : Nat) : pop w ≤ 64 := by
  have : ∀ (n : Nat) (f : Nat → Bool), cnt n f ≤ n := fun n => by
    induction n with
    | zero => intro f; exact Nat.le_refl _
    | succ n ih => intro f; simp only [cnt]; have := ih (fun i => f (i + 1)); have := Bool.toNat_le (f 0); omega
  exact this 64 _
theorem sum_take (ws : List Nat) (k : Nat) (hk : k < ws.length) : ((ws.take (k + 1)).map pop).sum = ((ws.take k).map pop).sum + pop (ws.getD k 0) := by
  rw [List.take_add_one, List.getElem?_eq_getElem hk, List.getD_eq_getElem?_getD, List.getElem?_eq_getElem hk, List.map_append, List.sum_append]
  simp
theorem sum_le (ws : List Nat) (k : Nat) : ((ws.take k).map pop).sum ≤ 64 * k := by
  induction k with
  | zero => simp
  | succ k ih =>
    by_cases hk : k < ws.length
    · rw [sum_take ws k hk]; have := pop_le (ws.getD k 0); omega
    · rw [List.take_of_length_le (by omega)]; rw [List.take_of_length_le (by omega)] at ih; omega
set_option maxRecDepth 100000 in
set_option maxHeartbeats 1000000 in
theorem len_any {W : World} {B b : Nat} {vw : Value} {N : Nat} {ws : List Nat} (h : SetAt W B b vw N ws) :
    Calls Tryd.prog 14 #[.pointer (some ⟨b, 0, none⟩)] W fun e w' => e = .returned (.int .i64 ((ws.map pop).sum : Nat)) ∧ w' = W := by
  have hc1 := h.c1
  have hN := h.hN
  have hn := h.hn
  obtain ⟨a, c, rfl, hnc, hcm, hp⟩ := own_sl h.ow
  have Hp := Lib.hid hp
  have Hl := Lib.hid h.hl
  have hlm : ws.length ≤ 16384 := by omega
  clear h hp
  obtain ⟨n, hnn⟩ : ∃ n, n = ws.length := ⟨_, rfl⟩
  have HN := Lib.hid hnn
  rw [← hnn] at hnc hlm hc1
  clear hnn hn hN
  go_enter Tryd.func14, Tryd.ntmps14
  go_wp2_with fail
  go_loopw [13, 3] (fun i s wr => ∃ k, k ≤ n ∧ i = .int .i64 (k : Nat) ∧ s = .int .i64 (((ws.take k).map pop).sum : Nat) ∧ wr = W) (fun i _ _ => n - (intOf i).toNat)
  case atStart => exact ⟨0, by omega, rfl, rfl, rfl⟩
  case round =>
    obtain ⟨k, hk, rfl, rfl, rfl⟩ := hrel
    by_cases hlt : k < n
    · obtain ⟨q, rfl, hq, hc⟩ := Hp.out (by rw [← HN.out]; omega)
      have hkl : k < ws.length := by rw [← HN.out]; exact hlt
      have hcq := hc k (by rw [encN_length]; exact hkl)
      rw [encN_at _ _ _ hkl] at hcq
      have hs := sum_take ws k hkl
      have hle := sum_le ws k
      have hpl := pop_le (ws.getD k 0)
      have HO := Lib.hid (fun W => ones_any (ws.getD k 0) (Hl.out k) W)
      have Hs := Lib.hid hs
      have hki : (k : Int) < (n : Int) := by omega
      have hk0 : (0 : Int) ≤ (k : Int) := by omega
      clear hc hs hkl
      generalize ws.getD k 0 = wv at *
      generalize ((ws.take k).map pop).sum = sm at *
      generalize hpw : pop wv = pw at *
      go_wp2_with (go_at_call 38; refine (HO.out _).mono ?_; rintro e w1 ⟨rfl, hw1⟩; subst hw1)
      go_roundw
      case rel => exact ⟨k + 1, by omega, by go_num, by rw [Hs.out]; go_num, trivial⟩
      case measure => simp [intOf]; omega
    · obtain rfl : k = n := by omega
      have hfin : (ws.take k).map pop = ws.map pop := by rw [List.take_of_length_le (by rw [← HN.out]; exact Nat.le_refl _)]
      rw [hfin]
      go_wp2
      go_ret
      exact ⟨rfl, rfl⟩
end Go.Proofs.YtofkamnmgpkehaaDoor
