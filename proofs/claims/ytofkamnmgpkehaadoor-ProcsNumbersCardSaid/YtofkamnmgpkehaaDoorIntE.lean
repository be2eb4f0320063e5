import Derived.Test.YtofkamnmgpkehaaDoorIntD
import Derived.Test.YtofkamnmgpkehaaDoorStepW
/- Numbers below 0. -/
namespace Go.Proofs.YtofkamnmgpkehaaDoor.I
open Go.RowKit
attribute [local go_sem] Oper.semAt_some
set_option maxRecDepth 100000 in
set_option maxHeartbeats 1000000 in
theorem holds_neg {W : World} {B b : Nat} {vw : Value} {N : Nat} {ws : List Nat} (h : SetAt W B b vw N ws) (x : Int) (hx : x < 0) :
    Calls Tryd.prog 45 #[.pointer (some ⟨b, 0, none⟩), .int .i64 x] W fun e w' => e = .returned (.tuple #[.int .i64 0, .int .u64 0, .bool false]) ∧ w' = W := by
  have hc := h.c0
  have h1 : decide (x < 0) = true := decide_eq_true hx
  clear h
  go_enter Tryd.func45, Tryd.ntmps45
  go_wp2
  exact bodyPost_ret (v := .tuple #[.int .i64 0, .int .u64 0, .bool false]) (by simp [results, Tryd.results45, go_sem]) rfl ⟨rfl, rfl⟩
set_option maxRecDepth 100000 in
set_option maxHeartbeats 1000000 in
theorem add_neg {W : World} {B b : Nat} {vw : Value} {N : Nat} {ws : List Nat} (h : SetAt W B b vw N ws) (x : Int) (hx : x < 0) :
    Calls Tryd.prog 30 #[.pointer (some ⟨b, 0, none⟩), .int .i64 x] W fun e w' => e = .returned (.bool false) ∧ w' = W := by
  have H := Lib.hid (holds_neg h x hx)
  clear h
  go_enter Tryd.func30, Tryd.ntmps30
  go_wp2_with (go_at_call 45; refine H.out.mono ?_; rintro e w1 ⟨rfl, hw1⟩; subst hw1)
  exact bodyPost_ret (v := .bool false) (by simp [results, Tryd.results30, go_sem]) rfl ⟨rfl, rfl⟩
set_option maxRecDepth 100000 in
set_option maxHeartbeats 1000000 in
theorem drop_neg {W : World} {B b : Nat} {vw : Value} {N : Nat} {ws : List Nat} (h : SetAt W B b vw N ws) (x : Int) (hx : x < 0) :
    Calls Tryd.prog 31 #[.pointer (some ⟨b, 0, none⟩), .int .i64 x] W fun e w' => e = .returned (.bool false) ∧ w' = W := by
  have H := Lib.hid (holds_neg h x hx)
  clear h
  go_enter Tryd.func31, Tryd.ntmps31
  go_wp2_with (go_at_call 45; refine H.out.mono ?_; rintro e w1 ⟨rfl, hw1⟩; subst hw1)
  exact bodyPost_ret (v := .bool false) (by simp [results, Tryd.results31, go_sem]) rfl ⟨rfl, rfl⟩
set_option maxRecDepth 100000 in
set_option maxHeartbeats 1000000 in
theorem has_neg {W : World} {B b : Nat} {vw : Value} {N : Nat} {ws : List Nat} (h : SetAt W B b vw N ws) (x : Int) (hx : x < 0) :
    Calls Tryd.prog 32 #[.pointer (some ⟨b, 0, none⟩), .int .i64 x] W fun e w' => e = .returned (.bool false) ∧ w' = W := by
  have H := Lib.hid (holds_neg h x hx)
  clear h
  go_enter Tryd.func32, Tryd.ntmps32
  go_wp2_with (go_at_call 45; refine H.out.mono ?_; rintro e w1 ⟨rfl, hw1⟩; subst hw1)
  go_ret
  exact ⟨by simp, rfl⟩
set_option maxRecDepth 100000 in
set_option maxHeartbeats 1000000 in
theorem inints_neg (v : Value) (l : List Nat) (x : Int) (hx : x < 0) (w : World) (h : Reads w 1 v l.length (encN .i64 l)) :
    Calls Tryd.prog 39 #[v, .int .i64 x] w fun e w' => e = .returned (.tuple #[.int .i64 0, .bool false]) ∧ Below w.heap.size w w' := by
  obtain ⟨a, cap, rfl, hlc, hcm, hnil, hp⟩ := reads_opened h
  have hnL : l.length ≤ 9223372036854775807 := by unfold maxLen at hcm; omega
  have Hp := Lib.hid hp
  obtain ⟨n, hn⟩ : ∃ n, n = l.length := ⟨_, rfl⟩
  have HN := Lib.hid hn
  rw [← hn] at hlc hnL ⊢
  clear h hp hcm hnil hn
  go_enter Tryd.func39, Tryd.ntmps39
  go_wp2
  go_loopw [6] (fun i wr => i = .int .i64 0 ∧ wr = w) (fun i _ => n - (intOf i).toNat)
  case atStart => exact ⟨rfl, rfl⟩
  case round =>
    obtain ⟨rfl, rfl⟩ := hrel
    by_cases hlt : 0 < n
    · obtain ⟨b, off, rfl, hb, hc⟩ := Hp.out (by rw [← HN.out]; omega)
      have hck := hc 0 (by rw [← HN.out]; exact hlt)
      rw [Nat.add_zero] at hck
      have hki : (0 : Int) < (n : Int) := by omega
      clear hc
      have hxd : decide (((l.getD 0 0 : Nat) : Int) < x) = false := decide_eq_false (by omega)
      have hbe : ((((l.getD 0 0 : Nat) : Int) == x)) = false := beq_eq_false_iff_ne.2 (by omega)
      generalize l.getD 0 0 = z at *
      go_wp2
      go_quiet (fail)
      go_wp2
      go_ret2
      exact ⟨rfl, below_drewN (Below.refl _ _) _⟩
    · obtain rfl : n = 0 := by omega
      have hdn : decide ((0 : Int) < (0 : Int)) = false := decide_eq_false (by omega)
      go_wp2
      go_quiet (fail)
      go_wp2
      go_ret2
      exact ⟨rfl, below_drewN (Below.refl _ _) _⟩
end Go.Proofs.YtofkamnmgpkehaaDoor.I
