import Derived.Test.YtofkamnmgpkehaaDoorRise
import Derived.Test.YtofkamnmgpkehaaDoorSet4
/- The law's lists of words: the place, with one more, the same. -/
namespace Go.Proofs.YtofkamnmgpkehaaDoor
open Go.RowKit
attribute [local go_sem] Oper.semAt_some
theorem reads_opened {k : IntKind} {w : World} {v : Value} {l : List Nat} (h : Reads w 1 v l.length (encN k l)) : ∃ (a : Option Addr) (cap : Nat), v = .slice a l.length cap ∧ l.length ≤ cap ∧ cap ≤ maxLen ∧ (a = none → cap = 0) ∧
    (0 < l.length → ∃ b off, a = some ⟨b, off, none⟩ ∧ b < w.heap.size ∧ ∀ j, j < l.length → w.cell? ⟨b, off + j, none⟩ = some (.int k (l.getD j 0 : Nat))) := by
  obtain ⟨a, cap, hv, hl, hn, hm, ha, hp⟩ := h
  refine ⟨a, cap, hv, hn, hm, ha, fun h0 => ?_⟩
  obtain ⟨b, off, e, hlt, hc⟩ := hp h0
  exact ⟨b, off, e, hlt, fun j hj => by rw [hc j (by rw [encN_length]; omega), encN_at _ l j hj]⟩
theorem place_end {l : List Nat} {x k : Nat} (hk : k = l.length) (h : ∀ i, i < k → l.getD i 0 < x) : Place l x k := ⟨by omega, h, fun h => by omega⟩
theorem place_mid {l : List Nat} {x k : Nat} (hk : k < l.length) (h : ∀ i, i < k → l.getD i 0 < x) (hx : ¬ l.getD k 0 < x) : Place l x k := ⟨by omega, h, fun _ => by omega⟩
theorem place_no {l : List Nat} {x k : Nat} (hu : Up l) (h : Place l x k) (hk : ¬ k < l.length) : decide (x ∈ l) = false := decide_eq_false (fun e => hk ((h.there hu).1 e).1)
theorem place_is {l : List Nat} {x k : Nat} (hu : Up l) (h : Place l x k) (hk : k < l.length) : decide (x ∈ l) = decide (l.getD k 0 = x) := decide_eq_decide.2 ⟨fun e => ((h.there hu).1 e).2, fun e => (h.there hu).2 ⟨hk, e⟩⟩
set_option maxRecDepth 100000 in
set_option maxHeartbeats 1000000 in
theorem inwords_any (v : Value) (l : List Nat) (x : Nat) (w : World) (hu : Up l) (h : Reads w 1 v l.length (encN .u32 l)) :
    Calls Tryd.prog 36 #[v, .int .u32 x] w fun e w' => (∃ k, e = .returned (.tuple #[.int .i64 (k : Nat), .bool (decide (x ∈ l))]) ∧ Place l x k) ∧ Below w.heap.size w w' := by
  obtain ⟨a, cap, rfl, hlc, hcm, hnil, hp⟩ := reads_opened h
  have hnL : l.length ≤ 9223372036854775807 := by unfold maxLen at hcm; omega
  have Hp := Lib.hid hp
  have HU := Lib.hid hu
  obtain ⟨n, hn⟩ : ∃ n, n = l.length := ⟨_, rfl⟩
  have HN := Lib.hid hn
  rw [← hn] at hlc hnL ⊢
  clear h hp hcm hnil hn hu
  go_enter Tryd.func36, Tryd.ntmps36
  go_wp2
  go_loopw [6] (fun i wr => ∃ k : Nat, k ≤ n ∧ i = .int .i64 k ∧ (∀ j, j < k → l.getD j 0 < x) ∧ wr = w) (fun i _ => n - (intOf i).toNat)
  case atStart => exact ⟨0, by omega, rfl, fun j h => absurd h (Nat.not_lt_zero _), rfl⟩
  case round =>
    obtain ⟨k, hk, rfl, hlo, rfl⟩ := hrel
    by_cases hlt : k < n
    · obtain ⟨b, off, rfl, hb, hc⟩ := Hp.out (by rw [← HN.out]; omega)
      have hck := hc k (by rw [← HN.out]; exact hlt)
      have hki : (k : Int) < (n : Int) := by omega
      have hk0 : (0 : Int) ≤ (k : Int) := by omega
      have Hlo := Lib.hid hlo
      have hkl : k < l.length := by rw [← HN.out]; exact hlt
      clear hc hlo
      by_cases hx : l.getD k 0 < x
      · have hxd : decide (((l.getD k 0 : Nat) : Int) < (x : Int)) = true := decide_eq_true (by omega)
        have Hnext := Lib.hid (show ∀ j, j < k + 1 → l.getD j 0 < x from fun j hj => by
          rcases Nat.lt_or_eq_of_le (Nat.le_of_lt_succ hj) with e | e
          · exact Hlo.out j e
          · rw [e]; exact hx)
        generalize l.getD k 0 = z at *
        go_wp2
        go_roundw
        case rel => exact ⟨k + 1, by omega, by go_num, Hnext.out, trivial⟩
        case measure => simp [intOf]; omega
      · have hxd : decide (((l.getD k 0 : Nat) : Int) < (x : Int)) = false := decide_eq_false (by omega)
        have HP := Lib.hid (place_mid hkl Hlo.out hx)
        have HI := Lib.hid (place_is HU.out HP.out hkl)
        have hbe : ((((l.getD k 0 : Nat) : Int) == (x : Int))) = decide (l.getD k 0 = x) := by
          rw [show (((l.getD k 0 : Nat) : Int) == (x : Int)) = decide (((l.getD k 0 : Nat) : Int) = (x : Int)) from rfl]
          exact decide_eq_decide.2 (by omega)
        have hI := HI.out
        clear HI hkl
        generalize l.getD k 0 = z at *
        generalize hd : decide (z = x) = d at *
        have HI := Lib.hid hI
        clear hI
        go_wp2
        go_quiet (fail)
        go_wp2
        go_ret2
        exact ⟨⟨k, by rw [HI.out]; simp, HP.out⟩, below_drewN (Below.refl _ _) _⟩
    · obtain rfl : n = k := by omega
      have hdn : decide ((n : Int) < (n : Int)) = false := decide_eq_false (by omega)
      have HP := Lib.hid (place_end HN.out hlo)
      have HI := Lib.hid (place_no HU.out HP.out (by rw [← HN.out]; omega))
      clear hlo
      go_wp2
      go_quiet (fail)
      go_wp2
      go_ret2
      exact ⟨⟨n, by rw [HI.out]; simp, HP.out⟩, below_drewN (Below.refl _ _) _⟩
end Go.Proofs.YtofkamnmgpkehaaDoor
