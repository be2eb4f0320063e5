import Derived.Test.YtofkamnmgpkehabRefW
/- Are two rows of words the same? -/
namespace Go.Proofs.Ytofkamnmgpkehab
open Go.RowKit
theorem getD_eq {l : List Nat} {k : Nat} (hk : k < l.length) : l.getD k 0 = l[k] := by rw [List.getD_eq_getElem?_getD, List.getElem?_eq_getElem hk]; rfl
theorem reads_opened {k : IntKind} {w : World} {v : Value} {l : List Nat} (h : Reads w 1 v l.length (encN k l)) : ∃ (a : Option Addr) (cap : Nat), v = .slice a l.length cap ∧ l.length ≤ cap ∧ cap ≤ maxLen ∧ (a = none → cap = 0) ∧
    (0 < l.length → ∃ b off, a = some ⟨b, off, none⟩ ∧ b < w.heap.size ∧ ∀ j, j < l.length → w.cell? ⟨b, off + j, none⟩ = some (.int k (l.getD j 0 : Nat))) := by
  obtain ⟨a, cap, hv, hl, hn, hm, ha, hp⟩ := h
  refine ⟨a, cap, hv, hn, hm, ha, fun h0 => ?_⟩
  obtain ⟨b, off, e, hlt, hc⟩ := hp h0
  exact ⟨b, off, e, hlt, fun j hj => by rw [hc j (by rw [encN_length]; omega), encN_at _ l j hj]⟩
theorem list_ne {l m : List Nat} {k : Nat} (h : l.getD k 0 ≠ m.getD k 0) : decide (l = m) = false := decide_eq_false (fun e => h (by rw [e]))
theorem list_eq {l m : List Nat} (hl : l.length = m.length) (h : ∀ j, j < l.length → l.getD j 0 = m.getD j 0) : decide (l = m) = true := decide_eq_true (List.ext_getElem hl (fun j h1 h2 => by have := h j h1; rwa [getD_eq h1, getD_eq h2] at this))
set_option maxRecDepth 100000 in
set_option maxHeartbeats 1000000 in
theorem samewords_any (v u : Value) (l m : List Nat) (w : World) (h1 : Reads w 1 v l.length (encN .u32 l)) (h2 : Reads w 1 u m.length (encN .u32 m)) :
    Calls Try.prog 27 #[v, u] w fun e w' => e = .returned (.bool (decide (l = m))) ∧ Below w.heap.size w w' := by
  obtain ⟨a1, c1, rfl, hl1, hm1, hn1, hp1⟩ := reads_opened h1
  obtain ⟨a2, c2, rfl, hl2, hm2, hn2, hp2⟩ := reads_opened h2
  have hnL : l.length ≤ 9223372036854775807 := by unfold maxLen at hm1; omega
  have hmL : m.length ≤ 9223372036854775807 := by unfold maxLen at hm2; omega
  have Hp1 := Lib.hid hp1
  have Hp2 := Lib.hid hp2
  obtain ⟨n, hn⟩ : ∃ n, n = l.length := ⟨_, rfl⟩
  have HN := Lib.hid hn
  obtain ⟨n2, hn'⟩ : ∃ n2, n2 = m.length := ⟨_, rfl⟩
  have HN2 := Lib.hid hn'
  rw [← hn] at hl1 hnL ⊢
  rw [← hn'] at hl2 hmL ⊢
  obtain ⟨d, hd⟩ : ∃ d, d = decide (l = m) := ⟨_, rfl⟩
  have HD := Lib.hid hd
  rw [← hd]
  clear h1 h2 hp1 hp2 hm1 hm2 hn1 hn2 hn hn' hd
  by_cases hlen : n = n2
  · subst hlen
    go_enter Try.func27, Try.ntmps27
    go_wp2
    go_loopw [5] (fun i wr => ∃ k : Nat, k ≤ n ∧ i = .int .i64 k ∧ (∀ j, j < k → l.getD j 0 = m.getD j 0) ∧ Below w.heap.size w wr) (fun i _ => n - (intOf i).toNat)
    case atStart => exact ⟨0, by omega, rfl, fun j h => absurd h (Nat.not_lt_zero _), Below.refl _ _⟩
    case round =>
      obtain ⟨k, hk, rfl, hlo, hb⟩ := hrel
      by_cases hlt : k < n
      · obtain ⟨b1, off1, rfl, hb1, hc1⟩ := Hp1.out (by rw [← HN.out]; omega)
        obtain ⟨b2, off2, rfl, hb2, hc2⟩ := Hp2.out (by rw [← HN2.out]; omega)
        have hk1 := (hb.cell (p := ⟨b1, off1 + k, none⟩) hb1).trans (hc1 k (by rw [← HN.out]; exact hlt))
        have hk2 := (hb.cell (p := ⟨b2, off2 + k, none⟩) hb2).trans (hc2 k (by rw [← HN2.out]; exact hlt))
        have hki : (k : Int) < (n : Int) := by omega
        have hk0 : (0 : Int) ≤ (k : Int) := by omega
        have Hlo := Lib.hid hlo
        have Hb := Lib.hid hb
        clear hc1 hc2 hlo hb
        by_cases hx : l.getD k 0 = m.getD k 0
        · have Hnext := Lib.hid (show ∀ j, j < k + 1 → l.getD j 0 = m.getD j 0 from fun j hj => by
            rcases Nat.lt_or_eq_of_le (Nat.le_of_lt_succ hj) with e | e
            · exact Hlo.out j e
            · rw [e]; exact hx)
          rw [← hx] at hk2
          generalize l.getD k 0 = z at *
          go_wp2_with fail
          go_quiet (fail)
          go_wp2
          go_roundw
          case rel => exact ⟨k + 1, by omega, by go_num, Hnext.out, below_drewN Hb.out _⟩
          case measure => simp [intOf]; omega
        · have Hne := Lib.hid (list_ne hx)
          have hxd : (((l.getD k 0 : Nat) : Int) != ((m.getD k 0 : Nat) : Int)) = true := bne_iff_ne.2 (fun e => hx (Int.ofNat.inj e))
          generalize l.getD k 0 = z at *
          generalize m.getD k 0 = y at *
          go_wp2_with fail
          go_quiet (fail)
          go_wp2
          go_ret
          exact ⟨by rw [HD.out, Hne.out]; simp, below_drewN Hb.out _⟩
      · obtain rfl : n = k := by omega
        have HE := Lib.hid (list_eq (by rw [← HN.out, ← HN2.out]) (fun j hj => hlo j (by rw [HN.out]; exact hj)))
        have Hb := Lib.hid hb
        clear hlo hb
        go_wp2
        go_ret
        exact ⟨by rw [HD.out, HE.out]; simp, Hb.out⟩
  · have HE := Lib.hid (show decide (l = m) = false from decide_eq_false (fun e => hlen (by rw [HN.out, HN2.out, e])))
    have hne : ((n : Int) != (n2 : Int)) = true := by simp; omega
    go_enter Try.func27, Try.ntmps27
    go_wp2
    go_ret
    exact ⟨by rw [HD.out, HE.out]; simp, Below.refl _ _⟩
set_option maxRecDepth 100000 in
set_option maxHeartbeats 1000000 in
theorem pick_any (x : Int) (n : Nat) (hn : 1 ≤ n) (hn2 : n ≤ 9223372036854775807) (w : World) :
    Calls Try.prog 6 #[.int .i64 x, .int .i64 n] w fun e w' => (∃ p : Nat, p < n ∧ e = .returned (.int .i64 p)) ∧ w' = w := by
  have h1 : decide ((n : Int) < 1) = false := decide_eq_false (by omega)
  have h0 : ¬ ((n : Int) = 0) := by omega
  have hm1 : ¬ ((n : Int) = -1) := by omega
  go_enter Try.func6, Try.ntmps6
  have hr1 := Int.lt_tmod_of_pos x (show (0 : Int) < (n : Int) by omega)
  have hr2 := Int.tmod_lt_of_pos x (show (0 : Int) < (n : Int) by omega)
  by_cases hr : x.tmod n < 0
  · have hw : wrap64 (x.tmod n + n) = x.tmod n + n := by unfold wrap64; omega
    have hz : ((x.tmod n + n).toNat : Int) = x.tmod n + n := Int.toNat_of_nonneg (by omega)
    go_wp2
    go_ret
    exact ⟨⟨(x.tmod n + n).toNat, by omega, by rw [hz]; simp⟩, rfl⟩
  · have hz : ((x.tmod n).toNat : Int) = x.tmod n := Int.toNat_of_nonneg (by omega)
    go_wp2
    go_ret
    exact ⟨⟨(x.tmod n).toNat, by omega, by rw [hz]; simp⟩, rfl⟩
end Go.Proofs.Ytofkamnmgpkehab
