import Derived.Test.YtdigcbkjlppenaaIsaInfo2
import Derived.Test.YtdigcbkjlppenaaIsaByWord
namespace Go.Proofs.Ytdigcbkjlppenaa
open Go.RowKit
theorem byWord_word (k : Nat) (h1 : 1 ≤ k) (h2 : k < 60) : byWord ⟨(wordOf k).toArray⟩ = k := by
  have : ∀ k < 60, 1 ≤ k → byWord ⟨(wordOf k).toArray⟩ = k := by decide +kernel
  exact this k h2 h1
set_option maxHeartbeats 400000 in
theorem isaWord_walk (s : ByteArray) (k : Nat) (h2 : k < 256) (w : World) :
    Calls Try.prog 6 #[.string s, .int .u8 k] w fun e w' => e = .returned (.bool true) ∧ Below w.heap.size w w' := by
  have hz := zero26
  unfold zeroRow at hz
  have h1 := byWord_any s
  have h3 := refByWord_any s
  have h4 := refinfo_any k h2
  unfold rowVal rowCells at h4
  generalize byWord s = n at h1 h3
  generalize (n != 0) = b at h1 h3
  go_enter Try.func6, Try.ntmps6
  go_wp2_with fail
  refine (h1 _).mono ?_
  rintro e w1 ⟨rfl, hb⟩
  clear h1
  go_wp2_with fail
  refine (h3 _).mono ?_
  rintro e w2 ⟨rfl, hb2⟩
  clear h3
  go_wp2_with fail
  refine (h4 _).mono ?_
  rintro e w3 ⟨rfl, hb3⟩
  clear h4
  by_cases hk : 1 ≤ k ∧ k ≤ 59
  · have hop : isOp k = true := by simp [isOp, hk]
    rw [hop]
    have h5 := fun w => byWord_any ⟨(wordOf k).toArray⟩ w
    rw [byWord_word k hk.1 (by omega), show (k != 0) = true from by simp; omega] at h5
    go_wp2_with fail
    refine (h5 _).mono ?_
    rintro e w4 ⟨rfl, hb4⟩
    clear h5
    go_wp2
    go_ret
    exact ⟨rfl, Bel.tr (Bel.al (Bel.tr (Bel.tr hb hb2) hb3) _) hb4⟩
  · have hop : isOp k = false := by simpa [isOp] using hk
    rw [hop]
    go_wp2
    go_ret
    exact ⟨rfl, Bel.al (Bel.tr (Bel.tr hb hb2) hb3) _⟩

theorem word_inj (a b : Nat) (ha : 1 ≤ a) (ha2 : a < 60) (hb : 1 ≤ b) (hb2 : b < 60) (h : wordOf a = wordOf b) : a = b := by
  rw [← byWord_word a ha ha2, h, byWord_word b hb hb2]
theorem word_ne (k : Nat) (h1 : 1 ≤ k) (h2 : k < 60) : (wordOf k).isEmpty = false := by
  have : ∀ k < 60, 1 ≤ k → (wordOf k).isEmpty = false := by decide +kernel
  exact this k h2 h1

set_option maxHeartbeats 400000 in
theorem isaWords_out (a b : Nat) (ha : a < 256) (hb : b < 256) (ho : ¬ (1 ≤ a ∧ a ≤ 59) ∨ ¬ (1 ≤ b ∧ b ≤ 59)) (w : World) :
    Calls Try.prog 7 #[.int .u8 a, .int .u8 b] w fun e w' => e = .returned (.bool true) ∧ Below w.heap.size w w' := by
  have hz := zero26
  unfold zeroRow at hz
  have h1 := info_any a ha
  have h3 := info_any b hb
  unfold rowVal rowCells at h1 h3
  have key : ∀ k : Nat, (((k : Int) < 1) ∧ isOp k = false) ∨ ((1 : Int) ≤ k ∧ (k : Int) ≤ 59 ∧ isOp k = true) ∨ ((59 : Int) < k ∧ isOp k = false) := fun k => by
    simp only [isOp, decide_eq_true_eq, decide_eq_false_iff_not]; omega
  have ha3 := key a
  have hb3 := key b
  clear key
  rcases ha3 with ⟨h, e1⟩ | ⟨h, h', e1⟩ | ⟨h, e1⟩ <;> rw [e1] at h1 <;> clear e1
  all_goals
    rcases hb3 with ⟨g, e1⟩ | ⟨g, g', e1⟩ | ⟨g, e1⟩ <;> rw [e1] at h3 <;> clear e1
  all_goals (try (exfalso; omega))
  all_goals
    clear ho
    go_enter Try.func7, Try.ntmps7
    go_wp2_with fail
    refine (h1 _).mono ?_
    rintro e w1 ⟨rfl, hb1⟩
    clear h1
    go_wp2_with fail
    refine (h3 _).mono ?_
    rintro e w2 ⟨rfl, hb2⟩
    clear h3
    go_wp2
    go_ret
    exact ⟨rfl, Bel.al (Bel.tr (Bel.al hb1 _) hb2) _⟩

set_option maxHeartbeats 400000 in
theorem isaWords_in (a b : Nat) (ha : 1 ≤ a) (ha2 : a ≤ 59) (hb : 1 ≤ b) (hb2 : b ≤ 59) (w : World) :
    Calls Try.prog 7 #[.int .u8 a, .int .u8 b] w fun e w' => e = .returned (.bool true) ∧ Below w.heap.size w w' := by
  have hz := zero26
  unfold zeroRow at hz
  have h1 := info_any a (by omega)
  have h3 := info_any b (by omega)
  have h5 := fun w => byWord_any ⟨(wordOf a).toArray⟩ w
  rw [byWord_word a ha (by omega), show (a != 0) = true from by simp; omega] at h5
  unfold rowVal rowCells at h1 h3
  rw [show isOp a = true from by simp [isOp]; omega] at h1
  rw [show isOp b = true from by simp [isOp]; omega] at h3
  have hne := word_ne a ha (by omega)
  have heq : (wordOf a == wordOf b) = ((a : Int) == (b : Int)) := by
    rw [Bool.eq_iff_iff]; simp only [beq_iff_eq]
    exact ⟨fun h => by rw [word_inj a b ha (by omega) hb (by omega) h], fun h => by rw [show a = b from by omega]⟩
  have hi1 : (1 : Int) ≤ (a : Int) := by omega
  have hi2 : (a : Int) ≤ 59 := by omega
  have hi3 : (1 : Int) ≤ (b : Int) := by omega
  have hi4 : (b : Int) ≤ 59 := by omega
  go_enter Try.func7, Try.ntmps7
  go_wp2_with fail
  refine (h1 _).mono ?_
  rintro e w1 ⟨rfl, hb1⟩
  clear h1
  go_wp2_with fail
  refine (h3 _).mono ?_
  rintro e w2 ⟨rfl, hd2⟩
  clear h3
  obtain ⟨hc2, hf2⟩ := bcell hd2
  have hs2 := Bel.lt hd2
  simp only [World.size_alloc] at hc2 hf2
  go_wp2_with fail
  refine (h5 _).mono ?_
  rintro e w3 ⟨rfl, hb3⟩
  clear h5
  have hs3 := Bel.lt hb3
  obtain ⟨hc3, hf3⟩ := bcell hb3
  simp only [World.size_alloc] at hc3 hf3
  go_wp2_with fail
  go_ret
  exact ⟨rfl, Bel.tr (Bel.al (Bel.tr (Bel.al hb1 _) hd2) _) hb3⟩
theorem isaWords_walk (a b : Nat) (ha : a < 256) (hb : b < 256) (w : World) :
    Calls Try.prog 7 #[.int .u8 a, .int .u8 b] w fun e w' => e = .returned (.bool true) ∧ Below w.heap.size w w' := by
  by_cases h : (1 ≤ a ∧ a ≤ 59) ∧ (1 ≤ b ∧ b ≤ 59)
  · exact isaWords_in a b h.1.1 h.1.2 h.2.1 h.2.2 w
  · exact isaWords_out a b ha hb (by omega) w
theorem isaWord_full (s : ByteArray) (a : Int) (w : World) (_h0 : s.size ≤ maxLen) (h : (Lit.int .u8 a).wf = true) :
    Calls Try.prog 6 #[.string s, .int .u8 a] w fun e w' => e = .returned (.bool true) ∧ Below w.heap.size w w' := by
  obtain ⟨k, rfl, hk⟩ := u8_of h
  exact isaWord_walk s k hk w
theorem isaWords_full (a b : Int) (w : World) (h : (Lit.int .u8 a).wf = true) (h' : (Lit.int .u8 b).wf = true) :
    Calls Try.prog 7 #[.int .u8 a, .int .u8 b] w fun e w' => e = .returned (.bool true) ∧ Below w.heap.size w w' := by
  obtain ⟨k, rfl, hk⟩ := u8_of h
  obtain ⟨j, rfl, hj⟩ := u8_of h'
  exact isaWords_walk k j hk hj w
end Go.Proofs.Ytdigcbkjlppenaa
