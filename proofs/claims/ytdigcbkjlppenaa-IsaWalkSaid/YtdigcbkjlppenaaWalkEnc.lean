import Derived.Test.YtdigcbkjlppenaaDecode
import Derived.Test.YtdigcbkjlppenaaJoinsW
/- Plain laws: what has been encoded is read as it. -/
namespace Go.Proofs.Ytdigcbkjlppenaa
open Go.RowKit
theorem leV_digits (l : List Nat) (k : Nat) : ∀ n i x, (∀ j, j < n → l.getD (k + i + j + 1) 0 = x / 256 ^ j % 256) → x < 256 ^ n → leV l k i n = x
  | 0, i, x, _, hx => by simp at hx; simp [leV, hx]
  | n + 1, i, x, h, hx => by
    have h0 := h 0 (by omega)
    have ih := leV_digits l k n (i + 1) (x / 256) (fun j hj => by
      have := h (j + 1) (by omega)
      rw [show k + (i + 1) + j + 1 = k + i + (j + 1) + 1 from by omega, this, Nat.pow_succ, Nat.mul_comm, ← Nat.div_div_eq_div_mul]) (by rw [Nat.pow_succ] at hx; omega)
    rw [leV, ih]
    simp only [Nat.add_zero, Nat.pow_zero, Nat.div_one] at h0
    rw [h0]
    omega
theorem le4_digit (x j : Nat) (hj : j < 4) : (le4 x).getD j 0 = x / 256 ^ j % 256 := by
  match j, hj with
  | 0, _ => simp [le4]
  | 1, _ => simp [le4]
  | 2, _ => simp [le4]
  | 3, _ => simp [le4]
  | _ + 4, h => omega
theorem most_fits (o : Nat) (h : isOp o = true) : mostOf o < 256 ^ widthOf o := by
  have key : ∀ k, k < 60 → isOp k = true → mostOf k < 256 ^ widthOf k := by decide +kernel
  by_cases hk : o < 60
  · exact key o hk h
  · exfalso
    unfold isOp at h
    simp at h
    omega
theorem check_zero {o a : Nat} (h : checkN o a = 0) : isOp o = true ∧ a ≤ mostOf o := by
  unfold checkN at h
  split at h
  · split at h
    · cases h
    · exact ⟨by assumption, by omega⟩
  · cases h
theorem encOne_length (i : Nat × Nat) : (encOne i).length = 1 + widthOf i.1 := by
  have := width_le i.1
  simp only [encOne, List.length_cons, List.length_take, le4_length]
  omega
theorem readAt_enc (pre post : List Nat) (i : Nat × Nat) (hc : checkN i.1 i.2 = 0) : readAt (pre ++ (encOne i ++ post)) pre.length = (i, 1 + widthOf i.1, 0) := by
  obtain ⟨ho, hm⟩ := check_zero hc
  have hw := width_le i.1
  have hf := most_fits i.1 ho
  have h0 : (pre ++ (encOne i ++ post)).getD pre.length 0 = i.1 := by simp [List.getD_eq_getElem?_getD, encOne]
  have hl : (pre ++ (encOne i ++ post)).length = pre.length + (1 + widthOf i.1) + post.length := by simp [encOne_length]; omega
  have hv : leV (pre ++ (encOne i ++ post)) pre.length 0 (widthOf i.1) = i.2 := by
    refine leV_digits _ _ _ _ _ (fun j hj => ?_) (by omega)
    rw [← le4_digit i.2 j (by omega)]
    simp only [List.getD_eq_getElem?_getD]
    rw [List.getElem?_append_right (by omega), show pre.length + 0 + j + 1 - pre.length = j + 1 from by omega, List.getElem?_append_left (by rw [encOne_length]; omega)]
    simp only [encOne, List.getElem?_cons_succ]
    rw [List.getElem?_take, if_pos hj]
  unfold readAt
  rw [h0, if_pos ho, hl, hv, if_neg (by omega), if_neg (by omega)]
/-- Instructions with their places, from a place on. -/
def posOf (p : Nat) : List (Nat × Nat) → List (Nat × (Nat × Nat))
  | [] => []
  | i :: c => (p, i) :: posOf (p + (1 + widthOf i.1)) c
theorem instrs_posOf (c : List (Nat × Nat)) : ∀ p, instrs (posOf p c) = c := by
  induction c with
  | nil => intro p; rfl
  | cons i c ih => intro p; show i :: instrs (posOf _ c) = _; rw [ih]
theorem walkF_encode (c : List (Nat × Nat)) : ∀ (pre : List Nat) (n : Nat), c.length ≤ n → (∀ i ∈ c, checkN i.1 i.2 = 0) → walkF (pre ++ encode c) n pre.length = (posOf pre.length c, 0, 0) := by
  induction c with
  | nil => intro pre n _ _; rw [walkF_end _ _ _ (by simp [encode])]; rfl
  | cons i c ih =>
    intro pre n hn hc
    obtain ⟨n, rfl⟩ : ∃ m, n = m + 1 := ⟨n - 1, by simp at hn; omega⟩
    have he : encode (i :: c) = encOne i ++ encode c := by simp [encode]
    have hr := readAt_enc pre (encode c) i (hc i (by simp))
    have hlen := encOne_length i
    rw [he, walkF_succ _ _ _ (by simp; omega) (by rw [hr]), hr]
    have := ih (pre ++ encOne i) n (by simpa using hn) (fun j hj => hc j (by simp [hj]))
    rw [List.append_assoc, List.length_append, hlen] at this
    rw [this]
    rfl
theorem walk_encode {c : List (Nat × Nat)} (h : c.length ≤ 16384) (hc : ∀ i ∈ c, checkN i.1 i.2 = 0) : walk (encode c) = (posOf 0 c, 0, 0) := walkF_encode c [] 16384 h hc
theorem decRes_encode {c : List (Nat × Nat)} (h : c.length ≤ 16384) (hc : ∀ i ∈ c, checkN i.1 i.2 = 0) : decRes (encode c) = (c, 0, 0) := by
  unfold decRes
  rw [walk_encode h hc, if_pos rfl, instrs_posOf]
end Go.Proofs.Ytdigcbkjlppenaa
