import Derived.Test.YtdigcbkjlppenaaPlaces
/- Plain laws: bytes that are read as code are those that the code has; what a beginning of them is read as. -/
namespace Go.Proofs.Ytdigcbkjlppenaa
open Go.RowKit
theorem leV_digit (l : List Nat) (k : Nat) (h : ∀ j, l.getD j 0 < 256) : ∀ n i j, j < n → leV l k i n / 256 ^ j % 256 = l.getD (k + i + j + 1) 0
  | 0, i, j, hj => by omega
  | n + 1, i, 0, _ => by
    have := h (k + i + 1)
    show (leV l k (i + 1) n * 256 + l.getD (k + i + 1) 0) / 256 ^ 0 % 256 = l.getD (k + i + 1) 0
    rw [Nat.pow_zero, Nat.div_one]
    omega
  | n + 1, i, j + 1, hj => by
    have := h (k + i + 1)
    have ih := leV_digit l k h n (i + 1) j (by omega)
    rw [leV, Nat.pow_succ, Nat.mul_comm (256 ^ j) 256, ← Nat.div_div_eq_div_mul, show (leV l k (i + 1) n * 256 + l.getD (k + i + 1) 0) / 256 = leV l k (i + 1) n from by omega, ih]
    congr 1
    omega
theorem readAt_inv (l : List Nat) (p : Nat) (h : ∀ j, l.getD j 0 < 256) (hp : p < l.length) (he : (readAt l p).2.2 = 0) :
    checkN (readAt l p).1.1 (readAt l p).1.2 = 0 ∧ (readAt l p).2.1 = 1 + widthOf (readAt l p).1.1 ∧ l.drop p = encOne (readAt l p).1 ++ l.drop (p + (readAt l p).2.1) := by
  have hw := width_le (l.getD p 0)
  unfold readAt at *
  split at he
  · rename_i ho
    split at he
    · cases he
    · rename_i hl
      split at he
      · cases he
      · rename_i hm
        rw [if_pos ho, if_neg hl, if_neg hm]
        refine ⟨by show checkN (l.getD p 0) _ = 0; unfold checkN; rw [if_pos ho, if_neg hm], rfl, ?_⟩
        show l.drop p = encOne (l.getD p 0, leV l p 0 (widthOf (l.getD p 0))) ++ l.drop (p + (1 + widthOf (l.getD p 0)))
        have hd : (le4 (leV l p 0 (widthOf (l.getD p 0)))).take (widthOf (l.getD p 0)) = (l.drop (p + 1)).take (widthOf (l.getD p 0)) := by
          apply List.ext_getElem?
          intro j
          rw [List.getElem?_take, List.getElem?_take]
          by_cases hj : j < widthOf (l.getD p 0)
          · rw [if_pos hj, if_pos hj, List.getElem?_drop]
            have h1 := le4_digit (leV l p 0 (widthOf (l.getD p 0))) j (by omega)
            rw [leV_digit l p h _ 0 j hj, show p + 0 + j + 1 = p + 1 + j from by omega] at h1
            generalize hv : le4 (leV l p 0 (widthOf (l.getD p 0))) = v at *
            have hvl : v.length = 4 := by rw [← hv]; rfl
            rw [List.getElem?_eq_getElem (by omega), List.getElem?_eq_getElem (by omega : p + 1 + j < l.length)]
            rw [List.getD_eq_getElem?_getD, List.getElem?_eq_getElem (by omega), List.getD_eq_getElem?_getD, List.getElem?_eq_getElem (by omega : p + 1 + j < l.length)] at h1
            simpa using h1
          · rw [if_neg hj, if_neg hj]
        rw [encOne, hd]
        have e0 : l.getD p 0 = l[p] := by simp [List.getD_eq_getElem?_getD, List.getElem?_eq_getElem hp]
        rw [List.drop_eq_getElem_cons hp, ← e0, show p + (1 + widthOf (l.getD p 0)) = p + 1 + widthOf (l.getD p 0) from by omega]
        have := List.take_append_drop (widthOf (l.getD p 0)) (l.drop (p + 1))
        rw [List.drop_drop] at this
        show _ = l.getD p 0 :: (_ ++ _)
        rw [this]
  · cases he
theorem walkF_inv (l : List Nat) (h : ∀ j, l.getD j 0 < 256) : ∀ n p, p ≤ l.length → (walkF l n p).2.2 = 0 →
    l.drop p = encode (instrs (walkF l n p).1) ∧ (∀ i ∈ instrs (walkF l n p).1, checkN i.1 i.2 = 0) := by
  intro n
  induction n with
  | zero =>
    intro p hpl he
    by_cases hp : p < l.length
    · rw [walkF_zero l p hp] at he; cases he
    · rw [walkF_end l 0 p hp, List.drop_eq_nil_of_le (by omega)]
      exact ⟨rfl, fun i hi => by cases hi⟩
  | succ n ih =>
    intro p hpl he
    by_cases hp : p < l.length
    · by_cases hr : (readAt l p).2.2 = 0
      · rw [walkF_succ l n p hp hr] at he ⊢
        obtain ⟨h1, h2, h3⟩ := readAt_inv l p h hp hr
        have hsz := readAt_size l p hr hp
        obtain ⟨i1, i2⟩ := ih (p + (readAt l p).2.1) hsz.2 he
        refine ⟨?_, fun i hi => ?_⟩
        · rw [h3, i1]
          simp [instrs, encode]
        · rcases List.mem_cons.1 hi with rfl | hi
          · exact h1
          · exact i2 i hi
      · rw [walkF_bad l n p hp hr] at he; exact absurd he hr
    · rw [walkF_end l _ p hp, List.drop_eq_nil_of_le (by omega)]
      exact ⟨rfl, fun i hi => by cases hi⟩
theorem walkF_err (l : List Nat) : ∀ n p, (walkF l n p).2.2 ≠ 0 → (walkF l n p).2.1 < l.length := by
  intro n
  induction n with
  | zero =>
    intro p he
    by_cases hp : p < l.length
    · rw [walkF_zero l p hp]; exact hp
    · rw [walkF_end l 0 p hp] at he; exact absurd rfl he
  | succ n ih =>
    intro p he
    by_cases hp : p < l.length
    · by_cases hr : (readAt l p).2.2 = 0
      · rw [walkF_succ l n p hp hr] at he ⊢; exact ih _ he
      · rw [walkF_bad l n p hp hr]; exact hp
    · rw [walkF_end l _ p hp] at he; exact absurd rfl he
/-- Bytes that are read as code are those that the code has. -/
theorem decRes_inv {l : List Nat} (h : ∀ j, l.getD j 0 < 256) (he : (decRes l).2.2 = 0) : ∃ c : List (Nat × Nat), c.length ≤ 16384 ∧ (∀ i ∈ c, checkN i.1 i.2 = 0) ∧ l = encode c ∧ decRes l = (c, 0, 0) := by
  unfold decRes at he ⊢
  by_cases hw : (walk l).2.2 = 0
  · obtain ⟨h1, h2⟩ := walkF_inv l h 16384 0 (Nat.zero_le _) hw
    refine ⟨instrs (walk l).1, ?_, h2, by rw [List.drop_zero] at h1; exact h1, by rw [if_pos hw]⟩
    have := walk_len l
    simpa [instrs] using this
  · rw [if_neg hw] at he; exact absurd he hw
theorem decRes_err {l : List Nat} (he : (decRes l).2.2 ≠ 0) : (decRes l).1 = [] ∧ (decRes l).2.1 < l.length := by
  unfold decRes at he ⊢
  by_cases hw : (walk l).2.2 = 0
  · rw [if_pos hw] at he; exact absurd rfl he
  · rw [if_neg hw]; exact ⟨rfl, walkF_err l _ _ hw⟩
theorem walkF_pre (c : List (Nat × Nat)) : ∀ (pre post : List Nat) (n : Nat), c.length ≤ n → (∀ i ∈ c, checkN i.1 i.2 = 0) →
    (walkF (pre ++ (encode c ++ post)) n pre.length).2 = (walkF (pre ++ (encode c ++ post)) (n - c.length) (pre.length + (encode c).length)).2 := by
  induction c with
  | nil => intro pre post n _ _; simp [encode]
  | cons i c ih =>
    intro pre post n hn hc
    obtain ⟨n, rfl⟩ : ∃ m, n = m + 1 := ⟨n - 1, by simp at hn; omega⟩
    have he : encode (i :: c) = encOne i ++ encode c := by simp [encode]
    have hr := readAt_enc pre (encode c ++ post) i (hc i (by simp))
    have hlen := encOne_length i
    rw [he, List.append_assoc, walkF_succ _ _ _ (by simp; omega) (by rw [hr]), hr]
    have := ih (pre ++ encOne i) post n (by simpa using hn) (fun j hj => hc j (by simp [hj]))
    rw [List.append_assoc, List.length_append, hlen] at this
    show (walkF _ n (pre.length + (1 + widthOf i.1))).2 = _
    rw [this, List.length_append, hlen, List.length_cons, Nat.add_sub_add_right, Nat.add_assoc]
/-- A cut within an instruction. -/
theorem walk_cut (c : List (Nat × Nat)) (i : Nat × Nat) (t : List Nat) (h : c.length < 16384) (hc : ∀ i ∈ c, checkN i.1 i.2 = 0) (hi : isOp i.1 = true) (ht : t.length < widthOf i.1) :
    (walk (encode c ++ i.1 :: t)).2 = ((encode c).length, 72) := by
  have h1 := walkF_pre c [] (i.1 :: t) 16384 (by omega) hc
  simp only [List.nil_append, List.length_nil, Nat.zero_add] at h1
  have h0 : (encode c ++ i.1 :: t).getD (encode c).length 0 = i.1 := by simp [List.getD_eq_getElem?_getD]
  have hr : (readAt (encode c ++ i.1 :: t) (encode c).length).2.2 = 72 := by
    unfold readAt
    rw [h0, if_pos hi, if_pos (by simp; omega)]
  show (walkF _ 16384 0).2 = _
  rw [h1, show 16384 - c.length = 16384 - c.length - 1 + 1 from by omega, walkF_bad _ _ _ (by simp) (by rw [hr]; decide), hr]
def startAt (c : List (Nat × Nat)) (k : Nat) : Nat := (encode (c.take k)).length
theorem startAt_succ (c : List (Nat × Nat)) (k : Nat) (hk : k < c.length) : startAt c (k + 1) = startAt c k + (1 + widthOf (c.getD k (0, 0)).1) := encode_snoc_len c k hk
theorem startAt_mono (c : List (Nat × Nat)) (k : Nat) : ∀ m, k ≤ m → m ≤ c.length → startAt c k ≤ startAt c m
  | 0, h, _ => by obtain rfl : k = 0 := by omega
                  exact Nat.le_refl _
  | m + 1, h, hm => by
    by_cases e : k = m + 1
    · subst e; exact Nat.le_refl _
    · have := startAt_mono c k m (by omega) (by omega)
      rw [startAt_succ c m (by omega)]
      omega
theorem cut_where (c : List (Nat × Nat)) (n : Nat) : ∀ m, m ≤ c.length → n ≤ startAt c m → (∃ k, k ≤ m ∧ startAt c k = n) ∨ ∃ k, k < m ∧ startAt c k < n ∧ n < startAt c (k + 1)
  | 0, _, h => .inl ⟨0, Nat.le_refl _, by simp [startAt, encode] at h ⊢; omega⟩
  | m + 1, hm, h => by
    by_cases h1 : n ≤ startAt c m
    · rcases cut_where c n m (by omega) h1 with ⟨k, hk, e⟩ | ⟨k, hk, e⟩
      · exact .inl ⟨k, by omega, e⟩
      · exact .inr ⟨k, by omega, e⟩
    · by_cases h2 : startAt c (m + 1) = n
      · exact .inl ⟨m + 1, Nat.le_refl _, h2⟩
      · exact .inr ⟨m, by omega, by omega, by omega⟩
theorem encode_split (c : List (Nat × Nat)) (k : Nat) : encode c = encode (c.take k) ++ encode (c.drop k) := by
  rw [← encode_append, List.take_append_drop]
/-- A beginning that ends where an instruction begins. -/
theorem cut_at {c : List (Nat × Nat)} (h : c.length ≤ 16384) (hc : ∀ i ∈ c, checkN i.1 i.2 = 0) (k : Nat) : decRes ((encode c).take (startAt c k)) = (c.take k, 0, 0) := by
  have : (encode c).take (startAt c k) = encode (c.take k) := by
    conv => lhs; rw [encode_split c k]
    exact List.take_left
  rw [this]
  exact decRes_encode (by rw [List.length_take]; omega) (fun i hi => hc i (List.mem_of_mem_take hi))
/-- A beginning that ends elsewhere. -/
theorem cut_in {c : List (Nat × Nat)} (h : c.length ≤ 16384) (hc : ∀ i ∈ c, checkN i.1 i.2 = 0) {k n : Nat} (hk : k < c.length) (h1 : startAt c k < n) (h2 : n < startAt c (k + 1)) : decRes ((encode c).take n) = ([], startAt c k, 72) := by
  have hi : isOp (c.getD k (0, 0)).1 = true := (check_zero (hc (c.getD k (0, 0)) (by rw [List.getD_eq_getElem?_getD, List.getElem?_eq_getElem hk]; exact List.getElem_mem hk))).1
  have hs := startAt_succ c k hk
  have hd : c.drop k = c.getD k (0, 0) :: c.drop (k + 1) := by
    rw [List.drop_eq_getElem_cons hk, List.getD_eq_getElem?_getD, List.getElem?_eq_getElem hk]; rfl
  generalize c.getD k (0, 0) = i at *
  have ht : (encode c).take n = encode (c.take k) ++ i.1 :: ((le4 i.2).take (widthOf i.1) ++ encode (c.drop (k + 1))).take (n - startAt c k - 1) := by
    conv => lhs; rw [encode_split c k, hd]
    rw [List.take_append, List.take_of_length_le (by show startAt c k ≤ n; omega)]
    congr 1
    show (encode (i :: c.drop (k + 1))).take (n - startAt c k) = _
    rw [show encode (i :: c.drop (k + 1)) = i.1 :: ((le4 i.2).take (widthOf i.1) ++ encode (c.drop (k + 1))) from by simp [encode, encOne], show n - startAt c k = n - startAt c k - 1 + 1 from by omega, List.take_succ_cons, Nat.add_sub_cancel]
  have hw := walk_cut (c.take k) i (((le4 i.2).take (widthOf i.1) ++ encode (c.drop (k + 1))).take (n - startAt c k - 1)) (by rw [List.length_take]; omega) (fun j hj => hc j (List.mem_of_mem_take hj)) hi (by rw [List.length_take]; omega)
  rw [ht]
  unfold decRes
  rw [hw]
  rfl
/-- The last place that is not beyond n. -/
def lastF (c : List (Nat × Nat)) (n : Nat) : Nat → Nat
  | 0 => 0
  | m + 1 => if startAt c m ≤ n then startAt c m else lastF c n m
theorem lastF_in {c : List (Nat × Nat)} {k n : Nat} (hk : k < c.length) (h1 : startAt c k < n) (h2 : n < startAt c (k + 1)) : ∀ m, k < m → m ≤ c.length + 1 → lastF c n m = startAt c k
  | 0, h, _ => by omega
  | m + 1, h, hm => by
    by_cases e : m = k
    · subst e; rw [lastF, if_pos (by omega)]
    · have := startAt_mono c (k + 1) m (by omega) (by omega)
      rw [lastF, if_neg (by omega)]
      exact lastF_in hk h1 h2 m (by omega) (by omega)
end Go.Proofs.Ytdigcbkjlppenaa
