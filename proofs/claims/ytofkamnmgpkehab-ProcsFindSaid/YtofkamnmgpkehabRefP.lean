import Derived.Test.YtofkamnmgpkehabDet
import Derived.Test.YtofkamnmgpkehabWithin
/- What the document says of procedures, and the cut: plain. -/
namespace Go.Proofs.Ytofkamnmgpkehab
open Go.RowKit
def opAt (code : List (Nat × Nat)) (i : Nat) : Nat := (code.getD i (0, 0)).1
/-- Where the procedure begins in which an instruction lies. -/
def IsBegin (code : List (Nat × Nat)) (i b : Nat) : Prop := b ≤ i ∧ (opAt code b = 3 ∨ b = 0) ∧ ∀ j, b < j → j ≤ i → opAt code j ≠ 3
/-- Where it ends. -/
def IsEnd (code : List (Nat × Nat)) (b e : Nat) : Prop := b < e ∧ e ≤ code.length ∧ (e = code.length ∨ opAt code e = 3) ∧ ∀ j, b < j → j < e → opAt code j ≠ 3
section
variable {code : List (Nat × Nat)} {P : List (Nat × Nat × Nat)} {O : List Nat}
theorem Tiles.begin_eq (h : Tiles code code.length P O) (h0 : opAt code 0 = 3) {i b : Nat} (hi : i < code.length) (hb : IsBegin code i b) : b = (P.getD (O.getD i 0) (0, 0, 0)).1 := by
  obtain ⟨h1, h2, h3⟩ := hb
  have hb3 : opAt code b = 3 := by rcases h2 with h2 | rfl; exact h2; exact h0
  obtain ⟨l1, l2⟩ := h.lo i hi
  have hr := h.lt i hi
  generalize hrr : O.getD i 0 = r at *
  rcases Nat.lt_trichotomy b (P.getD r (0, 0, 0)).1 with c | c | c
  · have := h.mid r hr _ (Nat.le_refl _) (h.bd r hr).1
    have := (h.en _ (Nat.lt_of_le_of_lt l1 hi)).2 (by rw [this])
    exact absurd this (h3 _ c l1)
  · exact c
  · have hm := h.mid r hr b (Nat.le_of_lt c) (Nat.lt_of_le_of_lt h1 l2)
    have := (h.en b (Nat.lt_of_le_of_lt h1 hi)).1 hb3
    rw [hm] at this
    omega
theorem Tiles.end_enter (h : Tiles code code.length P O) {r : Nat} (hr : r < P.length) (hk : (P.getD r (0, 0, 0)).2.1 < code.length) : opAt code (P.getD r (0, 0, 0)).2.1 = 3 := by
  obtain ⟨b1, b2⟩ := h.bd r hr
  generalize hx : (P.getD r (0, 0, 0)).2.1 = x at *
  refine (h.en x hk).2 ?_
  obtain ⟨l1, l2⟩ := h.lo x hk
  have hj := h.lt x hk
  generalize hjj : O.getD x 0 = j at *
  rcases Nat.lt_or_ge (P.getD j (0, 0, 0)).1 x with c | c
  · have m1 := h.mid j hj (x - 1) (by omega) (by omega)
    have m2 := h.mid r hr (x - 1) (by omega) (by omega)
    rw [m1] at m2
    subst m2
    omega
  · omega
theorem Tiles.end_eq (h : Tiles code code.length P O) {r e : Nat} (hr : r < P.length) (he : IsEnd code (P.getD r (0, 0, 0)).1 e) : e = (P.getD r (0, 0, 0)).2.1 := by
  obtain ⟨h1, h2, h3, h4⟩ := he
  obtain ⟨b1, b2⟩ := h.bd r hr
  rcases Nat.lt_trichotomy e (P.getD r (0, 0, 0)).2.1 with c | c | c
  · have e3 : opAt code e = 3 := by rcases h3 with h3 | h3; omega; exact h3
    have hm := h.mid r hr e (Nat.le_of_lt h1) c
    have := (h.en e (by omega)).1 e3
    rw [hm] at this
    omega
  · exact c
  · exact absurd (h.end_enter hr (by omega)) (h4 _ b1 c)
/-- Inside a procedure is what is no enter. -/
theorem Tiles.inside (h : Tiles code code.length P O) {x : Nat} (hx : x < code.length) : insideN (P.getD (O.getD x 0) (0, 0, 0)) x = (opAt code x != 3) := by
  obtain ⟨l1, l2⟩ := h.lo x hx
  have he := h.en x hx
  unfold insideN opAt
  by_cases c : (code.getD x (0, 0)).1 = 3
  · have := he.1 c
    rw [decide_eq_false (by omega), bne_eq_false_iff_eq.2 c]; rfl
  · have : ¬ (P.getD (O.getD x 0) (0, 0, 0)).1 = x := fun e => c (he.2 e)
    rw [decide_eq_true (by omega), decide_eq_true l2, bne_iff_ne.2 c]; rfl
theorem Tiles.begins (h : Tiles code code.length P O) (x : Nat) : beginsN P O x = (decide (x < code.length) && (opAt code x == 3)) := by
  unfold beginsN
  rw [h.ol]
  by_cases hx : x < code.length
  · rw [decide_eq_true hx, Bool.true_and, Bool.true_and, Bool.eq_iff_iff, beq_iff_eq, beq_iff_eq]
    exact (h.en x hx).symm
  · rw [decide_eq_false hx]; rfl
end
/-- The document's test of one instruction. -/
def refFault (code : List (Nat × Nat)) (i b e : Nat) : Nat :=
  if opAt code i = 3 ∧ ((code.getD i (0, 0)).2 = 0 ∨ (code.getD i (0, 0)).2 % 4 ≠ 0 ∨ 4096 < (code.getD i (0, 0)).2) then 131
  else if opAt code i = 4 ∧ (code.getD i (0, 0)).2 ≠ (code.getD b (0, 0)).2 then 131
  else if (kindOf (opAt code i) = 3 ∨ kindOf (opAt code i) = 2) ∧ ((code.getD i (0, 0)).2 ≤ b ∨ e ≤ (code.getD i (0, 0)).2) then 132
  else if i + 1 = e ∧ kindOf (opAt code i) ≠ 3 ∧ kindOf (opAt code i) ≠ 4 ∧ kindOf (opAt code i) ≠ 7 ∧ kindOf (opAt code i) ≠ 8 then 133 else 0
theorem kind6 {o : Nat} (h : isOp o = true) : kindOf o = 6 ↔ o = 3 := by
  have hlt : o < 60 := by simp [isOp] at h; omega
  have : ∀ o < 60, (kindOf o = 6 ↔ o = 3) := by decide +kernel
  exact this o hlt
theorem kind7 {o : Nat} (h : isOp o = true) : kindOf o = 7 ↔ o = 4 := by
  have hlt : o < 60 := by simp [isOp] at h; omega
  have : ∀ o < 60, (kindOf o = 7 ↔ o = 4) := by decide +kernel
  exact this o hlt
theorem refFault_eq {code : List (Nat × Nat)} (h : Tiles code code.length (psTo code code.length) (ofTo code code.length)) {i : Nat} (hi : i < code.length) (hop : isOp (opAt code i) = true) :
    refFault code i ((psTo code code.length).getD ((ofTo code code.length).getD i 0) (0, 0, 0)).1 ((psTo code code.length).getD ((ofTo code code.length).getD i 0) (0, 0, 0)).2.1 = faultAt code i := by
  have hr := h.lt i hi
  have hf := h.fr _ hr
  have k6 := kind6 hop
  have k7 := kind7 hop
  unfold refFault faultAt faultN faultK insideN endsK
  rw [← hf]
  generalize (psTo code code.length).getD ((ofTo code code.length).getD i 0) (0, 0, 0) = p at *
  have ho : opAt code i = (code.getD i (0, 0)).1 := rfl
  rw [ho] at k6 k7 ⊢
  generalize (code.getD i (0, 0)).2 = a at *
  generalize hk : kindOf (code.getD i (0, 0)).1 = K at *
  generalize (code.getD i (0, 0)).1 = o at *
  have hins : (decide (p.1 < a) && decide (a < p.2.1)) = false ↔ (a ≤ p.1 ∨ p.2.1 ≤ a) := by
    rw [Bool.and_eq_false_iff, decide_eq_false_iff_not, decide_eq_false_iff_not]; omega
  have hend : (K == 3 || K == 4 || K == 8) = false ↔ (K ≠ 3 ∧ K ≠ 4 ∧ K ≠ 8) := by
    rw [Bool.or_eq_false_iff, Bool.or_eq_false_iff, beq_eq_false_iff_ne, beq_eq_false_iff_ne, beq_eq_false_iff_ne, and_assoc]
  have a1 : (o = 3 ∧ (a = 0 ∨ a % 4 ≠ 0 ∨ 4096 < a)) ↔ (K = 6 ∧ (a % 4 ≠ 0 ∨ a = 0 ∨ 4096 < a)) := by rw [k6]; omega
  by_cases c1 : K = 6 ∧ (a % 4 ≠ 0 ∨ a = 0 ∨ 4096 < a)
  · rw [if_pos (a1.2 c1), if_pos c1]
  · rw [if_neg (fun h => c1 (a1.1 h)), if_neg c1]
    by_cases c7 : K = 7
    · rw [if_pos c7]
      by_cases c : a = p.2.2
      · have n1 : ¬ (o = 4 ∧ a ≠ p.2.2) := fun h => h.2 c
        have n2 : ¬ ((K = 3 ∨ K = 2) ∧ (a ≤ p.1 ∨ p.2.1 ≤ a)) := fun h => by omega
        have n3 : ¬ (i + 1 = p.2.1 ∧ K ≠ 3 ∧ K ≠ 4 ∧ K ≠ 7 ∧ K ≠ 8) := fun h => h.2.2.2.1 c7
        rw [if_neg n1, if_neg n2, if_neg n3, if_neg (fun h => h c)]
      · rw [if_pos ⟨k7.1 c7, c⟩, if_pos c]
    · have n1 : ¬ (o = 4 ∧ a ≠ p.2.2) := fun h => c7 (k7.2 h.1)
      rw [if_neg n1, if_neg c7]
      have e2 : ((K = 3 ∨ K = 2) ∧ (a ≤ p.1 ∨ p.2.1 ≤ a)) ↔ ((K = 3 ∨ K = 2) ∧ (decide (p.1 < a) && decide (a < p.2.1)) = false) := by rw [hins]
      by_cases c2 : (K = 3 ∨ K = 2) ∧ (a ≤ p.1 ∨ p.2.1 ≤ a)
      · rw [if_pos c2, if_pos (e2.1 c2)]
      · rw [if_neg c2, if_neg (fun h => c2 (e2.2 h))]
        have e3 : (i + 1 = p.2.1 ∧ K ≠ 3 ∧ K ≠ 4 ∧ K ≠ 7 ∧ K ≠ 8) ↔ (i + 1 = p.2.1 ∧ (K == 3 || K == 4 || K == 8) = false) := by rw [hend]; omega
        by_cases c3 : i + 1 = p.2.1 ∧ K ≠ 3 ∧ K ≠ 4 ∧ K ≠ 7 ∧ K ≠ 8
        · rw [if_pos c3, if_pos (e3.1 c3)]
        · rw [if_neg c3, if_neg (fun h => c3 (e3.2 h))]
end Go.Proofs.Ytofkamnmgpkehab
