import Derived.Test.YtofkamnmgpkehaaDoorBits
/- Rising lists of numbers, and sets of words as such lists; plain. -/
namespace Go.Proofs.YtofkamnmgpkehaaDoor
def Up (l : List Nat) : Prop := l.Pairwise (· < ·)
/-- The list's numbers are the set's. -/
def Is (ws l : List Nat) : Prop := Up l ∧ ∀ x, x ∈ l ↔ mem ws x = true
theorem up_ext : ∀ (l m : List Nat), Up l → Up m → (∀ x, x ∈ l ↔ x ∈ m) → l = m := by
  intro l
  induction l with
  | nil =>
    intro m _ _ h
    cases m with
    | nil => rfl
    | cons b m => exact absurd ((h b).2 (List.mem_cons_self ..)) (by simp)
  | cons a l ih =>
    intro m hl hm h
    cases m with
    | nil => exact absurd ((h a).1 (List.mem_cons_self ..)) (by simp)
    | cons b m =>
      obtain ⟨ha, hl2⟩ := List.pairwise_cons.1 hl
      obtain ⟨hb, hm2⟩ := List.pairwise_cons.1 hm
      have e : a = b := by
        rcases List.mem_cons.1 ((h a).1 (List.mem_cons_self ..)) with e | e
        · exact e
        · rcases List.mem_cons.1 ((h b).2 (List.mem_cons_self ..)) with e2 | e2
          · exact e2.symm
          · have := hb _ e; have := ha _ e2; omega
      subst e
      rw [ih m hl2 hm2 (fun x => ?_)]
      constructor
      · intro hx
        rcases List.mem_cons.1 ((h x).1 (List.mem_cons_of_mem _ hx)) with e | e
        · have := ha _ hx; omega
        · exact e
      · intro hx
        rcases List.mem_cons.1 ((h x).2 (List.mem_cons_of_mem _ hx)) with e | e
        · have := hb _ hx; omega
        · exact e
theorem bl_up (w : Nat) : Up (bl w) := List.Pairwise.filter _ List.pairwise_lt_range
theorem eW_ge (ws : List Nat) (i x : Nat) (h : x ∈ eW i ws) : 64 * i ≤ x := by
  obtain ⟨y, rfl, -⟩ := eW_mem ws i x h
  omega
theorem eW_up : ∀ (ws : List Nat) (i : Nat), Up (eW i ws) := by
  intro ws
  induction ws with
  | nil => intro i; exact List.Pairwise.nil
  | cons w ws ih =>
    intro i
    refine List.pairwise_append.2 ⟨?_, ih (i + 1), ?_⟩
    · exact List.pairwise_map.2 ((bl_up w).imp (fun h => by omega))
    · intro a ha b hb
      obtain ⟨t, ht, rfl⟩ := List.mem_map.1 ha
      have h1 := List.mem_range.1 (List.mem_filter.1 ht).1
      have := eW_ge ws (i + 1) b hb
      omega
theorem mem_eW : ∀ (ws : List Nat) (i y : Nat), y < 64 * ws.length → mem ws y = true → 64 * i + y ∈ eW i ws := by
  intro ws
  induction ws with
  | nil => intro i y h; simp at h
  | cons w ws ih =>
    intro i y hy hm
    by_cases h : y < 64
    · rw [mem_cons_lt w ws y h] at hm
      exact List.mem_append.2 (.inl (List.mem_map.2 ⟨y, List.mem_filter.2 ⟨List.mem_range.2 h, hm⟩, rfl⟩))
    · obtain ⟨z, rfl⟩ : ∃ z, y = 64 + z := ⟨y - 64, by omega⟩
      rw [mem_cons_add] at hm
      have := ih (i + 1) z (by rw [List.length_cons] at hy; omega) hm
      rw [show 64 * i + (64 + z) = 64 * (i + 1) + z from by omega]
      exact List.mem_append.2 (.inr this)
theorem mem_lt {ws : List Nat} {y : Nat} (h : mem ws y = true) : y < 64 * ws.length := by
  by_cases hy : y / 64 < ws.length
  · omega
  · unfold mem at h
    rw [List.getD_eq_getElem?_getD, List.getElem?_eq_none (by omega)] at h
    simp at h
theorem eW_is (ws : List Nat) : Is ws (eW 0 ws) := ⟨eW_up ws 0, fun x => ⟨fun h => by
  obtain ⟨y, rfl, -, hm⟩ := eW_mem ws 0 x h
  rwa [show 64 * 0 + y = y from by omega], fun h => by
  have := mem_eW ws 0 x (mem_lt h) h
  rwa [show 64 * 0 + x = x from by omega] at this⟩⟩
theorem Is.eq {ws l : List Nat} (h : Is ws l) : l = eW 0 ws := up_ext _ _ h.1 (eW_up ws 0) (fun x => (h.2 x).trans ((eW_is ws).2 x).symm)
theorem bl_len (w : Nat) : (bl w).length = pop w := by
  have key : ∀ n (f : Nat → Bool), ((List.range n).filter f).length = cnt n f := by
    intro n
    induction n with
    | zero => intro f; rfl
    | succ n ih =>
      intro f
      rw [List.range_succ_eq_map, List.filter_cons]
      simp only [cnt]
      have e : ((List.map Nat.succ (List.range n)).filter f).length = cnt n (fun i => f (i + 1)) := by
        rw [List.filter_map, List.length_map]; exact ih _
      cases hf : f 0
      · rw [if_neg (by simp), e]; simp
      · rw [if_pos rfl, List.length_cons, e]; simp; omega
  exact key 64 _
theorem eW_len : ∀ (ws : List Nat) (i : Nat), (eW i ws).length = (ws.map pop).sum := by
  intro ws
  induction ws with
  | nil => intro i; rfl
  | cons w ws ih => intro i; simp only [eW, List.length_append, List.length_map, bl_len, ih, List.map_cons, List.sum_cons]
theorem Is.len {ws l : List Nat} (h : Is ws l) : (ws.map pop).sum = l.length := by rw [h.eq, eW_len]
theorem pop_le64 (w : Nat) : pop w ≤ 64 := by rw [← bl_len]; exact Nat.le_trans (List.length_filter_le _ _) (by simp)
theorem sum_pop_le : ∀ ws : List Nat, (ws.map pop).sum ≤ 64 * ws.length := by
  intro ws
  induction ws with
  | nil => exact Nat.le_refl _
  | cons w ws ih => rw [List.map_cons, List.sum_cons, List.length_cons]; have := pop_le64 w; omega
theorem is_nil (n : Nat) : Is (List.replicate n 0) [] := ⟨List.Pairwise.nil, fun x => by
  unfold mem
  rw [List.getD_eq_getElem?_getD, List.getElem?_replicate]
  constructor
  · intro h; cases h
  · split <;> simp⟩
/-- The place of x in a list, or where it would stand. -/
def Place (l : List Nat) (x k : Nat) : Prop := k ≤ l.length ∧ (∀ i, i < k → l.getD i 0 < x) ∧ (k < l.length → x ≤ l.getD k 0)
theorem getD_eq {l : List Nat} {k : Nat} (hk : k < l.length) : l.getD k 0 = l[k] := by rw [List.getD_eq_getElem?_getD, List.getElem?_eq_getElem hk]; rfl
theorem up_get {l : List Nat} (h : Up l) {i j : Nat} (hij : i < j) (hj : j < l.length) : l.getD i 0 < l.getD j 0 := by
  rw [getD_eq hj, getD_eq (by omega)]
  exact List.pairwise_iff_getElem.1 h i j (by omega) hj hij
theorem Place.there {l : List Nat} {x k : Nat} (hu : Up l) (h : Place l x k) : x ∈ l ↔ (k < l.length ∧ l.getD k 0 = x) := by
  constructor
  · intro hx
    obtain ⟨j, hj, rfl⟩ := List.mem_iff_getElem.1 hx
    rw [← getD_eq hj] at *
    by_cases hjk : j < k
    · have := h.2.1 j hjk; omega
    · have hk : k < l.length := by omega
      refine ⟨hk, ?_⟩
      have h1 := h.2.2 hk
      rcases Nat.lt_or_eq_of_le (show k ≤ j by omega) with e | e
      · have := up_get hu e hj; omega
      · rw [e]
  · rintro ⟨hk, e⟩
    rw [← e, getD_eq hk]
    exact List.getElem_mem hk
theorem up_take {l : List Nat} (h : Up l) (k : Nat) : Up (l.take k) := List.Pairwise.sublist (List.take_sublist k l) h
theorem up_drop {l : List Nat} (h : Up l) (k : Nat) : Up (l.drop k) := List.Pairwise.sublist (List.drop_sublist k l) h
theorem mem_take {l : List Nat} {k y : Nat} (h : y ∈ l.take k) : ∃ i, i < k ∧ i < l.length ∧ l.getD i 0 = y := by
  obtain ⟨i, hi, rfl⟩ := List.mem_iff_getElem.1 h
  rw [List.length_take] at hi
  exact ⟨i, by omega, by omega, by rw [getD_eq (by omega), List.getElem_take]⟩
theorem mem_drop' {l : List Nat} {k y : Nat} (h : y ∈ l.drop k) : ∃ i, k ≤ i ∧ i < l.length ∧ l.getD i 0 = y := by
  obtain ⟨i, hi, rfl⟩ := List.mem_iff_getElem.1 h
  rw [List.length_drop] at hi
  exact ⟨k + i, by omega, by omega, by rw [getD_eq (by omega), List.getElem_drop]⟩
theorem Is.put {ws ws' l : List Nat} {x k : Nat} (h : Is ws l) (hp : Place l x k) (hx : mem ws x = false) (hm : ∀ y, mem ws' y = (mem ws y || decide (y = x))) : Is ws' (l.take k ++ x :: l.drop k) := by
  have hxl : ¬ x ∈ l := fun e => by rw [(h.2 x).1 e] at hx; cases hx
  refine ⟨List.pairwise_append.2 ⟨up_take h.1 k, List.pairwise_cons.2 ⟨fun y hy => ?_, up_drop h.1 k⟩, fun a ha b hb => ?_⟩, fun y => ?_⟩
  · obtain ⟨i, hki, hil, rfl⟩ := mem_drop' hy
    have h1 := hp.2.2 (by omega)
    have h2 : l.getD k 0 ≤ l.getD i 0 := by
      rcases Nat.lt_or_eq_of_le hki with e | e
      · exact Nat.le_of_lt (up_get h.1 e hil)
      · rw [e]; exact Nat.le_refl _
    have h3 : l.getD i 0 ≠ x := fun e => hxl (by rw [← e, getD_eq hil]; exact List.getElem_mem hil)
    omega
  · obtain ⟨i, hik, hil, rfl⟩ := mem_take ha
    rcases List.mem_cons.1 hb with e | e
    · rw [e]; exact hp.2.1 i hik
    · obtain ⟨j, hkj, hjl, rfl⟩ := mem_drop' e
      exact up_get h.1 (by omega) hjl
  · rw [hm, Bool.or_eq_true, decide_eq_true_eq, ← h.2, List.mem_append, List.mem_cons]
    have : y ∈ l ↔ (y ∈ l.take k ∨ y ∈ l.drop k) := by rw [← List.mem_append, List.take_append_drop]
    rw [this]
    constructor
    · rintro (e | e | e)
      · exact .inl (.inl e)
      · exact .inr e
      · exact .inl (.inr e)
    · rintro ((e | e) | e)
      · exact .inl e
      · exact .inr (.inr e)
      · exact .inr (.inl e)
theorem Is.out {ws ws' l : List Nat} {x k : Nat} (h : Is ws l) (hp : Place l x k) (hx : mem ws x = true) (hm : ∀ y, mem ws' y = (mem ws y && !decide (y = x))) : Is ws' (l.take k ++ l.drop (k + 1)) := by
  obtain ⟨hk, he⟩ := (hp.there h.1).1 ((h.2 x).2 hx)
  refine ⟨List.pairwise_append.2 ⟨up_take h.1 k, up_drop h.1 (k + 1), fun a ha b hb => ?_⟩, fun y => ?_⟩
  · obtain ⟨i, hik, hil, rfl⟩ := mem_take ha
    obtain ⟨j, hkj, hjl, rfl⟩ := mem_drop' hb
    exact up_get h.1 (by omega) hjl
  · rw [hm, Bool.and_eq_true, ← h.2, List.mem_append]
    have e1 : l = l.take k ++ x :: l.drop (k + 1) := by
      rw [← he, getD_eq hk, ← List.drop_eq_getElem_cons hk, List.take_append_drop]
    have e2 : y ∈ l ↔ (y ∈ l.take k ∨ y = x ∨ y ∈ l.drop (k + 1)) := by
      rw [show (y ∈ l) = (y ∈ l.take k ++ x :: l.drop (k + 1)) from by rw [← e1], List.mem_append, List.mem_cons]
    rw [e2]
    constructor
    · rintro (e | e)
      · obtain ⟨i, hik, hil, rfl⟩ := mem_take e
        have := hp.2.1 i hik
        exact ⟨.inl e, by rw [decide_eq_false (by omega)]; rfl⟩
      · obtain ⟨j, hkj, hjl, rfl⟩ := mem_drop' e
        have := up_get h.1 (show k < j by omega) hjl
        exact ⟨.inr (.inr e), by rw [decide_eq_false (by omega)]; rfl⟩
    · rintro ⟨e | e | e, hn⟩
      · exact .inl e
      · simp [e] at hn
      · exact .inr e
theorem up_sub_len : ∀ (m l : List Nat), Up l → Up m → (∀ x ∈ l, x ∈ m) → l.length ≤ m.length := by
  intro m
  induction m with
  | nil =>
    intro l _ _ h
    cases l with
    | nil => exact Nat.le_refl _
    | cons a l => exact absurd (h a (List.mem_cons_self ..)) (by simp)
  | cons b m ih =>
    intro l hl hm h
    obtain ⟨hb, hm2⟩ := List.pairwise_cons.1 hm
    cases l with
    | nil => exact Nat.zero_le _
    | cons a l =>
      obtain ⟨ha, hl2⟩ := List.pairwise_cons.1 hl
      have hab : b ≤ a := by
        rcases List.mem_cons.1 (h a (List.mem_cons_self ..)) with e | e
        · rw [e]; exact Nat.le_refl _
        · exact Nat.le_of_lt (hb _ e)
      have := ih l hl2 hm2 (fun x hx => by
        have h1 := ha x hx
        rcases List.mem_cons.1 (h x (List.mem_cons_of_mem _ hx)) with e | e
        · omega
        · exact e)
      simp only [List.length_cons]
      omega
theorem up_sub_eq : ∀ (m l : List Nat), Up l → Up m → (∀ x ∈ l, x ∈ m) → l.length = m.length → l = m := by
  intro m
  induction m with
  | nil => intro l _ _ _ h; exact List.eq_nil_of_length_eq_zero h
  | cons b m ih =>
    intro l hl hm h hlen
    obtain ⟨hb, hm2⟩ := List.pairwise_cons.1 hm
    cases l with
    | nil => simp at hlen
    | cons a l =>
      obtain ⟨ha, hl2⟩ := List.pairwise_cons.1 hl
      rcases List.mem_cons.1 (h a (List.mem_cons_self ..)) with e | e
      · subst e
        rw [ih l hl2 hm2 (fun x hx => by
          have h1 := ha x hx
          rcases List.mem_cons.1 (h x (List.mem_cons_of_mem _ hx)) with e | e
          · omega
          · exact e) (by simpa using hlen)]
      · have h0 := hb _ e
        have := up_sub_len m (a :: l) hl hm2 (fun x hx => by
          have h1 : a ≤ x := by
            rcases List.mem_cons.1 hx with e | e
            · rw [e]; exact Nat.le_refl _
            · exact Nat.le_of_lt (ha _ e)
          rcases List.mem_cons.1 (h x hx) with e | e
          · omega
          · exact e)
        simp only [List.length_cons] at this hlen
        omega
/-- The list's numbers are the set's, all below N. -/
def IsB (N : Nat) (ws l : List Nat) : Prop := Is ws l ∧ ∀ x ∈ l, x < N
theorem IsB.put {N : Nat} {ws ws' l : List Nat} {x k : Nat} (h : IsB N ws l) (hp : Place l x k) (hx : mem ws x = false) (hN : x < N) (hm : ∀ y, mem ws' y = (mem ws y || decide (y = x))) : IsB N ws' (l.take k ++ x :: l.drop k) :=
  ⟨h.1.put hp hx hm, fun y hy => by
    rcases List.mem_append.1 hy with e | e
    · exact h.2 y (List.mem_of_mem_take e)
    · rcases List.mem_cons.1 e with e | e
      · rw [e]; exact hN
      · exact h.2 y (List.mem_of_mem_drop e)⟩
theorem IsB.out {N : Nat} {ws ws' l : List Nat} {x k : Nat} (h : IsB N ws l) (hp : Place l x k) (hx : mem ws x = true) (hm : ∀ y, mem ws' y = (mem ws y && !decide (y = x))) : IsB N ws' (l.take k ++ l.drop (k + 1)) :=
  ⟨h.1.out hp hx hm, fun y hy => by
    rcases List.mem_append.1 hy with e | e
    · exact h.2 y (List.mem_of_mem_take e)
    · exact h.2 y (List.mem_of_mem_drop e)⟩
theorem IsB.same {N : Nat} {ws ws' l : List Nat} (h : IsB N ws l) (hm : ∀ y, mem ws' y = mem ws y) : IsB N ws' l := ⟨⟨h.1.1, fun x => by rw [hm]; exact h.1.2 x⟩, h.2⟩
theorem IsB.has {N : Nat} {ws l : List Nat} (h : IsB N ws l) (x : Nat) : decide (x ∈ l) = mem ws x := by
  cases hm : mem ws x
  · exact decide_eq_false (fun e => by rw [(h.1.2 x).1 e] at hm; cases hm)
  · exact decide_eq_true ((h.1.2 x).2 hm)
theorem IsB.has2 {N : Nat} {ws l : List Nat} (h : IsB N ws l) (x : Nat) : (decide (x < N) && mem ws x) = mem ws x := by
  cases hm : mem ws x
  · simp
  · rw [decide_eq_true (h.2 x ((h.1.2 x).2 hm))]; rfl
end Go.Proofs.YtofkamnmgpkehaaDoor
