import Derived.Test.YtofkamnmgpkehabAim1
/- Procedures lie one behind the other; the lists of targets: plain laws. -/
namespace Go.Proofs.Ytofkamnmgpkehab
open Go.RowKit
theorem endAt_getD (ps : List (Nat × Nat × Nat)) (e j : Nat) (h0 : 0 < ps.length) : (endAt ps e).getD j (0, 0, 0) = if j = ps.length - 1 then ((ps.getD j (0, 0, 0)).1, e, (ps.getD j (0, 0, 0)).2.2) else ps.getD j (0, 0, 0) := by
  unfold endAt
  rw [List.getD_eq_getElem?_getD, List.getElem?_set]
  by_cases h : j = ps.length - 1
  · subst h
    rw [if_pos rfl, if_pos (by omega), if_pos rfl]; rfl
  · rw [if_neg (fun e => h e.symm), if_neg h, List.getD_eq_getElem?_getD]
theorem getD_snoc {α : Type} (l : List α) (x d : α) (j : Nat) : (l ++ [x]).getD j d = if j < l.length then l.getD j d else if j = l.length then x else d := by
  rw [List.getD_eq_getElem?_getD]
  by_cases h : j < l.length
  · rw [if_pos h, List.getElem?_append_left h, List.getD_eq_getElem?_getD]
  · rw [if_neg h, List.getElem?_append_right (by omega)]
    by_cases e : j = l.length
    · rw [if_pos e, e]; simp
    · rw [if_neg e, List.getElem?_eq_none (by simp; omega)]; rfl
/-- The procedures lie one behind the other. -/
structure Tiles (code : List (Nat × Nat)) (k : Nat) (P : List (Nat × Nat × Nat)) (O : List Nat) : Prop where
  ol : O.length = k
  pos : 0 < k → 0 < P.length
  lt : ∀ i, i < k → O.getD i 0 < P.length
  lo : ∀ i, i < k → (P.getD (O.getD i 0) (0, 0, 0)).1 ≤ i ∧ i < (P.getD (O.getD i 0) (0, 0, 0)).2.1
  en : ∀ i, i < k → ((code.getD i (0, 0)).1 = 3 ↔ (P.getD (O.getD i 0) (0, 0, 0)).1 = i)
  mid : ∀ j, j < P.length → ∀ i, (P.getD j (0, 0, 0)).1 ≤ i → i < (P.getD j (0, 0, 0)).2.1 → O.getD i 0 = j
  bd : ∀ j, j < P.length → (P.getD j (0, 0, 0)).1 < (P.getD j (0, 0, 0)).2.1 ∧ (P.getD j (0, 0, 0)).2.1 ≤ k
  fr : ∀ j, j < P.length → (P.getD j (0, 0, 0)).2.2 = (code.getD (P.getD j (0, 0, 0)).1 (0, 0)).2
  first : (P.getD 0 (0, 0, 0)).1 = 0
  next : ∀ j, j + 1 < P.length → (P.getD (j + 1) (0, 0, 0)).1 = (P.getD j (0, 0, 0)).2.1
  last : 0 < P.length → (P.getD (P.length - 1) (0, 0, 0)).2.1 = k
theorem tiles_enter {code : List (Nat × Nat)} {k : Nat} {P : List (Nat × Nat × Nat)} {O : List Nat} (h : Tiles code k P O) (h3 : (code.getD k (0, 0)).1 = 3) (P' : List (Nat × Nat × Nat)) (O' : List Nat)
    (hl : P'.length = P.length + 1) (hP : ∀ j, P'.getD j (0, 0, 0) = if j < P.length then P.getD j (0, 0, 0) else if j = P.length then (k, k + 1, (code.getD k (0, 0)).2) else (0, 0, 0))
    (hol : O'.length = k + 1) (hO : ∀ i, O'.getD i 0 = if i < k then O.getD i 0 else if i = k then P.length else 0) : Tiles code (k + 1) P' O' := by
  have hPn : P'.getD P.length (0, 0, 0) = (k, k + 1, (code.getD k (0, 0)).2) := by rw [hP, if_neg (Nat.lt_irrefl _), if_pos rfl]
  have hOk : O'.getD k 0 = P.length := by rw [hO, if_neg (Nat.lt_irrefl _), if_pos rfl]
  have hPo : ∀ j, j < P.length → P'.getD j (0, 0, 0) = P.getD j (0, 0, 0) := fun j hj => by rw [hP, if_pos hj]
  have hOo : ∀ i, i < k → O'.getD i 0 = O.getD i 0 := fun i hi => by rw [hO, if_pos hi]
  refine ⟨hol, fun _ => by omega, ?_, ?_, ?_, ?_, ?_, ?_, ?_, ?_, ?_⟩
  · intro i hi
    by_cases e : i = k
    · subst e; rw [hOk]; omega
    · rw [hOo i (by omega)]; have := h.lt i (by omega); omega
  · intro i hi
    by_cases e : i = k
    · subst e; rw [hOk, hPn]; exact ⟨Nat.le_refl _, Nat.lt_succ_self _⟩
    · rw [hOo i (by omega), hPo _ (h.lt i (by omega))]; exact h.lo i (by omega)
  · intro i hi
    by_cases e : i = k
    · subst e; rw [hOk, hPn]; exact ⟨fun _ => rfl, fun _ => h3⟩
    · rw [hOo i (by omega), hPo _ (h.lt i (by omega))]; exact h.en i (by omega)
  · intro j hj i h1 h2
    by_cases e : j = P.length
    · subst e
      rw [hPn] at h1 h2
      have : i = k := by simp only at h1 h2; omega
      rw [this, hOk]
    · have hj' : j < P.length := by omega
      rw [hPo j hj'] at h1 h2
      have := (h.bd j hj').2
      rw [hOo i (by omega)]
      exact h.mid j hj' i h1 h2
  · intro j hj
    by_cases e : j = P.length
    · subst e; rw [hPn]; exact ⟨Nat.lt_succ_self _, Nat.le_refl _⟩
    · have hj' : j < P.length := by omega
      rw [hPo j hj']; have := h.bd j hj'; omega
  · intro j hj
    by_cases e : j = P.length
    · subst e; rw [hPn]
    · have hj' : j < P.length := by omega
      rw [hPo j hj']; exact h.fr j hj'
  · by_cases e : 0 < P.length
    · rw [hPo 0 e]; exact h.first
    · have hk : k = 0 := by
        cases k with
        | zero => rfl
        | succ k => exact absurd (h.pos (by omega)) e
      have := hP 0
      rw [if_neg e, if_pos (by omega)] at this
      rw [this]; exact hk
  · intro j hj
    by_cases e : j + 1 = P.length
    · rw [e, hPn, hPo j (by omega)]
      have := h.last (by omega)
      rw [← e, Nat.add_sub_cancel] at this
      exact this.symm
    · rw [hPo (j + 1) (by omega), hPo j (by omega)]; exact h.next j (by omega)
  · intro _
    rw [hl, Nat.add_sub_cancel, hPn]
theorem tiles_other {code : List (Nat × Nat)} {k : Nat} {P : List (Nat × Nat × Nat)} {O : List Nat} (h : Tiles code k P O) (h3 : (code.getD k (0, 0)).1 ≠ 3) (hk : 0 < P.length) (P' : List (Nat × Nat × Nat)) (O' : List Nat)
    (hl : P'.length = P.length) (hP : ∀ j, P'.getD j (0, 0, 0) = if j = P.length - 1 then ((P.getD j (0, 0, 0)).1, k + 1, (P.getD j (0, 0, 0)).2.2) else P.getD j (0, 0, 0))
    (hol : O'.length = k + 1) (hO : ∀ i, O'.getD i 0 = if i < k then O.getD i 0 else if i = k then P.length - 1 else 0) : Tiles code (k + 1) P' O' := by
  have hPn : P'.getD (P.length - 1) (0, 0, 0) = ((P.getD (P.length - 1) (0, 0, 0)).1, k + 1, (P.getD (P.length - 1) (0, 0, 0)).2.2) := by rw [hP, if_pos rfl]
  have hOk : O'.getD k 0 = P.length - 1 := by rw [hO, if_neg (Nat.lt_irrefl _), if_pos rfl]
  have hPo : ∀ j, j ≠ P.length - 1 → P'.getD j (0, 0, 0) = P.getD j (0, 0, 0) := fun j hj => by rw [hP, if_neg hj]
  have hP1 : ∀ j, (P'.getD j (0, 0, 0)).1 = (P.getD j (0, 0, 0)).1 := fun j => by rw [hP]; split <;> rfl
  have hP3 : ∀ j, (P'.getD j (0, 0, 0)).2.2 = (P.getD j (0, 0, 0)).2.2 := fun j => by rw [hP]; split <;> rfl
  have hOo : ∀ i, i < k → O'.getD i 0 = O.getD i 0 := fun i hi => by rw [hO, if_pos hi]
  have hls := h.last hk
  have hbl := h.bd (P.length - 1) (by omega)
  have hP2 : ∀ j, (P.getD j (0, 0, 0)).2.1 ≤ (P'.getD j (0, 0, 0)).2.1 ∨ ¬ j < P.length := fun j => by
    by_cases hj : j < P.length
    · left; rw [hP]; split
      · rename_i e; show _ ≤ k + 1; have := (h.bd j hj).2; omega
      · exact Nat.le_refl _
    · exact .inr hj
  refine ⟨hol, fun _ => by omega, ?_, ?_, ?_, ?_, ?_, ?_, ?_, ?_, ?_⟩
  · intro i hi
    by_cases e : i = k
    · subst e; rw [hOk]; omega
    · rw [hOo i (by omega)]; have := h.lt i (by omega); omega
  · intro i hi
    by_cases e : i = k
    · subst e; rw [hOk, hPn]; simp only; omega
    · rw [hOo i (by omega), hP1]
      have hlt := h.lt i (by omega)
      have h1 := h.lo i (by omega)
      have h2 := hP2 (O.getD i 0)
      omega
  · intro i hi
    by_cases e : i = k
    · subst e; rw [hOk, hPn]; simp only
      exact ⟨fun e => absurd e h3, fun e => by omega⟩
    · rw [hOo i (by omega), hP1]; exact h.en i (by omega)
  · intro j hj i h1 h2
    rw [hl] at hj
    by_cases e : j = P.length - 1
    · subst e
      rw [hPn] at h1 h2
      simp only at h1 h2
      by_cases e2 : i = k
      · rw [e2, hOk]
      · rw [hOo i (by omega)]
        exact h.mid _ hj i h1 (by omega)
    · rw [hPo j e] at h1 h2
      have := (h.bd j hj).2
      rw [hOo i (by omega)]
      exact h.mid j hj i h1 h2
  · intro j hj
    rw [hl] at hj
    by_cases e : j = P.length - 1
    · subst e; rw [hPn]; simp only; omega
    · rw [hPo j e]; have := h.bd j hj; omega
  · intro j hj
    rw [hl] at hj
    rw [hP3, hP1]; exact h.fr j hj
  · rw [hP1]; exact h.first
  · intro j hj
    rw [hl] at hj
    rw [hP1, hPo j (by omega)]; exact h.next j hj
  · intro _
    rw [hl, hPn]
theorem tiles {code : List (Nat × Nat)} (h0 : (code.getD 0 (0, 0)).1 = 3) (k : Nat) : Tiles code k (psTo code k) (ofTo code k) := by
  induction k with
  | zero =>
    refine ⟨rfl, fun h => absurd h (Nat.lt_irrefl _), ?_, ?_, ?_, ?_, ?_, ?_, rfl, ?_, ?_⟩
    · intro i hi; exact absurd hi (Nat.not_lt_zero i)
    · intro i hi; exact absurd hi (Nat.not_lt_zero i)
    · intro i hi; exact absurd hi (Nat.not_lt_zero i)
    · intro i hi; exact absurd hi (Nat.not_lt_zero i)
    · intro i hi; exact absurd hi (Nat.not_lt_zero i)
    · intro i hi; exact absurd hi (Nat.not_lt_zero i)
    · intro i hi; exact absurd hi (Nat.not_lt_zero _)
    · intro h; exact absurd h (Nat.not_lt_zero _)
  | succ k ih =>
    have hol : (ofTo code (k + 1)).length = k + 1 := by show (ofTo code k ++ [_]).length = _; rw [List.length_append, ih.ol]; rfl
    by_cases h3 : (code.getD k (0, 0)).1 = 3
    · have e1 : psTo code (k + 1) = endAt (psTo code k ++ [(k, 0, (code.getD k (0, 0)).2)]) (k + 1) := by
        show cutStep _ _ _ = _; unfold cutStep; rw [if_pos h3]
      have hlen : (psTo code (k + 1)).length = (psTo code k).length + 1 := by rw [e1, endAt_length, List.length_append]; rfl
      refine tiles_enter ih h3 _ _ hlen ?_ hol ?_
      · intro j
        rw [e1, endAt_getD _ _ _ (by rw [List.length_append]; exact Nat.succ_pos _), List.length_append, getD_snoc]
        have el : (psTo code k).length + [(k, 0, (code.getD k (0, 0)).2)].length - 1 = (psTo code k).length := rfl
        rw [el]
        by_cases a : j < (psTo code k).length
        · rw [if_neg (Nat.ne_of_lt a), if_pos a, if_pos a]
        · rw [if_neg a, if_neg a]
          by_cases b : j = (psTo code k).length
          · rw [if_pos b, if_pos b, if_pos b]
          · rw [if_neg b, if_neg b, if_neg b]
      · intro i
        show (ofTo code k ++ [_]).getD i 0 = _
        rw [getD_snoc, ih.ol, hlen, Nat.add_sub_cancel]
    · have e1 : psTo code (k + 1) = endAt (psTo code k) (k + 1) := by
        show cutStep _ _ _ = _; unfold cutStep; rw [if_neg h3]
      have hk : 0 < (psTo code k).length := ih.pos (by
        cases k with
        | zero => exact absurd h0 h3
        | succ k => omega)
      have hlen : (psTo code (k + 1)).length = (psTo code k).length := by rw [e1, endAt_length]
      refine tiles_other ih h3 hk _ _ hlen ?_ hol ?_
      · intro j
        rw [e1, endAt_getD _ _ _ hk]
      · intro i
        show (ofTo code k ++ [_]).getD i 0 = _
        rw [getD_snoc, ih.ol, hlen]
/-- What lies in the lists of targets. -/
theorem aimTo_getD (ofs js : List Nat) (n k j : Nat) (hr : ofs.getD (js.getD k 0) 0 < n) : (aimTo ofs js n (k + 1)).getD j [] = if j = ofs.getD (js.getD k 0) 0 then (aimTo ofs js n k).getD j [] ++ [js.getD k 0] else (aimTo ofs js n k).getD j [] := by
  show ((aimTo ofs js n k).set _ _).getD j [] = _
  rw [List.getD_eq_getElem?_getD, List.getElem?_set]
  by_cases h : j = ofs.getD (js.getD k 0) 0
  · subst h
    rw [if_pos rfl, if_pos (by rw [aimTo_length]; exact hr), if_pos rfl]; rfl
  · rw [if_neg (fun e => h e.symm), if_neg h, List.getD_eq_getElem?_getD]
structure Tgts (ofs js : List Nat) (k : Nat) (ts : List (List Nat)) : Prop where
  of_mem : ∀ j t, t ∈ ts.getD j [] → ∃ i, i < k ∧ t = js.getD i 0 ∧ ofs.getD t 0 = j
  mem : ∀ i, i < k → js.getD i 0 ∈ ts.getD (ofs.getD (js.getD i 0) 0) []
  sorted : ∀ j, (ts.getD j []).Pairwise (· < ·)
theorem tgts {ps : List (Nat × Nat × Nat)} {ofs js : List Nat} {n : Nat} (hof : ∀ x, x < ofs.length → ofs.getD x 0 < n) (k : Nat) (h : GoodTo ps ofs js k) : Tgts ofs js k (aimTo ofs js n k) := by
  have hup : ∀ a b, a < b → b < k → js.getD a 0 < js.getD b 0 := by
    intro a b hab hb
    induction b with
    | zero => omega
    | succ b ih =>
      have := h (b + 1) hb
      simp only [aimOk, Bool.and_eq_true, Bool.or_eq_true, decide_eq_true_eq] at this
      have h1 : js.getD b 0 < js.getD (b + 1) 0 := by
        rcases this.1 with h | h
        · omega
        · exact h
      by_cases e : a = b
      · rw [e]; exact h1
      · have := ih (by omega) (by omega); omega
  have hlt : ∀ a, a < k → js.getD a 0 < ofs.length := fun a ha => by
    have := h a ha
    simp only [aimOk, Bool.and_eq_true, decide_eq_true_eq] at this
    exact this.2.1
  clear h
  induction k with
  | zero =>
    have e : ∀ j, (aimTo ofs js n 0).getD j [] = [] := fun j => by
      show (List.replicate n []).getD j [] = []
      rw [List.getD_eq_getElem?_getD, List.getElem?_replicate]; split <;> rfl
    refine ⟨fun j t ht => ?_, fun i hi => absurd hi (Nat.not_lt_zero i), fun j => ?_⟩
    · rw [e] at ht; cases ht
    · rw [e]; exact List.Pairwise.nil
  | succ k ih =>
    have I := ih (fun a b hab hb => hup a b hab (by omega)) (fun a ha => hlt a (by omega))
    have hr := hof _ (hlt k (by omega))
    refine ⟨fun j t ht => ?_, fun i hi => ?_, fun j => ?_⟩
    · rw [aimTo_getD _ _ _ _ _ hr] at ht
      split at ht
      · rename_i e
        rcases List.mem_append.1 ht with ht | ht
        · obtain ⟨i, h1, h2⟩ := I.of_mem j t ht; exact ⟨i, by omega, h2⟩
        · rw [List.mem_singleton.1 ht]; exact ⟨k, by omega, rfl, e.symm⟩
      · obtain ⟨i, h1, h2⟩ := I.of_mem j t ht; exact ⟨i, by omega, h2⟩
    · rw [aimTo_getD _ _ _ _ _ hr]
      by_cases e : i = k
      · subst e; rw [if_pos rfl]; simp
      · have := I.mem i (by omega)
        split
        · exact List.mem_append_left _ this
        · exact this
    · rw [aimTo_getD _ _ _ _ _ hr]
      split
      · rw [List.pairwise_append]
        refine ⟨I.sorted j, List.pairwise_singleton _ _, fun a ha b hb => ?_⟩
        obtain ⟨i, h1, h2, _⟩ := I.of_mem j a ha
        rw [List.mem_singleton.1 hb, h2]
        exact hup i k h1 (by omega)
      · exact I.sorted j
end Go.Proofs.Ytofkamnmgpkehab
