import Derived.Test.YtofkamnmgpkehabSmall
/- What Find refuses, it refuses in one way. -/
namespace Go.Proofs.Ytofkamnmgpkehab
open Go.RowKit
theorem FindBad.det {code : List (Nat × Nat)} {js ats : List Nat} {i c i' c' : Nat} (h : FindBad code js ats i c) (h' : FindBad code js ats i' c') : i = i' ∧ c = c' := by
  cases h with
  | enc h =>
    cases h' with
    | enc => exact ⟨rfl, rfl⟩
    | first he => exact absurd he h
    | fault he => exact absurd he h
    | jump he => exact absurd he h
    | name he => exact absurd he h
  | first he h =>
    cases h' with
    | enc h2 => exact absurd he h2
    | first => exact ⟨rfl, rfl⟩
    | fault _ h3 => exact absurd h3 h
    | jump _ h3 => exact absurd h3 h
    | name _ h3 => exact absurd h3 h
  | fault he h3 _ hi hj hf =>
    cases h' with
    | enc h2 => exact absurd he h2
    | first _ h2 => exact absurd h3 h2
    | fault _ _ _ hi' hj' hf' =>
      rcases Nat.lt_trichotomy i i' with e | e | e
      · exact absurd (hj' _ e) hf
      · exact ⟨e, by rw [e]⟩
      · exact absurd (hj _ e) hf'
    | jump _ _ hall => exact absurd (hall _ hi) hf
    | name _ _ hall => exact absurd (hall _ hi) hf
  | jump he h3 hall _ hi hg hb =>
    cases h' with
    | enc h2 => exact absurd he h2
    | first _ h2 => exact absurd h3 h2
    | fault _ _ _ hi' _ hf' => exact absurd (hall _ hi') hf'
    | jump _ _ _ _ hi' hg' hb' =>
      rcases Nat.lt_trichotomy i i' with e | e | e
      · have := hg' _ e; rw [hb] at this; cases this
      · exact ⟨e, rfl⟩
      · have := hg _ e; rw [hb'] at this; cases this
    | name _ _ _ hg' => have := hg' _ hi; rw [hb] at this; cases this
  | name he h3 hall hg _ hi hj hb =>
    cases h' with
    | enc h2 => exact absurd he h2
    | first _ h2 => exact absurd h3 h2
    | fault _ _ _ hi' _ hf' => exact absurd (hall _ hi') hf'
    | jump _ _ _ _ hi' _ hb' => have := hg _ hi'; rw [hb'] at this; cases this
    | name _ _ _ _ _ hi' hj' hb' =>
      rcases Nat.lt_trichotomy i i' with e | e | e
      · have := hj' _ e; rw [hb] at this; cases this
      · exact ⟨e, rfl⟩
      · have := hj _ e; rw [hb'] at this; cases this
/-- Find of what it refuses. -/
theorem find_refuses {w : World} (vc vj vn : Value) (code : List (Nat × Nat)) (js ats : List Nat) {i c : Nat} (hbad : FindBad code js ats i c) (hc : Instrs w vc code) (hj : RowU w w.heap.size vj js) (hn : NamesU w w.heap.size vn ats) :
    Calls Try.prog 15 #[vc, vj, vn] w fun e w' => e = .returned (.tuple #[.pointer none, .int .i64 (i : Nat), .int .i64 (c : Nat)]) ∧ Below w.heap.size w w' := by
  refine (find_any vc vj vn code js ats hc hj hn).mono ?_
  rintro e w' ⟨hb, ⟨i', c', he, hbad'⟩ | ⟨_, _, _, hok, _⟩⟩
  · obtain ⟨rfl, rfl⟩ := hbad.det hbad'
    exact ⟨he, hb⟩
  · exact absurd hbad hok.not_bad
theorem rowU_nil (w : World) (B : Nat) : RowU w B (.slice none 0 0) [] := ⟨none, 0, rfl, Nat.le_refl _, Nat.zero_le _, fun k => by simp, fun h => absurd h (Nat.lt_irrefl _)⟩
theorem namesU_nil (w : World) (B : Nat) : NamesU w B (.slice none 0 0) [] := ⟨none, 0, rfl, Nat.le_refl _, Nat.zero_le _, fun k => by simp, fun h => absurd h (Nat.lt_irrefl _)⟩
end Go.Proofs.Ytofkamnmgpkehab
