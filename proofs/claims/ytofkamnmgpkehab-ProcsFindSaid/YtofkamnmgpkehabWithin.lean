import Derived.Test.YtofkamnmgpkehabFind
/- Control stays in its procedure: plain laws. -/
namespace Go.Proofs.Ytofkamnmgpkehab
open Go.RowKit
theorem encRes_all {l : List (Nat × Nat)} (h : (encRes l).2.2 = 0) : ∀ k, k < l.length → errAt l k = 0 := by
  have h16 : ¬ 16384 < l.length := fun e => by have := encRes_short h; omega
  intro k
  induction k using Nat.strongRecOn with
  | ind k ih =>
    intro hk
    by_cases he : errAt l k = 0
    · exact he
    · have := encRes_bad h16 hk he (fun j hj => ih j hj (by omega))
      rw [this] at h
      exact absurd h he
theorem endsK_not {K : Nat} (h3 : K ≠ 3) (h4 : K ≠ 4) (h8 : K ≠ 8) : endsK K = false := by simp [endsK, h3, h4, h8]
theorem isOp_ok {o a : Nat} (h : checkN o a = 0) : isOp o = true := by
  unfold checkN at h
  cases hi : isOp o
  · rw [hi] at h; simp at h
  · rfl
theorem FindBad.ne {code : List (Nat × Nat)} {js ats : List Nat} {i c : Nat} (h : FindBad code js ats i c) : c ≠ 0 := by
  cases h with
  | enc h' => exact h'
  | first => decide
  | fault _ _ _ _ _ hf => exact hf
  | jump => decide
  | name => decide
section
variable {code : List (Nat × Nat)} {js ats : List Nat} (h : FindOk code js ats)
include h
theorem FindOk.tl : Tiles code code.length (psTo code code.length) (ofTo code code.length) := tiles h.h3.2 _
theorem FindOk.tg : Tgts (ofTo code code.length) js js.length (aimTo (ofTo code code.length) js (psTo code code.length).length js.length) := tgts (fun x hx => h.tl.lt x (by rw [← h.tl.ol]; exact hx)) _ h.hg
theorem FindOk.op (i : Nat) (hi : i < code.length) : isOp (code.getD i (0, 0)).1 = true := isOp_ok (encRes_all h.he i hi)
theorem FindOk.in_proc {r x : Nat} (hr : r < (psTo code code.length).length) (hx : insideN ((psTo code code.length).getD r (0, 0, 0)) x = true) :
    x < code.length ∧ (ofTo code code.length).getD x 0 = r ∧ beginsN (psTo code code.length) (ofTo code code.length) x = false := by
  unfold insideN at hx
  rw [Bool.and_eq_true, decide_eq_true_eq, decide_eq_true_eq] at hx
  have hb := (h.tl.bd r hr).2
  have ho := h.tl.mid r hr x (by omega) hx.2
  refine ⟨by omega, ho, ?_⟩
  unfold beginsN
  rw [ho]
  have : ((psTo code code.length).getD r (0, 0, 0)).1 ≠ x := by omega
  rw [beq_eq_false_iff_ne.2 this, Bool.and_false]
/-- A jump's target, of a goto or a branch. -/
theorem FindOk.target (i : Nat) (hi : i < code.length) (hk : kindOf (code.getD i (0, 0)).1 = 3 ∨ kindOf (code.getD i (0, 0)).1 = 2) :
    (code.getD i (0, 0)).2 < code.length ∧ (ofTo code code.length).getD (code.getD i (0, 0)).2 0 = (ofTo code code.length).getD i 0 ∧ beginsN (psTo code code.length) (ofTo code code.length) (code.getD i (0, 0)).2 = false := by
  have hf := h.hall i hi
  refine h.in_proc (h.tl.lt i hi) ?_
  unfold faultAt faultN faultK at hf
  cases hx : insideN ((psTo code code.length).getD ((ofTo code code.length).getD i 0) (0, 0, 0)) (code.getD i (0, 0)).2
  · rw [hx] at hf
    rw [if_neg (by omega), if_neg (by omega), if_pos ⟨hk, rfl⟩] at hf
    cases hf
  · rfl
/-- What goes on goes on in its procedure. -/
theorem FindOk.goes (i : Nat) (hi : i < code.length) (hk : kindOf (code.getD i (0, 0)).1 ≠ 3 ∧ kindOf (code.getD i (0, 0)).1 ≠ 4 ∧ kindOf (code.getD i (0, 0)).1 ≠ 7 ∧ kindOf (code.getD i (0, 0)).1 ≠ 8) :
    i + 1 < code.length ∧ (ofTo code code.length).getD (i + 1) 0 = (ofTo code code.length).getD i 0 := by
  have hf := h.hall i hi
  have hr := h.tl.lt i hi
  have hl := h.tl.lo i hi
  have hb := (h.tl.bd _ hr).2
  have hne : i + 1 ≠ ((psTo code code.length).getD ((ofTo code code.length).getD i 0) (0, 0, 0)).2.1 := by
    intro he
    unfold faultAt faultN faultK at hf
    split at hf
    · cases hf
    · rw [if_neg hk.2.2.1] at hf
      split at hf
      · cases hf
      · rw [if_pos ⟨he, endsK_not hk.1 hk.2.1 hk.2.2.2⟩] at hf
        cases hf
  have := h.tl.mid _ hr (i + 1) (by omega) (by omega)
  exact ⟨by omega, this⟩
theorem FindOk.legal {x y : Nat} (hy : y ∈ (aimTo (ofTo code code.length) js (psTo code code.length).length js.length).getD ((ofTo code code.length).getD x 0) []) :
    y < code.length ∧ (ofTo code code.length).getD y 0 = (ofTo code code.length).getD x 0 ∧ beginsN (psTo code code.length) (ofTo code code.length) y = false := by
  obtain ⟨i, hi, he, ho⟩ := h.tg.of_mem _ _ hy
  have := h.hg i hi
  simp only [aimOk, Bool.and_eq_true, decide_eq_true_eq] at this
  obtain ⟨-, h1, h2⟩ := this
  rw [← he] at h1 h2
  have hl := h.in_proc (h.tl.lt y (by rw [← h.tl.ol]; exact h1)) h2
  exact ⟨hl.1, ho, hl.2.2⟩
theorem FindOk.jumps (i : Nat) (hi : i < js.length) : js.getD i 0 < code.length ∧ js.getD i 0 ∈ (aimTo (ofTo code code.length) js (psTo code code.length).length js.length).getD ((ofTo code code.length).getD (js.getD i 0) 0) [] ∧
    beginsN (psTo code code.length) (ofTo code code.length) (js.getD i 0) = false := by
  have hm := h.tg.mem i hi
  have := h.hg i hi
  simp only [aimOk, Bool.and_eq_true, decide_eq_true_eq] at this
  have hx : js.getD i 0 < code.length := by rw [← h.tl.ol]; exact this.2.1
  exact ⟨hx, hm, (h.legal hm).2.2⟩
end
end Go.Proofs.Ytofkamnmgpkehab
