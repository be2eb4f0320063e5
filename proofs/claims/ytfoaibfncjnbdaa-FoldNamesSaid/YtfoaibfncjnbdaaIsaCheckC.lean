import Derived.Test.YtfoaibfncjnbdaaIsaInfo2
namespace Go.Proofs.Ytfoaibfncjnbdaa
open Go.RowKit
/-- What is wrong with an instruction. -/
def checkN (o a : Nat) : Nat := if isOp o then (if mostOf o < a then 71 else 0) else 70
def sizeN (o a : Nat) : Nat := if checkN o a = 0 then 1 + widthOf o else 0
theorem width_le (k : Nat) : widthOf k ≤ 4 := by
  by_cases h : k < 60
  · have : ∀ k < 60, widthOf k ≤ 4 := by decide +kernel
    exact this k h
  · have : rowOf k = ([], 0, 0, 0, 0, 0) := by
      unfold rowOf; rw [List.getD_eq_getElem?_getD, List.getElem?_eq_none (by show 60 ≤ k; omega)]; rfl
    simp [widthOf, this]
theorem zero36 (w : World) : (zeroValue 34).run Try.prog w = .ok (.agg #[.int .u8 0, .int .u32 0]) w := by kernel_rfl
set_option maxRecDepth 100000 in
set_option maxHeartbeats 400000 in
theorem check_any (o a : Nat) (ho : o < 256) (w : World) :
    Calls Try.prog 15 #[.agg #[.int .u8 o, .int .u32 a]] w fun e w' => e = .returned (.int .i64 (checkN o a)) ∧ Below w.heap.size w w' := by
  have hz := zero26
  unfold zeroRow at hz
  have h1 := info_any o ho
  unfold rowVal rowCells at h1
  have key : (isOp o = false ∧ checkN o a = 70) ∨ (isOp o = true ∧ ((mostOf o : Int) < (a : Int)) ∧ checkN o a = 71) ∨ (isOp o = true ∧ ¬ ((mostOf o : Int) < (a : Int)) ∧ checkN o a = 0) := by
    unfold checkN; cases isOp o <;> simp <;> omega
  rcases key with ⟨e1, e2⟩ | ⟨e1, h, e2⟩ | ⟨e1, h, e2⟩ <;> rw [e2] <;> rw [e1] at h1 <;> clear e1 e2
  all_goals
    go_enter Try.func15, Try.ntmps15
    go_wp2_with fail
    refine (h1 _).mono ?_
    rintro e w1 ⟨rfl, hb⟩
    clear h1
    have hs1 := Bel.lt hb
    obtain ⟨hc1, hf1⟩ := bcell hb
    simp only [World.size_alloc] at hc1 hf1
    go_wp2
    go_ret
    exact ⟨rfl, Bel.al (Bel.of hb) _⟩
end Go.Proofs.Ytfoaibfncjnbdaa
