import Derived.Test.YtofkamnmgpkehabIsaInfo2
namespace Go.Proofs.Ytofkamnmgpkehab
open Go.RowKit
/-- What is wrong with an instruction. -/
def checkN (o a : Nat) : Nat := if isOp o then (if mostOf o < a then 71 else 0) else 70
def sizeN (o a : Nat) : Nat := if checkN o a = 0 then 1 + widthOf o else 0
theorem width_le (k : Nat) : widthOf k ≤ 4 := by
  by_cases h : k < 60
  · have : ∀ k < 60, widthOf k ≤ 4 := by decide +kernel
    exact this k h
  · have : rowOf k = ([], 0, 0, 0, 0, 0) := by
      unfold rowOf; rw [List.getD_eq_getElem?_getD, List.getElem?_eq_none (by show 60 ≤ k; omega)]; rfl
    simp [widthOf, this]
theorem zero36 (w : World) : (zeroValue 49).run Try.prog w = .ok (.agg #[.int .u8 0, .int .u32 0]) w := by kernel_rfl
set_option maxRecDepth 100000 in
set_option maxHeartbeats 400000 in
theorem check_any (o a : Nat) (ho : o < 256) (w : World) :
    Calls Try.prog 46 #[.agg #[.int .u8 o, .int .u32 a]] w fun e w' => e = .returned (.int .i64 (checkN o a)) ∧ Below w.heap.size w w' := by
  have hz := zero26
  unfold zeroRow at hz
  have h1 := info_any o ho
  unfold rowVal rowCells at h1
  have key : (isOp o = false ∧ checkN o a = 70) ∨ (isOp o = true ∧ ((mostOf o : Int) < (a : Int)) ∧ checkN o a = 71) ∨ (isOp o = true ∧ ¬ ((mostOf o : Int) < (a : Int)) ∧ checkN o a = 0) := by
    unfold checkN; cases isOp o <;> simp <;> omega
  rcases key with ⟨e1, e2⟩ | ⟨e1, h, e2⟩ | ⟨e1, h, e2⟩ <;> rw [e2] <;> rw [e1] at h1 <;> clear e1 e2
  all_goals
    go_enter Try.func46, Try.ntmps46
    go_wp2_with fail
    refine (h1 _).mono ?_
    rintro e w1 ⟨rfl, hb⟩
    clear h1
    have hs1 := Bel.lt hb
    obtain ⟨hc1, hf1⟩ := bcell hb
    simp only [World.size_alloc] at hc1 hf1
    go_wp2
    go_ret
    exact ⟨rfl, Bel.al (Bel.of hb) _⟩
set_option maxRecDepth 100000 in
set_option maxHeartbeats 400000 in
theorem refcheck_any (o a : Nat) (ho : o < 256) (w : World) :
    Calls Try.prog 51 #[.agg #[.int .u8 o, .int .u32 a]] w fun e w' => e = .returned (.int .i64 (checkN o a)) ∧ Below w.heap.size w w' := by
  have hz := zero26
  unfold zeroRow at hz
  have h1 := refinfo_any o ho
  unfold rowVal rowCells at h1
  have key : (isOp o = false ∧ checkN o a = 70) ∨ (isOp o = true ∧ ((mostOf o : Int) < (a : Int)) ∧ checkN o a = 71) ∨ (isOp o = true ∧ ¬ ((mostOf o : Int) < (a : Int)) ∧ checkN o a = 0) := by
    unfold checkN; cases isOp o <;> simp <;> omega
  rcases key with ⟨e1, e2⟩ | ⟨e1, h, e2⟩ | ⟨e1, h, e2⟩ <;> rw [e2] <;> rw [e1] at h1 <;> clear e1 e2
  all_goals
    go_enter Try.func51, Try.ntmps51
    go_wp2_with fail
    refine (h1 _).mono ?_
    rintro e w1 ⟨rfl, hb⟩
    clear h1
    have hs1 := Bel.lt hb
    obtain ⟨hc1, hf1⟩ := bcell hb
    simp only [World.size_alloc] at hc1 hf1
    go_wp2
    go_ret
    exact ⟨rfl, Bel.al (Bel.of hb) _⟩
set_option maxRecDepth 100000 in
set_option maxHeartbeats 400000 in
theorem size_any (o a : Nat) (ho : o < 256) (w : World) :
    Calls Try.prog 48 #[.agg #[.int .u8 o, .int .u32 a]] w fun e w' => e = .returned (.int .i64 (sizeN o a)) ∧ Below w.heap.size w w' := by
  have hz := zero26
  unfold zeroRow at hz
  have h1 := info_any o ho
  unfold rowVal rowCells at h1
  have h2 := check_any o a ho
  have hw := width_le o
  have key : (¬ checkN o a = 0 ∧ sizeN o a = 0) ∨ (checkN o a = 0 ∧ sizeN o a = 1 + widthOf o) := by
    unfold sizeN; by_cases h : checkN o a = 0 <;> simp [h]
  generalize isOp o = b at h1
  rcases key with ⟨e1, e2⟩ | ⟨e1, e2⟩ <;> rw [e2]
  · have hn : ((checkN o a : Int) != 0) = true := by simp; exact e1
    generalize checkN o a = c at h2 hn
    clear e1 e2
    go_enter Try.func48, Try.ntmps48
    go_wp2_with fail
    refine (h2 _).mono ?_
    rintro e w1 ⟨rfl, hb⟩
    clear h2
    go_wp2
    go_ret
    exact ⟨rfl, Bel.of hb⟩
  · rw [e1] at h2
    clear e1 e2
    go_enter Try.func48, Try.ntmps48
    go_wp2_with fail
    refine (h2 _).mono ?_
    rintro e w1 ⟨rfl, hb⟩
    clear h2
    have hs1 := Bel.lt hb
    obtain ⟨hc1, hf1⟩ := bcell hb
    simp only [World.size_alloc] at hc1 hf1
    go_wp2_with fail
    refine (h1 _).mono ?_
    rintro e w2 ⟨rfl, hb2⟩
    clear h1
    go_wp2
    go_ret
    exact ⟨by go_num, Bel.al (Bel.tr (Bel.of hb) hb2) _⟩

set_option maxRecDepth 100000 in
set_option maxHeartbeats 400000 in
theorem refsize_any (o a : Nat) (ho : o < 256) (w : World) :
    Calls Try.prog 52 #[.agg #[.int .u8 o, .int .u32 a]] w fun e w' => e = .returned (.int .i64 (sizeN o a)) ∧ Below w.heap.size w w' := by
  have hz := zero26
  unfold zeroRow at hz
  have h1 := refinfo_any o ho
  unfold rowVal rowCells at h1
  have h2 := refcheck_any o a ho
  have hw := width_le o
  have key : (¬ checkN o a = 0 ∧ sizeN o a = 0) ∨ (checkN o a = 0 ∧ sizeN o a = 1 + widthOf o) := by
    unfold sizeN; by_cases h : checkN o a = 0 <;> simp [h]
  generalize isOp o = b at h1
  rcases key with ⟨e1, e2⟩ | ⟨e1, e2⟩ <;> rw [e2]
  · have hn : ((checkN o a : Int) != 0) = true := by simp; exact e1
    generalize checkN o a = c at h2 hn
    clear e1 e2
    go_enter Try.func52, Try.ntmps52
    go_wp2_with fail
    refine (h2 _).mono ?_
    rintro e w1 ⟨rfl, hb⟩
    clear h2
    go_wp2
    go_ret
    exact ⟨rfl, Bel.of hb⟩
  · rw [e1] at h2
    clear e1 e2
    go_enter Try.func52, Try.ntmps52
    go_wp2_with fail
    refine (h2 _).mono ?_
    rintro e w1 ⟨rfl, hb⟩
    clear h2
    have hs1 := Bel.lt hb
    obtain ⟨hc1, hf1⟩ := bcell hb
    simp only [World.size_alloc] at hc1 hf1
    go_wp2_with fail
    refine (h1 _).mono ?_
    rintro e w2 ⟨rfl, hb2⟩
    clear h1
    go_wp2
    go_ret
    exact ⟨by go_num, Bel.al (Bel.tr (Bel.of hb) hb2) _⟩

end Go.Proofs.Ytofkamnmgpkehab
