import Derived.Test.YtofkamnmgpkehabProcs1
import Derived.Test.YtofkamnmgpkehabIsaInfo2
/- procs.fault. -/
namespace Go.Proofs.Ytofkamnmgpkehab
open Go.RowKit
def endsK (K : Nat) : Bool := K == 3 || K == 4 || K == 8
def faultK (K : Nat) (p : Nat × Nat × Nat) (i a : Nat) : Nat :=
  if K = 6 ∧ (a % 4 ≠ 0 ∨ a = 0 ∨ 4096 < a) then 131
  else if K = 7 then (if a ≠ p.2.2 then 131 else 0)
  else if (K = 3 ∨ K = 2) ∧ insideN p a = false then 132
  else if i + 1 = p.2.1 ∧ endsK K = false then 133 else 0
def faultN (p : Nat × Nat × Nat) (i : Nat) (ins : Nat × Nat) : Nat := faultK (kindOf ins.1) p i ins.2
theorem kind_lt (k : Nat) : kindOf k ≤ 8 := by
  by_cases h : k < 60
  · have : ∀ k < 60, kindOf k ≤ 8 := by decide +kernel
    exact this k h
  · have : rowOf k = ([], 0, 0, 0, 0, 0) := by
      unfold rowOf; rw [List.getD_eq_getElem?_getD, List.getElem?_eq_none (by show 60 ≤ k; omega)]; rfl
    simp [kindOf, this]
theorem cell_new5 (w : World) (a b c d e f : Value) (t : TypeId) : (w.alloc (.cells #[a, b, c, d, e, f] t)).cell? ⟨w.heap.size, 5, none⟩ = some f := by simp [go_sem]
set_option maxRecDepth 100000 in
set_option maxHeartbeats 2000000 in
theorem fault_any (p : Nat × Nat × Nat) (i o a : Nat) (hi : i < 4294967295) (ho : o < 256) (ha : a < 4294967296) (w : World) :
    Calls Try.prog 35 #[procV p, .int .u32 i, .agg #[.int .u8 o, .int .u32 a]] w fun e w' => e = .returned (.int .i64 (faultN p i (o, a))) ∧ Below w.heap.size w w' := by
  have h1 := fun W => info_any o ho W
  have hz := zero26
  unfold zeroRow at hz
  have hin := fun W => inside_any p a W
  unfold faultN
  have hk := kind_lt o
  unfold rowVal rowCells at h1
  simp only
  generalize kindOf o = K at *
  generalize isOp o = b at *
  generalize wordOf o = wd at *
  generalize widthOf o = wi at *
  generalize mostOf o = mo at *
  generalize takesOf o = ta at *
  generalize givesOf o = gi at *
  have key : ∀ c : Nat, faultK K p i a = c → Calls Try.prog 35 #[procV p, .int .u32 i, .agg #[.int .u8 o, .int .u32 a]] w fun e w' => e = .returned (.int .i64 c) ∧ Below w.heap.size w w' := by
    intro c hc
    obtain ⟨p0, p1, p2⟩ := p
    have H1 := Lib.hid h1
    have HI := Lib.hid hin
    clear h1 hin
    have hK : K = 0 ∨ K = 1 ∨ K = 2 ∨ K = 3 ∨ K = 4 ∨ K = 5 ∨ K = 6 ∨ K = 7 ∨ K = 8 := by omega
    unfold procV at *
    simp only at *
    rcases hK with rfl | rfl | rfl | rfl | rfl | rfl | rfl | rfl | rfl
    all_goals
      go_enter Try.func35, Try.ntmps35
      go_wp2_with fail
      refine (H1.out _).mono ?_
      rintro e w1 ⟨rfl, hb⟩
      have hs1 : w.heap.size + 1 < w1.heap.size := by have := hb.size; simp at this; omega
      have hs0 : w.heap.size < w1.heap.size := by omega
      have q0 : w1.cell? ⟨w.heap.size, 0, none⟩ = some (.int .u32 p0) := (hb.cell (p := ⟨w.heap.size, 0, none⟩) (by simp; omega)).trans (by simp [go_sem])
      have q1 : w1.cell? ⟨w.heap.size, 1, none⟩ = some (.int .u32 p1) := (hb.cell (p := ⟨w.heap.size, 1, none⟩) (by simp; omega)).trans (by simp [go_sem])
      have q2 : w1.cell? ⟨w.heap.size, 2, none⟩ = some (.int .u32 p2) := (hb.cell (p := ⟨w.heap.size, 2, none⟩) (by simp; omega)).trans (by simp [go_sem])
      have q3 : w1.cell? ⟨w.heap.size, 3, none⟩ = some (.int .i64 0) := (hb.cell (p := ⟨w.heap.size, 3, none⟩) (by simp; omega)).trans (by simp [go_sem])
      have q4 : w1.cell? ⟨w.heap.size + 1, 0, none⟩ = some (.int .u8 o) := (hb.cell (p := ⟨w.heap.size + 1, 0, none⟩) (by simp)).trans (by simp [go_sem])
      have q5 : w1.cell? ⟨w.heap.size + 1, 1, none⟩ = some (.int .u32 a) := (hb.cell (p := ⟨w.heap.size + 1, 1, none⟩) (by simp)).trans (by simp [go_sem])
      have Hb := Lib.hid (Bel.tr (Bel.al (Bel.new w (.cells #[.int .u32 p0, .int .u32 p1, .int .u32 p2, .int .i64 0] 39)) (.cells #[.int .u8 o, .int .u32 a] 49)) hb)
      clear H1 hb
      have hin := Lib.hid (fun W => inside_any (p0, p1, p2) a W)
      clear HI
      cases hia : insideN (p0, p1, p2) a
      all_goals
        rw [hia] at hin
        have Hia := Lib.hid hia
        have Hc := Lib.hid hc
        clear hia hc
        go_wp2_with (go_at_call 50; refine (hin.out _).mono ?_; rintro e w2 ⟨rfl, hb2⟩; have q1 := (hb2.cell (p := ⟨w.heap.size, 1, none⟩) (by simp; omega)).trans (((Bel.new w1 _).cell (p := ⟨w.heap.size, 1, none⟩) hs0).trans q1); have hs2 : w1.heap.size < w2.heap.size := Bel.lt hb2; have q9 : w2.cell? ⟨w1.heap.size, 5, none⟩ = _ := (hb2.cell (p := ⟨w1.heap.size, 5, none⟩) (by simp)).trans (cell_new5 _ _ _ _ _ _ _ _))
        all_goals
          go_ret
          refine ⟨ret_intE ?_, ?_⟩
          · have hc := Hc.out
            have hia := Hia.out
            clear q0 q1 q2 q3 q4 q5 hin hz Hc Hia Hb
            rw [← hc]
            try simp only [beq_iff_eq, beq_eq_false_iff_ne, bne_iff_ne, bne_eq_false_iff_eq, ne_eq] at *
            unfold faultK endsK
            rw [hia]
            first
              | rfl
              | (simp; done)
              | (simp; omega)
              | (simp; split <;> omega)
              | (simp; split <;> (simp; omega))
              | (simp; rw [if_neg (by omega)]; split <;> omega)
          · first
              | exact Bel.al Hb.out _
              | exact Bel.tr (Bel.al Hb.out _) hb2
  exact key _ rfl
end Go.Proofs.Ytofkamnmgpkehab
