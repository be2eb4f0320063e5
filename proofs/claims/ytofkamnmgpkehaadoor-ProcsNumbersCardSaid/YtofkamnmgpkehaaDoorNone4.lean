import Derived.Test.YtofkamnmgpkehaaDoorNone3
/- The set that has 3 alone. -/
namespace Go.Proofs.YtofkamnmgpkehaaDoor
open Go.RowKit
def SB (w W : World) (v : Value) (x : Int) : Prop := ∃ b q, v = .pointer (some ⟨b, 0, none⟩) ∧ W.cell? ⟨b, 0, none⟩ = some (.int .i64 4) ∧ W.cell? ⟨b, 1, none⟩ = some (.slice (some ⟨q, 0, none⟩) 1 1) ∧ W.cell? ⟨q, 0, none⟩ = some (.int .u64 x) ∧ W.frozen? ⟨q, 0, none⟩ = false ∧ b ≠ q ∧ w.heap.size ≤ q
theorem run_b67 (x : Int) (a : Option Addr) (n c : Nat) (w : World) : (Instr.build 67 #[(0, .int .i64 x), (1, .slice a n c)]).run Tryd.prog w = .ok (.agg #[.int .i64 x, .slice a n c]) w := by kernel_rfl
set_option maxRecDepth 100000 in
set_option maxHeartbeats 1000000 in
theorem newset4 (w : World) : Calls Tryd.prog 15 #[.int .i64 4] w fun e w' => ∃ v, e = .returned (.tuple #[v, .int .i64 0]) ∧ SB w w' v 0 ∧ Below w.heap.size w w' := by
  have hb := run_b67
  have hm : ∀ W : World, (Instr.makeSlice 65 (.int .i64 1) (.int .i64 1)).run Tryd.prog W = .ok (.slice (some ⟨W.heap.size, 0, none⟩) 1 1) (W.alloc (.cells #[.int .u64 0] 78)) := fun W => by kernel_rfl
  go_enter Tryd.func15, Tryd.ntmps15
  go_wp2
  refine bodyPost_ret (v := .tuple #[.pointer (some ⟨w.heap.size + 1, 0, none⟩), .int .i64 0]) (by simp [results, Tryd.results15, go_sem]) rfl ⟨_, rfl, ⟨w.heap.size + 1, w.heap.size, rfl, ?_, ?_, ?_, ?_, by omega, Nat.le_refl _⟩, Bel.al (Bel.new w _) _⟩ <;> simp [go_sem]
set_option maxRecDepth 100000 in
set_option maxHeartbeats 1000000 in
theorem holds3 {w W : World} {v : Value} (h : SB w W v 0) : Calls Tryd.prog 45 #[v, .int .i64 3] W fun e w' => e = .returned (.tuple #[.int .i64 0, .int .u64 8, .bool true]) ∧ w' = W := by
  obtain ⟨b, q, rfl, h1, h2, h3, h4, h5, h6⟩ := h
  go_enter Tryd.func45, Tryd.ntmps45
  go_wp2
  exact bodyPost_ret (v := .tuple #[.int .i64 0, .int .u64 8, .bool true]) (by simp [results, Tryd.results45, go_sem]) rfl ⟨rfl, rfl⟩
set_option maxRecDepth 100000 in
set_option maxHeartbeats 1000000 in
theorem add3 {w W : World} {v : Value} (h : SB w W v 0) (hb : Below w.heap.size w W) : Calls Tryd.prog 30 #[v, .int .i64 3] W fun e w' => e = .returned (.bool true) ∧ SF w' v ∧ Below w.heap.size w w' := by
  have H := Lib.hid (holds3 h)
  obtain ⟨b, q, rfl, h1, h2, h3, h4, h5, h6⟩ := h
  have e1 : bits BinOp.and IntKind.u64 0 8 = 0 := by kernel_rfl
  have e2 : bits BinOp.or IntKind.u64 0 8 = 8 := by kernel_rfl
  go_enter Tryd.func30, Tryd.ntmps30
  go_wp2_with (go_at_call 45; refine H.out.mono ?_; rintro e w' ⟨rfl, hw⟩; subst hw)
  refine bodyPost_ret (v := .bool true) (by simp [results, Tryd.results30, go_sem]) rfl ⟨rfl, ⟨b, q, rfl, ?_, ?_, ?_⟩, hb.setCell (p := ⟨q, 0, none⟩) h6 _⟩
  · exact (World.cell?_of_block (Below.heap_setCell _ _ _ _ h5)).trans h1
  · exact (World.cell?_of_block (Below.heap_setCell _ _ _ _ h5)).trans h2
  · exact World.cell?_setCell_same' _ _ _ (by rw [h3]; rfl)
end Go.Proofs.YtofkamnmgpkehaaDoor
