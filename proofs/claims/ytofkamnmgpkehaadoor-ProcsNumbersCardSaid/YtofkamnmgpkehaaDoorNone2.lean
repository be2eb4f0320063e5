import Derived.Test.YtofkamnmgpkehaaDoorNone1
import Derived.Lib.Walk
import Derived.Lib.LazyBuf
/- Sets that are nil, or that nobody made; the set that has the number 3 alone. -/
namespace Go.Proofs.YtofkamnmgpkehaaDoor
open Go.RowKit
attribute [local go_sem] Oper.semAt_some
def SE (w : World) (v : Value) : Prop := v = .pointer none ∨ ∃ b, v = .pointer (some ⟨b, 0, none⟩) ∧ w.cell? ⟨b, 0, none⟩ = some (.int .i64 0) ∧ w.cell? ⟨b, 1, none⟩ = some (.slice none 0 0)
theorem SE.below {w w' : World} {v : Value} (h : SE w v) (hb : Below w.heap.size w w') : SE w' v := by
  rcases h with h | ⟨b, h, h1, h2⟩
  · exact .inl h
  · exact .inr ⟨b, h, (hb.cell (p := ⟨b, 0, none⟩) (World.block_lt_of_cell? _ _ h1)).trans h1, (hb.cell (p := ⟨b, 1, none⟩) (World.block_lt_of_cell? _ _ h2)).trans h2⟩
def SF (w : World) (v : Value) : Prop := ∃ b q, v = .pointer (some ⟨b, 0, none⟩) ∧ w.cell? ⟨b, 0, none⟩ = some (.int .i64 4) ∧ w.cell? ⟨b, 1, none⟩ = some (.slice (some ⟨q, 0, none⟩) 1 1) ∧ w.cell? ⟨q, 0, none⟩ = some (.int .u64 8)
theorem SF.below {w w' : World} {v : Value} (h : SF w v) (hb : Below w.heap.size w w') : SF w' v := by
  obtain ⟨b, q, h, h1, h2, h3⟩ := h
  exact ⟨b, q, h, (hb.cell (p := ⟨b, 0, none⟩) (World.block_lt_of_cell? _ _ h1)).trans h1, (hb.cell (p := ⟨b, 1, none⟩) (World.block_lt_of_cell? _ _ h2)).trans h2, (hb.cell (p := ⟨q, 0, none⟩) (World.block_lt_of_cell? _ _ h3)).trans h3⟩
set_option maxRecDepth 100000 in
set_option maxHeartbeats 1000000 in
theorem holds0 {w : World} {v : Value} (h : SE w v) (x : Int) : Calls Tryd.prog 45 #[v, .int .i64 x] w fun e w' => e = .returned (.tuple #[.int .i64 0, .int .u64 0, .bool false]) ∧ w' = w := by
  rcases h with rfl | ⟨b, rfl, h1, h2⟩
  · go_enter Tryd.func45, Tryd.ntmps45
    go_wp2
    exact bodyPost_ret (v := .tuple #[.int .i64 0, .int .u64 0, .bool false]) (by simp [results, Tryd.results45, go_sem]) rfl ⟨rfl, rfl⟩
  · by_cases hx : x < 0
    · have hd : decide (x < 0) = true := decide_eq_true hx
      go_enter Tryd.func45, Tryd.ntmps45
      go_wp2
      exact bodyPost_ret (v := .tuple #[.int .i64 0, .int .u64 0, .bool false]) (by simp [results, Tryd.results45, go_sem]) rfl ⟨rfl, rfl⟩
    · have hd : decide (x < 0) = false := decide_eq_false hx
      have hd2 : decide ((0 : Int) ≤ x) = true := decide_eq_true (by omega)
      have hd3 : ¬ x < 0 := hx
      go_enter Tryd.func45, Tryd.ntmps45
      go_wp2
      exact bodyPost_ret (v := .tuple #[.int .i64 0, .int .u64 0, .bool false]) (by simp [results, Tryd.results45, go_sem]) rfl ⟨rfl, rfl⟩
set_option maxRecDepth 100000 in
set_option maxHeartbeats 1000000 in
theorem add0 {w : World} {v : Value} (h : SE w v) (x : Int) : Calls Tryd.prog 30 #[v, .int .i64 x] w fun e w' => e = .returned (.bool false) ∧ w' = w := by
  have H := Lib.hid (holds0 h x)
  go_enter Tryd.func30, Tryd.ntmps30
  go_wp2_with (go_at_call 45; refine H.out.mono ?_; rintro e w' ⟨rfl, rfl⟩)
  go_ret
  exact ⟨rfl, rfl⟩
set_option maxRecDepth 100000 in
set_option maxHeartbeats 1000000 in
theorem drop0 {w : World} {v : Value} (h : SE w v) (x : Int) : Calls Tryd.prog 31 #[v, .int .i64 x] w fun e w' => e = .returned (.bool false) ∧ w' = w := by
  have H := Lib.hid (holds0 h x)
  go_enter Tryd.func31, Tryd.ntmps31
  go_wp2_with (go_at_call 45; refine H.out.mono ?_; rintro e w' ⟨rfl, rfl⟩)
  go_ret
  exact ⟨rfl, rfl⟩
set_option maxRecDepth 100000 in
set_option maxHeartbeats 1000000 in
theorem has0 {w : World} {v : Value} (h : SE w v) (x : Int) : Calls Tryd.prog 32 #[v, .int .i64 x] w fun e w' => e = .returned (.bool false) ∧ w' = w := by
  have H := Lib.hid (holds0 h x)
  go_enter Tryd.func32, Tryd.ntmps32
  go_wp2_with (go_at_call 45; refine H.out.mono ?_; rintro e w' ⟨rfl, rfl⟩)
  go_ret
  exact ⟨rfl, rfl⟩
set_option maxRecDepth 100000 in
set_option maxHeartbeats 1000000 in
theorem ones8 (w : World) : Calls Tryd.prog 38 #[.int .u64 8] w fun e w' => e = .returned (.int .i64 1) ∧ w' = w := by
  have b1 : bits BinOp.and IntKind.u64 4 6148914691236517205 = 4 := by kernel_rfl
  have b2 : bits BinOp.and IntKind.u64 8 6148914691236517205 = 0 := by kernel_rfl
  have b3 : bits BinOp.and IntKind.u64 1 3689348814741910323 = 1 := by kernel_rfl
  have b4 : bits BinOp.and IntKind.u64 4 3689348814741910323 = 0 := by kernel_rfl
  have b5 : bits BinOp.and IntKind.u64 1 1085102592571150095 = 1 := by kernel_rfl
  have b6 : bits BinOp.and IntKind.i64 1 127 = 1 := by kernel_rfl
  have e0 : IntKind.u64.wrap 0 = 0 := by kernel_rfl
  have e1 : IntKind.u64.wrap 1 = 1 := by kernel_rfl
  have e4 : IntKind.u64.wrap 4 = 4 := by kernel_rfl
  have f1 : IntKind.i64.wrap 1 = 1 := by kernel_rfl
  go_enter Tryd.func38, Tryd.ntmps38
  go_wp2
  go_ret
  first | exact ⟨rfl, rfl⟩ | exact ⟨by simp [b1, b2, b3, b4, b5, b6, e0, e1, e4, f1], rfl⟩
set_option maxRecDepth 100000 in
set_option maxHeartbeats 1000000 in
theorem len0 {w : World} {v : Value} (h : SE w v) : Calls Tryd.prog 33 #[v] w fun e w' => e = .returned (.int .i64 0) ∧ w' = w := by
  rcases h with rfl | ⟨b, rfl, h1, h2⟩
  · go_enter Tryd.func33, Tryd.ntmps33
    go_wp2
    go_ret
    exact ⟨rfl, rfl⟩
  · go_enter Tryd.func33, Tryd.ntmps33
    go_wp2_with fail
    go_loopw [13, 3] (fun i s wr => i = .int .i64 0 ∧ s = .int .i64 0 ∧ wr = w) (fun _ _ _ => 0)
    case atStart => exact ⟨rfl, rfl, rfl⟩
    case round =>
      obtain ⟨rfl, rfl, rfl⟩ := hrel
      go_wp2
      go_ret
      exact ⟨rfl, rfl⟩
set_option maxRecDepth 100000 in
set_option maxHeartbeats 1000000 in
theorem len1 {w : World} {v : Value} (h : SF w v) : Calls Tryd.prog 33 #[v] w fun e w' => e = .returned (.int .i64 1) ∧ w' = w := by
  obtain ⟨b, q, rfl, h1, h2, h3⟩ := h
  have HO := Lib.hid (ones8 w)
  go_enter Tryd.func33, Tryd.ntmps33
  go_wp2_with fail
  go_loopw [13, 3] (fun i s wr => ((i = .int .i64 0 ∧ s = .int .i64 0) ∨ (i = .int .i64 1 ∧ s = .int .i64 1)) ∧ wr = w) (fun i _ _ => 1 - (intOf i).toNat)
  case atStart => exact ⟨.inl ⟨rfl, rfl⟩, rfl⟩
  case round =>
    obtain ⟨⟨rfl, rfl⟩ | ⟨rfl, rfl⟩, rfl⟩ := hrel
    · go_wp2_with (go_at_call 38; refine HO.out.mono ?_; rintro e w' ⟨rfl, rfl⟩)
      go_roundw
      case rel => simp
      case measure => simp [intOf]
    · go_wp2
      go_ret
      exact ⟨rfl, rfl⟩
set_option maxRecDepth 100000 in
theorem clone64nil (w : World) : Calls Tryd.prog 46 #[.slice none 0 0] w fun e w' => e = .returned (.slice none 0 0) ∧ w' = w := by
  have q65 : ∀ (w : World) (a : Option Addr) (n c n' c' : Nat), (binOp .eql 65 (.slice a n c) (.slice none n' c')).run Tryd.prog w = .ok (.bool a.isNone) w := fun w a n c n' c' => Lib.run_eql_slice_nil w _ _ a n c n' c' Tryd.underlying65
  go_enter Tryd.func46, Tryd.ntmps46
  go_wp2
  go_ret
  exact ⟨rfl, rfl⟩
set_option maxRecDepth 100000 in
set_option maxHeartbeats 1000000 in
theorem alls0 {w : World} {v : Value} (h : SE w v) : Calls Tryd.prog 34 #[v] w fun e w' => e = .returned (.func (.func 47) #[] #[.pointer (some ⟨w.heap.size, 0, none⟩)]) ∧ w'.cell? ⟨w.heap.size, 0, none⟩ = some (.slice none 0 0) ∧ Below w.heap.size w w' := by
  have Hc := Lib.hid clone64nil
  have hn := Bel.new w (.cells #[.slice none 0 0] 65)
  have hcn : (w.alloc (.cells #[.slice none 0 0] 65)).cell? ⟨w.heap.size, 0, none⟩ = some (.slice none 0 0) := by simp [go_sem]
  rcases h with rfl | ⟨b, rfl, h1, h2⟩
  · go_enter Tryd.func34, Tryd.ntmps34
    go_wp2
    go_ret
    exact ⟨rfl, hcn, hn⟩
  · have h2' := (hn.cell (p := ⟨b, 1, none⟩) (World.block_lt_of_cell? _ _ h2)).trans h2
    go_enter Tryd.func34, Tryd.ntmps34
    go_wp2_with (go_at_call 46; refine (Hc.out _).mono ?_; rintro e w' ⟨rfl, rfl⟩)
    go_ret
    refine ⟨rfl, ?_, ?_⟩
    · first | exact hcn | exact World.cell?_setCell_same' _ _ _ (by rw [hcn]; rfl)
    · first | exact hn | exact hn.setCell (p := ⟨w.heap.size, 0, none⟩) (Nat.le_refl _) _
def KnS (bx : Nat) (A : World) : Prop := A.cell? ⟨bx, 0, none⟩ = some (.slice none 0 0)
set_option maxRecDepth 100000 in
set_option maxHeartbeats 1000000 in
theorem seqs0 (n : Nat) (hn : 3 ≤ n) (bx : Nat) : SeqTo Tryd.prog n 47 #[.pointer (some ⟨bx, 0, none⟩)] (fun (x : Int) => #[.int .i64 x]) [] (KnS bx) (fun A C => C = A) := by
  intro l J Jx W hst hk hY h0
  have hbx : W.cell? ⟨bx, 0, none⟩ = some (.slice none 0 0) := hk _ _ h0
  have h1 : 1 ≤ n := by omega
  refine callsIn_of_wp Tryd.func47 rfl trivial ?_ rfl
  simp only [Tryd.ntmps47, List.size_toArray, List.length_cons, List.length_nil, Nat.reduceAdd, Nat.reduceSub, Array.replicate_succ, Array.replicate_zero, List.push_toArray, List.append_toArray, List.nil_append, List.cons_append]
  gi_wp2
  gi_loopw [7] (fun i wr => i = .int .i64 0 ∧ wr = W) (fun _ _ => 0)
  case atStart => exact ⟨rfl, rfl⟩
  case round =>
    obtain ⟨rfl, rfl⟩ := hrel
    gi_wp2
    go_end0
    exact ⟨⟨_, rfl⟩, .inl ⟨_, h0, rfl⟩⟩
end Go.Proofs.YtofkamnmgpkehaaDoor
