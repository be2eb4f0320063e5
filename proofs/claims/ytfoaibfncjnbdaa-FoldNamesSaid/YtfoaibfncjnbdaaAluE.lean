import Derived.Test.YtfoaibfncjnbdaaAluC
import Derived.Defers
import Derived.Recover
/- Binary: a division by nought is met by its deferred closure. -/
namespace Go.Proofs.Ytfoaibfncjnbdaa
open Go.RowKit
theorem catch_panicking (b c : Nat) (hpq : b ≠ c) (u : TypeId) (pv : Value) (older : List PanicEntry) (w : World) (hc : w.cell? ⟨b, 0, none⟩ = some (.int .u32 0)) (hz : w.frozen? ⟨b, 0, none⟩ = false) (hc2 : w.cell? ⟨c, 0, none⟩ = some (.int .i64 0)) (hz2 : w.frozen? ⟨c, 0, none⟩ = false) :
    CallsD Try.prog 54 #[.pointer (some ⟨b, 0, none⟩), .pointer (some ⟨c, 0, none⟩)] (.panicking ({ v := .iface u pv, recovered := false } :: older)) w fun e u' w' =>
      e = .returned (.tuple #[]) ∧ u' = .panicking ({ v := .iface u pv, recovered := true } :: older) ∧ w' = (w.setCell ⟨b, 0, none⟩ (.int .u32 0)).setCell ⟨c, 0, none⟩ (.int .i64 60) := by
  have hq : (w.setCell ⟨b, 0, none⟩ (.int .u32 0)).cell? ⟨c, 0, none⟩ = some (.int .i64 0) := by
    rw [World.cell?_of_block (Below.heap_setCell _ _ _ _ (Ne.symm hpq))]; exact hc2
  have hqz : (w.setCell ⟨b, 0, none⟩ (.int .u32 0)).frozen? ⟨c, 0, none⟩ = false := by
    simp [go_sem, hz2]
  refine callsD_of_wpS Try.func54 rfl fun c₀ cs hu => ?_
  apply wpS_seq
  apply wpS_region
  simp [wpOpsS, go_sem, recoverD, hu, Try.ntmps54, Exit.thenS]
  refine wpS_cond (t := true) (by simp [Act.eval, Array.replicate]) ?_
  simp only [if_true]
  apply wpS_region
  simp [wpOpsS, go_sem, hc, hz, hq, hqz, bodyPostS, results, Try.results54]
theorem catch_idle (p q : Addr) (w : World) :
    CallsD Try.prog 54 #[.pointer (some p), .pointer (some q)] .returning w fun e u' w' => e = .returned (.tuple #[]) ∧ u' = .returning ∧ w' = w := by
  refine callsD_of_wpS Try.func54 rfl fun c₀ cs hu => ?_
  apply wpS_seq
  apply wpS_region
  simp [wpOpsS, go_sem, recoverD, hu, Try.ntmps54, Exit.thenS]
  refine wpS_cond (t := false) (by simp [Act.eval, Array.replicate]) ?_
  simp only [Bool.false_eq_true, if_false]
  refine wpS_of_wp (wp_skip ?_)
  cases c₀
  simp_all [bodyPostS, results, Try.results54]
theorem isBi_div {o : Nat} (h : isDiv o = true) : isBi o = false := by
  simp only [isDiv, Bool.or_eq_true, beq_iff_eq] at h
  rcases h with ((rfl | rfl) | rfl) | rfl <;> rfl
theorem set2 {w w1 : World} (h : Below w.heap.size w w1) (v u : Value) : Below w.heap.size w ((w1.setCell ⟨w.heap.size, 0, none⟩ v).setCell ⟨w.heap.size + 1, 0, none⟩ u) :=
  (h.setCell (p := ⟨w.heap.size, 0, none⟩) (Nat.le_refl _) v).setCell (p := ⟨w.heap.size + 1, 0, none⟩) (Nat.le_succ _) u
set_option maxRecDepth 100000 in
set_option maxHeartbeats 1000000 in
theorem binary_any (o a b : Nat) (hb : b < 4294967296) (w : World) : Calls Try.prog 39 #[.int .u8 o, .int .u32 a, .int .u32 b] w fun e w' => e = .returned (.tuple #[.int .u32 (biR o a b).1, .int .i64 (biR o a b).2]) ∧ Below w.heap.size w w' := by
  have hmf : ∀ (fn : Fn) (first cap : Array Value) (w : World), (Instr.makeFunc fn first cap).run Try.prog w = .ok (.func fn first cap) w := fun _ _ _ _ => rfl
  by_cases h : isDiv o = true ∧ b = 0
  · obtain ⟨h1, rfl⟩ := h
    have H := Lib.hid (fun W => bi_no o a h1 W)
    go_enter_defers Try.func39, Try.ntmps39
    go_wp2_with fail
    refine (H.out _).mono ?_
    rintro e w1 ⟨⟨u, pv, rfl⟩, hb1⟩
    have c6 : w1.cell? ⟨w.heap.size, 0, none⟩ = some (.int .u32 0) := (hb1.cell (p := ⟨w.heap.size, 0, none⟩) (by simp; omega)).trans (by simp [go_sem])
    have c7 : w1.cell? ⟨w.heap.size + 1, 0, none⟩ = some (.int .i64 0) := (hb1.cell (p := ⟨w.heap.size + 1, 0, none⟩) (by simp)).trans (by simp [go_sem])
    have f6 : w1.frozen? ⟨w.heap.size, 0, none⟩ = false := (hb1.frozen (p := ⟨w.heap.size, 0, none⟩) (by simp; omega)).trans (by simp [go_sem])
    have f7 : w1.frozen? ⟨w.heap.size + 1, 0, none⟩ = false := (hb1.frozen (p := ⟨w.heap.size + 1, 0, none⟩) (by simp)).trans (by simp [go_sem])
    have HB := Lib.hid (Bel.of (Bel.of hb1))
    clear hb1
    go_wp2
    refine leaves_cons (f := 54) (args := #[.pointer (some ⟨w.heap.size, 0, none⟩), .pointer (some ⟨w.heap.size + 1, 0, none⟩)]) (by simp) (by simp [go_sem]) ?_
    refine (catch_panicking w.heap.size (w.heap.size + 1) (by omega) u pv [] w1 c6 f6 c7 f7).mono ?_
    rintro e u' w'' ⟨rfl, rfl, rfl⟩
    rw [show biR o a 0 = (0, 60) from by unfold biR; rw [isBi_div h1, h1]; rfl]
    have hb3 := set2 HB.out (.int .u32 0) (.int .i64 60)
    simp [Leaves, settle, results, Try.results39, go_sem, c6, c7, hb3]
  · have H := Lib.hid (fun W => bi_yes o a b hb h W)
    generalize (biR o a b).1 = x at *
    generalize (biR o a b).2 = y at *
    go_enter_defers Try.func39, Try.ntmps39
    go_wp2_with fail
    refine (H.out _).mono ?_
    rintro e w1 ⟨rfl, hb1⟩
    have c6 : w1.cell? ⟨w.heap.size, 0, none⟩ = some (.int .u32 0) := (hb1.cell (p := ⟨w.heap.size, 0, none⟩) (by simp; omega)).trans (by simp [go_sem])
    have c7 : w1.cell? ⟨w.heap.size + 1, 0, none⟩ = some (.int .i64 0) := (hb1.cell (p := ⟨w.heap.size + 1, 0, none⟩) (by simp)).trans (by simp [go_sem])
    have f6 : w1.frozen? ⟨w.heap.size, 0, none⟩ = false := (hb1.frozen (p := ⟨w.heap.size, 0, none⟩) (by simp; omega)).trans (by simp [go_sem])
    have f7 : w1.frozen? ⟨w.heap.size + 1, 0, none⟩ = false := (hb1.frozen (p := ⟨w.heap.size + 1, 0, none⟩) (by simp)).trans (by simp [go_sem])
    have HB := Lib.hid (Bel.of (Bel.of hb1))
    clear hb1
    go_wp2
    refine leaves_cons (f := 54) (args := #[.pointer (some ⟨w.heap.size, 0, none⟩), .pointer (some ⟨w.heap.size + 1, 0, none⟩)]) (by simp) (by simp [go_sem]) ?_
    refine (catch_idle _ _ _).mono ?_
    rintro e u' w'' ⟨rfl, rfl, rfl⟩
    have hb3 := set2 HB.out (.int .u32 x) (.int .i64 y)
    simp [Leaves, settle, results, Try.results39, go_sem, c6, c7, hb3]
end Go.Proofs.Ytfoaibfncjnbdaa
