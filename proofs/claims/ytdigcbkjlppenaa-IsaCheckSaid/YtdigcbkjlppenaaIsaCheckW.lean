import Derived.Test.YtdigcbkjlppenaaIsaCheckC
import Derived.Deep.RegionHeld3
import Derived.Test.YtdigcbkjlppenaaOpen
namespace Go.Proofs.Ytdigcbkjlppenaa
open Go.RowKit
set_option maxHeartbeats 1000000 in
theorem isaCheck_walk (o a : Nat) (ho : o < 256) (w : World) :
    Calls Try.prog 8 #[.agg #[.int .u8 o, .int .u32 a]] w fun e w' => e = .returned (.bool true) ∧ Below w.heap.size w w' := by
  have h1 := check_any o a ho
  have h2 := refcheck_any o a ho
  have h3 := size_any o a ho
  have h4 := refsize_any o a ho
  generalize checkN o a = c at h1 h2
  generalize sizeN o a = s at h3 h4
  have keep : ∀ W W' : World, Below W.heap.size W W' → (W.cell? ⟨w.heap.size, 0, none⟩ = some (.int .u8 o) ∧ W.cell? ⟨w.heap.size, 1, none⟩ = some (.int .u32 a) ∧ Below w.heap.size w W ∧ w.heap.size < W.heap.size) →
      W'.cell? ⟨w.heap.size, 0, none⟩ = some (.int .u8 o) ∧ W'.cell? ⟨w.heap.size, 1, none⟩ = some (.int .u32 a) ∧ Below w.heap.size w W' ∧ w.heap.size < W'.heap.size := by
    intro W W' hb ⟨e1, e2, e3, e4⟩
    exact ⟨(hb.cell (p := ⟨w.heap.size, 0, none⟩) e4).trans e1, (hb.cell (p := ⟨w.heap.size, 1, none⟩) e4).trans e2, Bel.tr e3 hb, Nat.lt_of_lt_of_le e4 hb.size⟩
  have h1' := fun W hS => (h1 W).mono fun e w' (hh : _ ∧ _) => And.intro hh.1 (keep W w' hh.2 hS)
  have h2' := fun W hS => (h2 W).mono fun e w' (hh : _ ∧ _) => And.intro hh.1 (keep W w' hh.2 hS)
  have h3' := fun W hS => (h3 W).mono fun e w' (hh : _ ∧ _) => And.intro hh.1 (keep W w' hh.2 hS)
  have h4' := fun W hS => (h4 W).mono fun e w' (hh : _ ∧ _) => And.intro hh.1 (keep W w' hh.2 hS)
  clear h1 h2 h3 h4 keep
  have H1 := Lib.hid h1'
  have H2 := Lib.hid h2'
  have H3 := Lib.hid h3'
  have H4 := Lib.hid h4'
  clear h1' h2' h3' h4'
  have hb0 := Lib.hid (Bel.new w (.cells #[.int .u8 o, .int .u32 a] 36))
  go_enter Try.func8, Try.ntmps8
  go_wp2_with fail
  go_region_held3 (fun w' => w'.cell? ⟨w.heap.size, 0, none⟩ = some (.int .u8 o) ∧ w'.cell? ⟨w.heap.size, 1, none⟩ = some (.int .u32 a) ∧ Below w.heap.size w w' ∧ w.heap.size < w'.heap.size)
    (first | assumption | exact ⟨by simp [go_sem], by simp [go_sem], hb0.out.drew, by simp⟩)
    (first | (go_at_call 21; refine (H1.out _ ?_).mono ?_; assumption; rintro e w' ⟨rfl, hS⟩) | (go_at_call 22; refine (H2.out _ ?_).mono ?_; assumption; rintro e w' ⟨rfl, hS⟩) | (go_at_call 23; refine (H3.out _ ?_).mono ?_; assumption; rintro e w' ⟨rfl, hS⟩) | (go_at_call 24; refine (H4.out _ ?_).mono ?_; assumption; rintro e w' ⟨rfl, hS⟩))
  go_wp2
  go_ret
  exact ⟨rfl, hS.2.2.1⟩
theorem isaCheck_full (o a : Nat) (w : World) (h : o < 256) (_h' : a < 4294967296) :
    Calls Try.prog 8 #[.agg #[.int .u8 o, .int .u32 a]] w fun e w' => e = .returned (.bool true) ∧ Below w.heap.size w w' := isaCheck_walk o a h w
end Go.Proofs.Ytdigcbkjlppenaa
