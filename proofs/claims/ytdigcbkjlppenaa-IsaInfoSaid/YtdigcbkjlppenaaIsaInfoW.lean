import Derived.Test.YtdigcbkjlppenaaIsaInfo2
namespace Go.Proofs.Ytdigcbkjlppenaa
open Go.RowKit
set_option maxHeartbeats 400000 in
theorem isaInfo_walk (k : Nat) (h2 : k < 256) (w : World) :
    Calls Try.prog 5 #[.int .u8 k] w fun e w' => e = .returned (.bool true) ∧ Below w.heap.size w w' := by
  have hz := zero26
  unfold zeroRow at hz
  have h1 := info_any k h2
  have h3 := refinfo_any k h2
  unfold rowVal rowCells at h1 h3
  generalize isOp k = b at h1 h3
  go_enter Try.func5, Try.ntmps5
  go_wp2_with fail
  refine (h1 _).mono ?_
  rintro e w1 ⟨rfl, hb⟩
  clear h1
  go_wp2_with fail
  refine (h3 _).mono ?_
  rintro e w2 ⟨rfl, hb2⟩
  clear h3
  obtain ⟨hc2, hf2⟩ := bcell hb2
  have hs2 := Bel.lt hb2
  simp only [World.size_alloc] at hc2 hf2
  cases b
  all_goals
    go_wp2
    go_ret
    exact ⟨rfl, Bel.al (Bel.tr (Bel.al hb _) hb2) _⟩
theorem isaInfo_full (a : Int) (w : World) (h : (Lit.int .u8 a).wf = true) :
    Calls Try.prog 5 #[.int .u8 a] w fun e w' => e = .returned (.bool true) ∧ Below w.heap.size w w' := by
  obtain ⟨k, rfl, hk⟩ := u8_of h
  exact isaInfo_walk k hk w
end Go.Proofs.Ytdigcbkjlppenaa
