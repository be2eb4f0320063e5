import Derived.Test.YtdigcbkjlppenaaOwn
namespace Go.Proofs.Ytdigcbkjlppenaa
open Go.RowKit
set_option maxRecDepth 100000 in
/-- Pick answers a number below n. -/
theorem pick_any (x : Int) (n : Nat) (h0 : 0 < n) (hn : n ≤ 9223372036854775807) (w : World) :
    Calls Try.prog 30 #[.int .i64 x, .int .i64 n] w fun e w' => ∃ k : Nat, e = .returned (.int .i64 k) ∧ k < n ∧ w' = w := by
  have h1 : decide ((n : Int) < 1) = false := decide_eq_false (by omega)
  have hne : ((n : Int) == 0) = false := by simp; omega
  have hb : -(n : Int) < x.tmod n ∧ x.tmod n < n := by
    have e := Int.tmod_lt_of_pos x (show (0 : Int) < n by omega)
    refine ⟨?_, e⟩
    have := Int.tmod_lt_of_pos (-x) (show (0 : Int) < n by omega)
    rw [Int.neg_tmod] at this
    omega
  go_enter Try.func30, Try.ntmps30
  go_wp2
  · rename_i hs
    go_ret
    exact ⟨(x.tmod n + n).toNat, by rw [Int.toNat_of_nonneg (by omega)]; rfl, by omega, rfl⟩
  · rename_i hs
    go_ret
    exact ⟨(x.tmod n).toNat, by rw [Int.toNat_of_nonneg (by omega)]; rfl, by omega, rfl⟩
end Go.Proofs.Ytdigcbkjlppenaa
