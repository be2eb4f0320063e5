/- Arguments opened: what the walks are told of what came in. -/
import Derived.Test.YtdigcbkjlppenaaBase
import Derived.ProofKit
import Derived.OpenShut
import Derived.Lib.SmallJoins
import Derived.Deep.Slices
import Derived.Deep.Fields
import Derived.ChangeSame
import Derived.SizedLaws
namespace Go.Proofs.Ytdigcbkjlppenaa
open Go.ChangeShapes Go.WideShapes Go.ChangeAt Go.RowKit Go.Joins
theorem cells36 : Try.prog.cellsOf 36 = 2 := by kernel_rfl
section
variable {H : Type} {enc : TypeId × Value → H} {w : World} {base : Nat} {spare : Nat → Bool} {held : Bool}
theorem open_instr {r : Reach} {b0 : Nat} {v : Value} {d : DataW H} {p : List MemPlace} (hv : Value.okWide Try.prog w r b0 36 v) (h : DataW.Trod enc Try.prog w base spare held 36 v d p) :
    ∃ o a : Nat, v = .agg #[.int .u8 o, .int .u32 a] ∧ o < 256 ∧ a < 4294967296 := by
  obtain ⟨v0, v1, y0, y1, n, rfl, _, _, h0, h1⟩ := open_agg2 Try.underlying36 (by kernel_rfl) cells36 hv h
  obtain ⟨x, e0, _, w0⟩ := DataW.trod_int Try.underlying29 h0
  obtain ⟨y, e1, _, w1⟩ := DataW.trod_int Try.underlying23 h1
  simp at e0 e1
  subst e0 e1
  obtain ⟨o, rfl, ho⟩ := u8_of w0
  obtain ⟨a, rfl, ha⟩ := u32_of w1
  exact ⟨o, a, rfl, ho, ha⟩
end
end Go.Proofs.Ytdigcbkjlppenaa
