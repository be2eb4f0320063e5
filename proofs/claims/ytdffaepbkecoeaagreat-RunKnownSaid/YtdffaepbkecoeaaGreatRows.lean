/-
  No cell of these rows narrows 'for every input' (looked for: loops, veiled, ifaces, maps, wideKeys, modest, calm, conditions, laid).
  DERIVED. THE GIVEN ROWS OF THIS SEAT. 4 by the template 'for every input the law returns true; each argument reads behind the call as it read before'; 0 by the template 'total and deterministic' (their statements: YtdffaepbkecoeaaGreatTotals.lean).
  GIVEN WITH THE SEED: the statements are not yours to turn. If you find one false, say at which input.
  Laid BY PROGRAM, IN A SANDBOX (cutbox-rows.mjs): the forced cells as the released guide's own fill.sh prints them over the translation a2398ec062bd059f… (all of the seat's roots in one cut). By AI agents, Wed Nov 11 2026. No macro, syntax, notation, axiom, sorry.
-/
import Derived.Test.YtdffaepbkecoeaaGreatChecked
import GoSem.Claim
import GoSem.ClaimJoined
import GoSem.ClaimMapViews
import Derived.JoinedTies
import Derived.KernelRfl
namespace Go.Proofs.YtdffaepbkecoeaaGreat
/- THE CELL 'sum', in the pinned program and in every row, IS THE sha256 OF THE DUMP (.gsa) THAT YtdffaepbkecoeaaGreatProg.lean LOADS. Nothing in Lean hashes anything: it is a label: what it is worth is what the hold of that sum in a sandbox is worth. -/
noncomputable def Tryz.pinned : Pinned := { name := "ytdffaepbkecoeaagreat", sum := "a2398ec062bd059f8b11f5bf2ee6b80ead37f316972f2ac452b9bf1ff5657257", checked := Tryz.checked }
namespace Rows
def none {H : Type} : Left H := { results := [], args := [] }

/-- 'playpenlaw19.RunEnded': WHATEVER THE INPUT: true; the input reads as it did. -/
def runEndedSpec : ChangeSpec := { name := "runEnded", fn := fun _ => fun
  | [d1, d2, d3, d4, d5, d6, d7] => { results := [.lit (.bool true)], args := [d1, d2, d3, d4, d5, d6, d7] }
  | _ => none }
def runEndedRow : OpenClaim := { program := "ytdffaepbkecoeaagreat", sum := "a2398ec062bd059f8b11f5bf2ee6b80ead37f316972f2ac452b9bf1ff5657257", func := "playpen/playpenlaw19.RunEnded", spec := "runEnded", inPlace := ["math.Float32bits", "math.Float32frombits"], unfollowed := true, recurses := true, apart := false }
def RunEndedSaid : Prop := runEndedRow.holds Tryz.pinned (OpenSpec.ofChange runEndedSpec)

/-- ITS FALSE NEIGHBOUR: 'it returns false'. Refute it at one input. -/
def runEndedWrong : ChangeSpec := { name := "runEnded", fn := fun _ => fun
  | [d1, d2, d3, d4, d5, d6, d7] => { results := [.lit (.bool false)], args := [d1, d2, d3, d4, d5, d6, d7] }
  | _ => none }
def RunEndedWrongFalsely : Prop := runEndedRow.holds Tryz.pinned (OpenSpec.ofChange runEndedWrong)

/-- 'playpenlaw19.RunCut': WHATEVER THE INPUT: true; the input reads as it did. -/
def runCutSpec : ChangeSpec := { name := "runCut", fn := fun _ => fun
  | [d1, d2, d3, d4, d5, d6] => { results := [.lit (.bool true)], args := [d1, d2, d3, d4, d5, d6] }
  | _ => none }
def runCutRow : OpenClaim := { program := "ytdffaepbkecoeaagreat", sum := "a2398ec062bd059f8b11f5bf2ee6b80ead37f316972f2ac452b9bf1ff5657257", func := "playpen/playpenlaw19.RunCut", spec := "runCut", inPlace := ["math.Float32bits", "math.Float32frombits"], unfollowed := true, recurses := true, apart := false }
def RunCutSaid : Prop := runCutRow.holds Tryz.pinned (OpenSpec.ofChange runCutSpec)

/-- ITS FALSE NEIGHBOUR: 'it returns false'. Refute it at one input. -/
def runCutWrong : ChangeSpec := { name := "runCut", fn := fun _ => fun
  | [d1, d2, d3, d4, d5, d6] => { results := [.lit (.bool false)], args := [d1, d2, d3, d4, d5, d6] }
  | _ => none }
def RunCutWrongFalsely : Prop := runCutRow.holds Tryz.pinned (OpenSpec.ofChange runCutWrong)

/-- 'playpenlaw19.RunKnown': WHATEVER THE INPUT: true; the input reads as it did. -/
def runKnownSpec : ChangeSpec := { name := "runKnown", fn := fun _ => fun
  | [] => { results := [.lit (.bool true)], args := [] }
  | _ => none }
def runKnownRow : OpenClaim := { program := "ytdffaepbkecoeaagreat", sum := "a2398ec062bd059f8b11f5bf2ee6b80ead37f316972f2ac452b9bf1ff5657257", func := "playpen/playpenlaw19.RunKnown", spec := "runKnown", inPlace := ["math.Float32bits", "math.Float32frombits"], unfollowed := true, recurses := true, apart := false }
def RunKnownSaid : Prop := runKnownRow.holds Tryz.pinned (OpenSpec.ofChange runKnownSpec)

/-- ITS FALSE NEIGHBOUR: 'it returns false'. Refute it at one input. -/
def runKnownWrong : ChangeSpec := { name := "runKnown", fn := fun _ => fun
  | [] => { results := [.lit (.bool false)], args := [] }
  | _ => none }
def RunKnownWrongFalsely : Prop := runKnownRow.holds Tryz.pinned (OpenSpec.ofChange runKnownWrong)

/-- 'playpenlaw19.RunContained': WHATEVER THE INPUT: true; the input reads as it did. -/
def runContainedSpec : ChangeSpec := { name := "runContained", fn := fun _ => fun
  | [d1, d2, d3, d4, d5] => { results := [.lit (.bool true)], args := [d1, d2, d3, d4, d5] }
  | _ => none }
def runContainedRow : OpenClaim := { program := "ytdffaepbkecoeaagreat", sum := "a2398ec062bd059f8b11f5bf2ee6b80ead37f316972f2ac452b9bf1ff5657257", func := "playpen/playpenlaw19.RunContained", spec := "runContained", inPlace := ["math.Float32bits", "math.Float32frombits"], unfollowed := true, recurses := true, apart := false }
def RunContainedSaid : Prop := runContainedRow.holds Tryz.pinned (OpenSpec.ofChange runContainedSpec)

/-- ITS FALSE NEIGHBOUR: 'it returns false'. Refute it at one input. -/
def runContainedWrong : ChangeSpec := { name := "runContained", fn := fun _ => fun
  | [d1, d2, d3, d4, d5] => { results := [.lit (.bool false)], args := [d1, d2, d3, d4, d5] }
  | _ => none }
def RunContainedWrongFalsely : Prop := runContainedRow.holds Tryz.pinned (OpenSpec.ofChange runContainedWrong)

/- THE SECOND FORM. 'bulk': how many values and letters a reading holds, each counted each time it is reached (what is shared counts as often as it is met; a slice's spare places count too). A statement '..UptoSaid' is the law's where the arguments, and the package variables that the reading takes, are together of bulk at most 1048576: NARROWER than '..Said'. Prove '..Said' where nothing that the law and all that it calls make is longer than what came in: it says more and counts as full. Else prove '..UptoSaid'. A law counts once. -/
mutual
def uptoBulk {H : Type} : DataW H → Nat
  | .lit (.string bytes) => bytes.length + 1
  | .lit _ => 1
  | .nil => 1
  | .ptr d => uptoBulk d + 1
  | .slice elems spare => uptoBulkAll elems + uptoBulkAll spare + 1
  | .agg parts => uptoBulkAll parts + 1
  | .iface _ d => uptoBulk d + 1
  | .map entries => uptoBulkEntries entries + 1
  | .held _ => 1
def uptoBulkAll {H : Type} : List (DataW H) → Nat
  | [] => 0
  | d :: r => uptoBulk d + uptoBulkAll r
def uptoBulkEntries {H : Type} : List (Lit × DataW H) → Nat
  | [] => 0
  | x :: r => uptoBulkEntry x + uptoBulkEntries r
def uptoBulkEntry {H : Type} : Lit × DataW H → Nat
  | (.string bytes, d) => bytes.length + uptoBulk d + 1
  | (_, d) => uptoBulk d + 1
 end
def uptoSmall : (H : Type) → List (DataW H) → Bool := fun _ ds => decide (uptoBulkAll ds ≤ 1048576)
def OpenSpec.upto (s : _root_.Go.ChangeSpec) : _root_.Go.OpenSpec := { _root_.Go.OpenSpec.ofChange s with cond := some uptoSmall }

/-- 'playpenlaw19.RunEnded', WHERE WHAT IT READS IS OF BULK AT MOST 1048576: true; the input reads as it did. -/
def runEndedUptoRow : OpenClaim := { program := "ytdffaepbkecoeaagreat", sum := "a2398ec062bd059f8b11f5bf2ee6b80ead37f316972f2ac452b9bf1ff5657257", func := "playpen/playpenlaw19.RunEnded", spec := "runEnded", inPlace := ["math.Float32bits", "math.Float32frombits"], unfollowed := true, recurses := true, apart := false, narrowed := true }
def RunEndedUptoSaid : Prop := runEndedUptoRow.holds Tryz.pinned (OpenSpec.upto runEndedSpec)

/-- 'playpenlaw19.RunCut', WHERE WHAT IT READS IS OF BULK AT MOST 1048576: true; the input reads as it did. -/
def runCutUptoRow : OpenClaim := { program := "ytdffaepbkecoeaagreat", sum := "a2398ec062bd059f8b11f5bf2ee6b80ead37f316972f2ac452b9bf1ff5657257", func := "playpen/playpenlaw19.RunCut", spec := "runCut", inPlace := ["math.Float32bits", "math.Float32frombits"], unfollowed := true, recurses := true, apart := false, narrowed := true }
def RunCutUptoSaid : Prop := runCutUptoRow.holds Tryz.pinned (OpenSpec.upto runCutSpec)

/-- 'playpenlaw19.RunKnown', WHERE WHAT IT READS IS OF BULK AT MOST 1048576: true; the input reads as it did. -/
def runKnownUptoRow : OpenClaim := { program := "ytdffaepbkecoeaagreat", sum := "a2398ec062bd059f8b11f5bf2ee6b80ead37f316972f2ac452b9bf1ff5657257", func := "playpen/playpenlaw19.RunKnown", spec := "runKnown", inPlace := ["math.Float32bits", "math.Float32frombits"], unfollowed := true, recurses := true, apart := false, narrowed := true }
def RunKnownUptoSaid : Prop := runKnownUptoRow.holds Tryz.pinned (OpenSpec.upto runKnownSpec)

/-- 'playpenlaw19.RunContained', WHERE WHAT IT READS IS OF BULK AT MOST 1048576: true; the input reads as it did. -/
def runContainedUptoRow : OpenClaim := { program := "ytdffaepbkecoeaagreat", sum := "a2398ec062bd059f8b11f5bf2ee6b80ead37f316972f2ac452b9bf1ff5657257", func := "playpen/playpenlaw19.RunContained", spec := "runContained", inPlace := ["math.Float32bits", "math.Float32frombits"], unfollowed := true, recurses := true, apart := false, narrowed := true }
def RunContainedUptoSaid : Prop := runContainedUptoRow.holds Tryz.pinned (OpenSpec.upto runContainedSpec)

end Rows
end Go.Proofs.YtdffaepbkecoeaaGreat
