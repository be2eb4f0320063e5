/-
  No cell of these rows narrows 'for every input' (looked for: loops, veiled, ifaces, maps, wideKeys, modest, calm, conditions, laid).
  DERIVED. THE GIVEN ROWS OF THIS SEAT. 3 by the template 'for every input the law returns true; each argument reads behind the call as it read before'; 0 by the template 'total and deterministic' (their statements: YtfoaibfncjnbdaaTotals.lean).
  GIVEN WITH THE SEED: the statements are not yours to turn. If you find one false, say at which input.
  Laid BY PROGRAM, IN A SANDBOX (cutbox-rows.mjs): the forced cells as the released guide's own fill.sh prints them over the translation 04d1683bd26841ef… (all of the seat's roots in one cut). By AI agents, Wed Nov 11 2026. No macro, syntax, notation, axiom, sorry.
-/
import Derived.Test.YtfoaibfncjnbdaaChecked
import GoSem.Claim
import GoSem.ClaimJoined
import GoSem.ClaimMapViews
import Derived.JoinedTies
import Derived.KernelRfl
namespace Go.Proofs.Ytfoaibfncjnbdaa
/- THE CELL 'sum', in the pinned program and in every row, IS THE sha256 OF THE DUMP (.gsa) THAT YtfoaibfncjnbdaaProg.lean LOADS. Nothing in Lean hashes anything: it is a label: what it is worth is what the hold of that sum in a sandbox is worth. -/
noncomputable def Try.pinned : Pinned := { name := "ytfoaibfncjnbdaa", sum := "04d1683bd26841ef806dd14b7887eece52924e94dc41452e75742aeb20afb5a0", checked := Try.checked }
namespace Rows
def none {H : Type} : Left H := { results := [], args := [] }

/-- 'playpenlaw21.FoldLongest': WHATEVER THE INPUT: true; the input reads as it did. -/
def foldLongestSpec : ChangeSpec := { name := "foldLongest", fn := fun _ => fun
  | [d1, d2, d3] => { results := [.lit (.bool true)], args := [d1, d2, d3] }
  | _ => none }
def foldLongestRow : OpenClaim := { program := "ytfoaibfncjnbdaa", sum := "04d1683bd26841ef806dd14b7887eece52924e94dc41452e75742aeb20afb5a0", func := "playpen/playpenlaw21.FoldLongest", spec := "foldLongest", inPlace := ["math.Float32frombits", "math.Float32bits"], unfollowed := true, recurses := true, apart := false }
def FoldLongestSaid : Prop := foldLongestRow.holds Try.pinned (OpenSpec.ofChange foldLongestSpec)

/-- ITS FALSE NEIGHBOUR: 'it returns false'. Refute it at one input. -/
def foldLongestWrong : ChangeSpec := { name := "foldLongest", fn := fun _ => fun
  | [d1, d2, d3] => { results := [.lit (.bool false)], args := [d1, d2, d3] }
  | _ => none }
def FoldLongestWrongFalsely : Prop := foldLongestRow.holds Try.pinned (OpenSpec.ofChange foldLongestWrong)

/-- 'playpenlaw21.FoldShort': WHATEVER THE INPUT: true; the input reads as it did. -/
def foldShortSpec : ChangeSpec := { name := "foldShort", fn := fun _ => fun
  | [d1, d2, d3] => { results := [.lit (.bool true)], args := [d1, d2, d3] }
  | _ => none }
def foldShortRow : OpenClaim := { program := "ytfoaibfncjnbdaa", sum := "04d1683bd26841ef806dd14b7887eece52924e94dc41452e75742aeb20afb5a0", func := "playpen/playpenlaw21.FoldShort", spec := "foldShort", inPlace := ["math.Float32frombits", "math.Float32bits"], unfollowed := true, recurses := true, apart := false }
def FoldShortSaid : Prop := foldShortRow.holds Try.pinned (OpenSpec.ofChange foldShortSpec)

/-- ITS FALSE NEIGHBOUR: 'it returns false'. Refute it at one input. -/
def foldShortWrong : ChangeSpec := { name := "foldShort", fn := fun _ => fun
  | [d1, d2, d3] => { results := [.lit (.bool false)], args := [d1, d2, d3] }
  | _ => none }
def FoldShortWrongFalsely : Prop := foldShortRow.holds Try.pinned (OpenSpec.ofChange foldShortWrong)

/-- 'playpenlaw21.FoldNames': WHATEVER THE INPUT: true; the input reads as it did. -/
def foldNamesSpec : ChangeSpec := { name := "foldNames", fn := fun _ => fun
  | [] => { results := [.lit (.bool true)], args := [] }
  | _ => none }
def foldNamesRow : OpenClaim := { program := "ytfoaibfncjnbdaa", sum := "04d1683bd26841ef806dd14b7887eece52924e94dc41452e75742aeb20afb5a0", func := "playpen/playpenlaw21.FoldNames", spec := "foldNames", inPlace := ["math.Float32frombits", "math.Float32bits"], unfollowed := true, recurses := true, apart := false }
def FoldNamesSaid : Prop := foldNamesRow.holds Try.pinned (OpenSpec.ofChange foldNamesSpec)

/-- ITS FALSE NEIGHBOUR: 'it returns false'. Refute it at one input. -/
def foldNamesWrong : ChangeSpec := { name := "foldNames", fn := fun _ => fun
  | [] => { results := [.lit (.bool false)], args := [] }
  | _ => none }
def FoldNamesWrongFalsely : Prop := foldNamesRow.holds Try.pinned (OpenSpec.ofChange foldNamesWrong)

/- THE SECOND FORM. 'bulk': how many values and letters a reading holds, each counted each time it is reached (what is shared counts as often as it is met; a slice's spare places count too). A statement '..UptoSaid' is the law's where the arguments, and the package variables that the reading takes, are together of bulk at most 1048576: NARROWER than '..Said'. Prove '..Said' where nothing that the law and all that it calls make is longer than what came in: it says more and counts as full. Else prove '..UptoSaid'. A law counts once. -/
mutual
def uptoBulk {H : Type} : DataW H → Nat
  | .lit (.string bytes) => bytes.length + 1
  | .lit _ => 1
  | .nil => 1
  | .ptr d => uptoBulk d + 1
  | .slice elems spare => uptoBulkAll elems + uptoBulkAll spare + 1
  | .agg parts => uptoBulkAll parts + 1
  | .iface _ d => uptoBulk d + 1
  | .map entries => uptoBulkEntries entries + 1
  | .held _ => 1
def uptoBulkAll {H : Type} : List (DataW H) → Nat
  | [] => 0
  | d :: r => uptoBulk d + uptoBulkAll r
def uptoBulkEntries {H : Type} : List (Lit × DataW H) → Nat
  | [] => 0
  | x :: r => uptoBulkEntry x + uptoBulkEntries r
def uptoBulkEntry {H : Type} : Lit × DataW H → Nat
  | (.string bytes, d) => bytes.length + uptoBulk d + 1
  | (_, d) => uptoBulk d + 1
 end
def uptoSmall : (H : Type) → List (DataW H) → Bool := fun _ ds => decide (uptoBulkAll ds ≤ 1048576)
def OpenSpec.upto (s : _root_.Go.ChangeSpec) : _root_.Go.OpenSpec := { _root_.Go.OpenSpec.ofChange s with cond := some uptoSmall }

/-- 'playpenlaw21.FoldLongest', WHERE WHAT IT READS IS OF BULK AT MOST 1048576: true; the input reads as it did. -/
def foldLongestUptoRow : OpenClaim := { program := "ytfoaibfncjnbdaa", sum := "04d1683bd26841ef806dd14b7887eece52924e94dc41452e75742aeb20afb5a0", func := "playpen/playpenlaw21.FoldLongest", spec := "foldLongest", inPlace := ["math.Float32frombits", "math.Float32bits"], unfollowed := true, recurses := true, apart := false, narrowed := true }
def FoldLongestUptoSaid : Prop := foldLongestUptoRow.holds Try.pinned (OpenSpec.upto foldLongestSpec)

/-- 'playpenlaw21.FoldShort', WHERE WHAT IT READS IS OF BULK AT MOST 1048576: true; the input reads as it did. -/
def foldShortUptoRow : OpenClaim := { program := "ytfoaibfncjnbdaa", sum := "04d1683bd26841ef806dd14b7887eece52924e94dc41452e75742aeb20afb5a0", func := "playpen/playpenlaw21.FoldShort", spec := "foldShort", inPlace := ["math.Float32frombits", "math.Float32bits"], unfollowed := true, recurses := true, apart := false, narrowed := true }
def FoldShortUptoSaid : Prop := foldShortUptoRow.holds Try.pinned (OpenSpec.upto foldShortSpec)

/-- 'playpenlaw21.FoldNames', WHERE WHAT IT READS IS OF BULK AT MOST 1048576: true; the input reads as it did. -/
def foldNamesUptoRow : OpenClaim := { program := "ytfoaibfncjnbdaa", sum := "04d1683bd26841ef806dd14b7887eece52924e94dc41452e75742aeb20afb5a0", func := "playpen/playpenlaw21.FoldNames", spec := "foldNames", inPlace := ["math.Float32frombits", "math.Float32bits"], unfollowed := true, recurses := true, apart := false, narrowed := true }
def FoldNamesUptoSaid : Prop := foldNamesUptoRow.holds Try.pinned (OpenSpec.upto foldNamesSpec)

end Rows
end Go.Proofs.Ytfoaibfncjnbdaa
