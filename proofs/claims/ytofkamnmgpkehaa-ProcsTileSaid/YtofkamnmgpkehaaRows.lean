/-
  No cell of these rows narrows 'for every input' (looked for: loops, veiled, ifaces, maps, wideKeys, modest, calm, conditions, laid).
  DERIVED. THE GIVEN ROWS OF THIS SEAT. 2 by the template 'for every input the law returns true; each argument reads behind the call as it read before'; 0 by the template 'total and deterministic' (their statements: YtofkamnmgpkehaaTotals.lean).
  GIVEN WITH THE SEED: the statements are not yours to turn. If you find one false, say at which input.
  Laid BY PROGRAM, IN A SANDBOX (cutbox-rows.mjs): the forced cells as the released guide's own fill.sh prints them over the translation 5577ecb4b15d89f5… (all of the seat's roots in one cut). By AI agents, Wed Nov 11 2026. No macro, syntax, notation, axiom, sorry.
-/
import Derived.Test.YtofkamnmgpkehaaChecked
import GoSem.Claim
import GoSem.ClaimJoined
import GoSem.ClaimMapViews
import Derived.JoinedTies
import Derived.KernelRfl
namespace Go.Proofs.Ytofkamnmgpkehaa
/- THE CELL 'sum', in the pinned program and in every row, IS THE sha256 OF THE DUMP (.gsa) THAT YtofkamnmgpkehaaProg.lean LOADS. Nothing in Lean hashes anything: it is a label: what it is worth is what the hold of that sum in a sandbox is worth. -/
noncomputable def Try.pinned : Pinned := { name := "ytofkamnmgpkehaa", sum := "5577ecb4b15d89f5807ecf5910ee24b0c4082f4d9f6ed5c81298b12d7d13d941", checked := Try.checked }
namespace Rows
def none {H : Type} : Left H := { results := [], args := [] }

/-- 'playpenlaw13.ProcsTile': WHATEVER THE INPUT: true; the input reads as it did. -/
def procsTileSpec : ChangeSpec := { name := "procsTile", fn := fun _ => fun
  | [d] => { results := [.lit (.bool true)], args := [d] }
  | _ => none }
def procsTileRow : OpenClaim := { program := "ytofkamnmgpkehaa", sum := "5577ecb4b15d89f5807ecf5910ee24b0c4082f4d9f6ed5c81298b12d7d13d941", func := "playpen/playpenlaw13.ProcsTile", spec := "procsTile", unfollowed := true, recurses := true, apart := false }
def ProcsTileSaid : Prop := procsTileRow.holds Try.pinned (OpenSpec.ofChange procsTileSpec)

/-- ITS FALSE NEIGHBOUR: 'it returns false'. Refute it at one input. -/
def procsTileWrong : ChangeSpec := { name := "procsTile", fn := fun _ => fun
  | [d] => { results := [.lit (.bool false)], args := [d] }
  | _ => none }
def ProcsTileWrongFalsely : Prop := procsTileRow.holds Try.pinned (OpenSpec.ofChange procsTileWrong)

/-- 'playpenlaw13.ProcsWithin': WHATEVER THE INPUT: true; the input reads as it did. -/
def procsWithinSpec : ChangeSpec := { name := "procsWithin", fn := fun _ => fun
  | [d1, d2, d3] => { results := [.lit (.bool true)], args := [d1, d2, d3] }
  | _ => none }
def procsWithinRow : OpenClaim := { program := "ytofkamnmgpkehaa", sum := "5577ecb4b15d89f5807ecf5910ee24b0c4082f4d9f6ed5c81298b12d7d13d941", func := "playpen/playpenlaw13.ProcsWithin", spec := "procsWithin", apart := false }
def ProcsWithinSaid : Prop := procsWithinRow.holds Try.pinned (OpenSpec.ofChange procsWithinSpec)

/-- ITS FALSE NEIGHBOUR: 'it returns false'. Refute it at one input. -/
def procsWithinWrong : ChangeSpec := { name := "procsWithin", fn := fun _ => fun
  | [d1, d2, d3] => { results := [.lit (.bool false)], args := [d1, d2, d3] }
  | _ => none }
def ProcsWithinWrongFalsely : Prop := procsWithinRow.holds Try.pinned (OpenSpec.ofChange procsWithinWrong)

/- THE SECOND FORM. 'bulk': how many values and letters a reading holds, each counted each time it is reached (what is shared counts as often as it is met; a slice's spare places count too). A statement '..UptoSaid' is the law's where the arguments, and the package variables that the reading takes, are together of bulk at most 1048576: NARROWER than '..Said'. Prove '..Said' where nothing that the law and all that it calls make is longer than what came in: it says more and counts as full. Else prove '..UptoSaid'. A law counts once. -/
mutual
def uptoBulk {H : Type} : DataW H → Nat
  | .lit (.string bytes) => bytes.length + 1
  | .lit _ => 1
  | .nil => 1
  | .ptr d => uptoBulk d + 1
  | .slice elems spare => uptoBulkAll elems + uptoBulkAll spare + 1
  | .agg parts => uptoBulkAll parts + 1
  | .iface _ d => uptoBulk d + 1
  | .map entries => uptoBulkEntries entries + 1
  | .held _ => 1
def uptoBulkAll {H : Type} : List (DataW H) → Nat
  | [] => 0
  | d :: r => uptoBulk d + uptoBulkAll r
def uptoBulkEntries {H : Type} : List (Lit × DataW H) → Nat
  | [] => 0
  | x :: r => uptoBulkEntry x + uptoBulkEntries r
def uptoBulkEntry {H : Type} : Lit × DataW H → Nat
  | (.string bytes, d) => bytes.length + uptoBulk d + 1
  | (_, d) => uptoBulk d + 1
 end
def uptoSmall : (H : Type) → List (DataW H) → Bool := fun _ ds => decide (uptoBulkAll ds ≤ 1048576)
def OpenSpec.upto (s : _root_.Go.ChangeSpec) : _root_.Go.OpenSpec := { _root_.Go.OpenSpec.ofChange s with cond := some uptoSmall }

/-- 'playpenlaw13.ProcsTile', WHERE WHAT IT READS IS OF BULK AT MOST 1048576: true; the input reads as it did. -/
def procsTileUptoRow : OpenClaim := { program := "ytofkamnmgpkehaa", sum := "5577ecb4b15d89f5807ecf5910ee24b0c4082f4d9f6ed5c81298b12d7d13d941", func := "playpen/playpenlaw13.ProcsTile", spec := "procsTile", unfollowed := true, recurses := true, apart := false, narrowed := true }
def ProcsTileUptoSaid : Prop := procsTileUptoRow.holds Try.pinned (OpenSpec.upto procsTileSpec)

/-- 'playpenlaw13.ProcsWithin', WHERE WHAT IT READS IS OF BULK AT MOST 1048576: true; the input reads as it did. -/
def procsWithinUptoRow : OpenClaim := { program := "ytofkamnmgpkehaa", sum := "5577ecb4b15d89f5807ecf5910ee24b0c4082f4d9f6ed5c81298b12d7d13d941", func := "playpen/playpenlaw13.ProcsWithin", spec := "procsWithin", apart := false, narrowed := true }
def ProcsWithinUptoSaid : Prop := procsWithinUptoRow.holds Try.pinned (OpenSpec.upto procsWithinSpec)

end Rows
end Go.Proofs.Ytofkamnmgpkehaa
