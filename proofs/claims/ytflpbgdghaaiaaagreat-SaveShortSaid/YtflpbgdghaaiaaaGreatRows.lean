/-
  No cell of these rows narrows 'for every input' (looked for: loops, veiled, ifaces, maps, wideKeys, modest, calm, conditions, laid).
  DERIVED. THE GIVEN ROWS OF THIS SEAT. 4 by the template 'for every input the law returns true; each argument reads behind the call as it read before'; 0 by the template 'total and deterministic' (their statements: YtflpbgdghaaiaaaGreatTotals.lean).
  GIVEN WITH THE SEED: the statements are not yours to turn. If you find one false, say at which input.
  Laid BY PROGRAM, IN A SANDBOX (cutbox-rows.mjs): the forced cells as the released guide's own fill.sh prints them over the translation 05413b4b8d407b67… (all of the seat's roots in one cut). By AI agents, Wed Nov 11 2026. No macro, syntax, notation, axiom, sorry.
-/
import Derived.Test.YtflpbgdghaaiaaaGreatChecked
import GoSem.Claim
import GoSem.ClaimJoined
import GoSem.ClaimMapViews
import Derived.JoinedTies
import Derived.KernelRfl
namespace Go.Proofs.YtflpbgdghaaiaaaGreat
/- THE CELL 'sum', in the pinned program and in every row, IS THE sha256 OF THE DUMP (.gsa) THAT YtflpbgdghaaiaaaGreatProg.lean LOADS. Nothing in Lean hashes anything: it is a label: what it is worth is what the hold of that sum in a sandbox is worth. -/
noncomputable def Tryz.pinned : Pinned := { name := "ytflpbgdghaaiaaagreat", sum := "05413b4b8d407b67be03a23a295f774e7718b0f9da1aa5157f329b76d140f8f4", checked := Tryz.checked }
namespace Rows
def none {H : Type} : Left H := { results := [], args := [] }

/-- 'playpenlaw20.SaveShort': WHATEVER THE INPUT: true; the input reads as it did. -/
def saveShortSpec : ChangeSpec := { name := "saveShort", fn := fun _ => fun
  | [d1, d2, d3] => { results := [.lit (.bool true)], args := [d1, d2, d3] }
  | _ => none }
def saveShortRow : OpenClaim := { program := "ytflpbgdghaaiaaagreat", sum := "05413b4b8d407b67be03a23a295f774e7718b0f9da1aa5157f329b76d140f8f4", func := "playpen/playpenlaw20.SaveShort", spec := "saveShort", unfollowed := true, recurses := true, apart := false }
def SaveShortSaid : Prop := saveShortRow.holds Tryz.pinned (OpenSpec.ofChange saveShortSpec)

/-- ITS FALSE NEIGHBOUR: 'it returns false'. Refute it at one input. -/
def saveShortWrong : ChangeSpec := { name := "saveShort", fn := fun _ => fun
  | [d1, d2, d3] => { results := [.lit (.bool false)], args := [d1, d2, d3] }
  | _ => none }
def SaveShortWrongFalsely : Prop := saveShortRow.holds Tryz.pinned (OpenSpec.ofChange saveShortWrong)

/-- 'playpenlaw20.SaveBack': WHATEVER THE INPUT: true; the input reads as it did. -/
def saveBackSpec : ChangeSpec := { name := "saveBack", fn := fun _ => fun
  | [d1, d2, d3] => { results := [.lit (.bool true)], args := [d1, d2, d3] }
  | _ => none }
def saveBackRow : OpenClaim := { program := "ytflpbgdghaaiaaagreat", sum := "05413b4b8d407b67be03a23a295f774e7718b0f9da1aa5157f329b76d140f8f4", func := "playpen/playpenlaw20.SaveBack", spec := "saveBack", unfollowed := true, recurses := true, apart := false }
def SaveBackSaid : Prop := saveBackRow.holds Tryz.pinned (OpenSpec.ofChange saveBackSpec)

/-- ITS FALSE NEIGHBOUR: 'it returns false'. Refute it at one input. -/
def saveBackWrong : ChangeSpec := { name := "saveBack", fn := fun _ => fun
  | [d1, d2, d3] => { results := [.lit (.bool false)], args := [d1, d2, d3] }
  | _ => none }
def SaveBackWrongFalsely : Prop := saveBackRow.holds Tryz.pinned (OpenSpec.ofChange saveBackWrong)

/-- 'playpenlaw20.SaveOnly': WHATEVER THE INPUT: true; the input reads as it did. -/
def saveOnlySpec : ChangeSpec := { name := "saveOnly", fn := fun _ => fun
  | [d1, d2, d3] => { results := [.lit (.bool true)], args := [d1, d2, d3] }
  | _ => none }
def saveOnlyRow : OpenClaim := { program := "ytflpbgdghaaiaaagreat", sum := "05413b4b8d407b67be03a23a295f774e7718b0f9da1aa5157f329b76d140f8f4", func := "playpen/playpenlaw20.SaveOnly", spec := "saveOnly", unfollowed := true, recurses := true, apart := false }
def SaveOnlySaid : Prop := saveOnlyRow.holds Tryz.pinned (OpenSpec.ofChange saveOnlySpec)

/-- ITS FALSE NEIGHBOUR: 'it returns false'. Refute it at one input. -/
def saveOnlyWrong : ChangeSpec := { name := "saveOnly", fn := fun _ => fun
  | [d1, d2, d3] => { results := [.lit (.bool false)], args := [d1, d2, d3] }
  | _ => none }
def SaveOnlyWrongFalsely : Prop := saveOnlyRow.holds Tryz.pinned (OpenSpec.ofChange saveOnlyWrong)

/-- 'playpenlaw20.SaveTurned': WHATEVER THE INPUT: true; the input reads as it did. -/
def saveTurnedSpec : ChangeSpec := { name := "saveTurned", fn := fun _ => fun
  | [d1, d2, d3, d4] => { results := [.lit (.bool true)], args := [d1, d2, d3, d4] }
  | _ => none }
def saveTurnedRow : OpenClaim := { program := "ytflpbgdghaaiaaagreat", sum := "05413b4b8d407b67be03a23a295f774e7718b0f9da1aa5157f329b76d140f8f4", func := "playpen/playpenlaw20.SaveTurned", spec := "saveTurned", unfollowed := true, recurses := true, apart := false }
def SaveTurnedSaid : Prop := saveTurnedRow.holds Tryz.pinned (OpenSpec.ofChange saveTurnedSpec)

/-- ITS FALSE NEIGHBOUR: 'it returns false'. Refute it at one input. -/
def saveTurnedWrong : ChangeSpec := { name := "saveTurned", fn := fun _ => fun
  | [d1, d2, d3, d4] => { results := [.lit (.bool false)], args := [d1, d2, d3, d4] }
  | _ => none }
def SaveTurnedWrongFalsely : Prop := saveTurnedRow.holds Tryz.pinned (OpenSpec.ofChange saveTurnedWrong)

/- THE SECOND FORM. 'bulk': how many values and letters a reading holds, each counted each time it is reached (what is shared counts as often as it is met; a slice's spare places count too). A statement '..UptoSaid' is the law's where the arguments, and the package variables that the reading takes, are together of bulk at most 1048576: NARROWER than '..Said'. Prove '..Said' where nothing that the law and all that it calls make is longer than what came in: it says more and counts as full. Else prove '..UptoSaid'. A law counts once. -/
mutual
def uptoBulk {H : Type} : DataW H → Nat
  | .lit (.string bytes) => bytes.length + 1
  | .lit _ => 1
  | .nil => 1
  | .ptr d => uptoBulk d + 1
  | .slice elems spare => uptoBulkAll elems + uptoBulkAll spare + 1
  | .agg parts => uptoBulkAll parts + 1
  | .iface _ d => uptoBulk d + 1
  | .map entries => uptoBulkEntries entries + 1
  | .held _ => 1
def uptoBulkAll {H : Type} : List (DataW H) → Nat
  | [] => 0
  | d :: r => uptoBulk d + uptoBulkAll r
def uptoBulkEntries {H : Type} : List (Lit × DataW H) → Nat
  | [] => 0
  | x :: r => uptoBulkEntry x + uptoBulkEntries r
def uptoBulkEntry {H : Type} : Lit × DataW H → Nat
  | (.string bytes, d) => bytes.length + uptoBulk d + 1
  | (_, d) => uptoBulk d + 1
 end
def uptoSmall : (H : Type) → List (DataW H) → Bool := fun _ ds => decide (uptoBulkAll ds ≤ 1048576)
def OpenSpec.upto (s : _root_.Go.ChangeSpec) : _root_.Go.OpenSpec := { _root_.Go.OpenSpec.ofChange s with cond := some uptoSmall }

/-- 'playpenlaw20.SaveShort', WHERE WHAT IT READS IS OF BULK AT MOST 1048576: true; the input reads as it did. -/
def saveShortUptoRow : OpenClaim := { program := "ytflpbgdghaaiaaagreat", sum := "05413b4b8d407b67be03a23a295f774e7718b0f9da1aa5157f329b76d140f8f4", func := "playpen/playpenlaw20.SaveShort", spec := "saveShort", unfollowed := true, recurses := true, apart := false, narrowed := true }
def SaveShortUptoSaid : Prop := saveShortUptoRow.holds Tryz.pinned (OpenSpec.upto saveShortSpec)

/-- 'playpenlaw20.SaveBack', WHERE WHAT IT READS IS OF BULK AT MOST 1048576: true; the input reads as it did. -/
def saveBackUptoRow : OpenClaim := { program := "ytflpbgdghaaiaaagreat", sum := "05413b4b8d407b67be03a23a295f774e7718b0f9da1aa5157f329b76d140f8f4", func := "playpen/playpenlaw20.SaveBack", spec := "saveBack", unfollowed := true, recurses := true, apart := false, narrowed := true }
def SaveBackUptoSaid : Prop := saveBackUptoRow.holds Tryz.pinned (OpenSpec.upto saveBackSpec)

/-- 'playpenlaw20.SaveOnly', WHERE WHAT IT READS IS OF BULK AT MOST 1048576: true; the input reads as it did. -/
def saveOnlyUptoRow : OpenClaim := { program := "ytflpbgdghaaiaaagreat", sum := "05413b4b8d407b67be03a23a295f774e7718b0f9da1aa5157f329b76d140f8f4", func := "playpen/playpenlaw20.SaveOnly", spec := "saveOnly", unfollowed := true, recurses := true, apart := false, narrowed := true }
def SaveOnlyUptoSaid : Prop := saveOnlyUptoRow.holds Tryz.pinned (OpenSpec.upto saveOnlySpec)

/-- 'playpenlaw20.SaveTurned', WHERE WHAT IT READS IS OF BULK AT MOST 1048576: true; the input reads as it did. -/
def saveTurnedUptoRow : OpenClaim := { program := "ytflpbgdghaaiaaagreat", sum := "05413b4b8d407b67be03a23a295f774e7718b0f9da1aa5157f329b76d140f8f4", func := "playpen/playpenlaw20.SaveTurned", spec := "saveTurned", unfollowed := true, recurses := true, apart := false, narrowed := true }
def SaveTurnedUptoSaid : Prop := saveTurnedUptoRow.holds Tryz.pinned (OpenSpec.upto saveTurnedSpec)

end Rows
end Go.Proofs.YtflpbgdghaaiaaaGreat
