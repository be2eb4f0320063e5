/-
  No cell of these rows narrows 'for every input' (looked for: loops, veiled, ifaces, maps, wideKeys, modest, calm, conditions, laid).
  DERIVED. THE GIVEN ROWS OF THIS SEAT. 14 by the template 'for every input the law returns true; each argument reads behind the call as it read before'; 0 by the template 'total and deterministic' (their statements: YtdigcbkjlppenaaTotals.lean).
  GIVEN WITH THE SEED: the statements are not yours to turn. If you find one false, say at which input.
  Laid BY PROGRAM, IN A SANDBOX (cutbox-rows.mjs): the forced cells as the released guide's own fill.sh prints them over the translation 186b87af799ee056… (all of the seat's roots in one cut). By AI agents, Wed Nov 11 2026. No macro, syntax, notation, axiom, sorry.
-/
import Derived.Test.YtdigcbkjlppenaaChecked
import GoSem.Claim
import GoSem.ClaimJoined
import GoSem.ClaimMapViews
import Derived.JoinedTies
import Derived.KernelRfl
namespace Go.Proofs.Ytdigcbkjlppenaa
/- THE CELL 'sum', in the pinned program and in every row, IS THE sha256 OF THE DUMP (.gsa) THAT YtdigcbkjlppenaaProg.lean LOADS. Nothing in Lean hashes anything: it is a label: what it is worth is what the hold of that sum in a sandbox is worth. -/
noncomputable def Try.pinned : Pinned := { name := "ytdigcbkjlppenaa", sum := "186b87af799ee056f684b56eab52aa70c81dbe8a88527b515dff29b38e002400", checked := Try.checked }
namespace Rows
def none {H : Type} : Left H := { results := [], args := [] }

/-- 'playpenlaw20.SaveNames': WHATEVER THE INPUT: true; the input reads as it did. -/
def saveNamesSpec : ChangeSpec := { name := "saveNames", fn := fun _ => fun
  | [] => { results := [.lit (.bool true)], args := [] }
  | _ => none }
def saveNamesRow : OpenClaim := { program := "ytdigcbkjlppenaa", sum := "186b87af799ee056f684b56eab52aa70c81dbe8a88527b515dff29b38e002400", func := "playpen/playpenlaw20.SaveNames", spec := "saveNames", apart := false }
def SaveNamesSaid : Prop := saveNamesRow.holds Try.pinned (OpenSpec.ofChange saveNamesSpec)

/-- ITS FALSE NEIGHBOUR: 'it returns false'. Refute it at one input. -/
def saveNamesWrong : ChangeSpec := { name := "saveNames", fn := fun _ => fun
  | [] => { results := [.lit (.bool false)], args := [] }
  | _ => none }
def SaveNamesWrongFalsely : Prop := saveNamesRow.holds Try.pinned (OpenSpec.ofChange saveNamesWrong)

/-- 'playpenlaw26.WatchNames': WHATEVER THE INPUT: true; the input reads as it did. -/
def watchNamesSpec : ChangeSpec := { name := "watchNames", fn := fun _ => fun
  | [] => { results := [.lit (.bool true)], args := [] }
  | _ => none }
def watchNamesRow : OpenClaim := { program := "ytdigcbkjlppenaa", sum := "186b87af799ee056f684b56eab52aa70c81dbe8a88527b515dff29b38e002400", func := "playpen/playpenlaw26.WatchNames", spec := "watchNames", apart := false }
def WatchNamesSaid : Prop := watchNamesRow.holds Try.pinned (OpenSpec.ofChange watchNamesSpec)

/-- ITS FALSE NEIGHBOUR: 'it returns false'. Refute it at one input. -/
def watchNamesWrong : ChangeSpec := { name := "watchNames", fn := fun _ => fun
  | [] => { results := [.lit (.bool false)], args := [] }
  | _ => none }
def WatchNamesWrongFalsely : Prop := watchNamesRow.holds Try.pinned (OpenSpec.ofChange watchNamesWrong)

/-- 'playpenlaw07.IsaInfo': WHATEVER THE INPUT: true; the input reads as it did. -/
def isaInfoSpec : ChangeSpec := { name := "isaInfo", fn := fun _ => fun
  | [d] => { results := [.lit (.bool true)], args := [d] }
  | _ => none }
def isaInfoRow : OpenClaim := { program := "ytdigcbkjlppenaa", sum := "186b87af799ee056f684b56eab52aa70c81dbe8a88527b515dff29b38e002400", func := "playpen/playpenlaw07.IsaInfo", spec := "isaInfo", apart := false }
def IsaInfoSaid : Prop := isaInfoRow.holds Try.pinned (OpenSpec.ofChange isaInfoSpec)

/-- ITS FALSE NEIGHBOUR: 'it returns false'. Refute it at one input. -/
def isaInfoWrong : ChangeSpec := { name := "isaInfo", fn := fun _ => fun
  | [d] => { results := [.lit (.bool false)], args := [d] }
  | _ => none }
def IsaInfoWrongFalsely : Prop := isaInfoRow.holds Try.pinned (OpenSpec.ofChange isaInfoWrong)

/-- 'playpenlaw07.IsaWord': WHATEVER THE INPUT: true; the input reads as it did. -/
def isaWordSpec : ChangeSpec := { name := "isaWord", fn := fun _ => fun
  | [d1, d2] => { results := [.lit (.bool true)], args := [d1, d2] }
  | _ => none }
def isaWordRow : OpenClaim := { program := "ytdigcbkjlppenaa", sum := "186b87af799ee056f684b56eab52aa70c81dbe8a88527b515dff29b38e002400", func := "playpen/playpenlaw07.IsaWord", spec := "isaWord", apart := false }
def IsaWordSaid : Prop := isaWordRow.holds Try.pinned (OpenSpec.ofChange isaWordSpec)

/-- ITS FALSE NEIGHBOUR: 'it returns false'. Refute it at one input. -/
def isaWordWrong : ChangeSpec := { name := "isaWord", fn := fun _ => fun
  | [d1, d2] => { results := [.lit (.bool false)], args := [d1, d2] }
  | _ => none }
def IsaWordWrongFalsely : Prop := isaWordRow.holds Try.pinned (OpenSpec.ofChange isaWordWrong)

/-- 'playpenlaw07.IsaWords': WHATEVER THE INPUT: true; the input reads as it did. -/
def isaWordsSpec : ChangeSpec := { name := "isaWords", fn := fun _ => fun
  | [d1, d2] => { results := [.lit (.bool true)], args := [d1, d2] }
  | _ => none }
def isaWordsRow : OpenClaim := { program := "ytdigcbkjlppenaa", sum := "186b87af799ee056f684b56eab52aa70c81dbe8a88527b515dff29b38e002400", func := "playpen/playpenlaw07.IsaWords", spec := "isaWords", apart := false }
def IsaWordsSaid : Prop := isaWordsRow.holds Try.pinned (OpenSpec.ofChange isaWordsSpec)

/-- ITS FALSE NEIGHBOUR: 'it returns false'. Refute it at one input. -/
def isaWordsWrong : ChangeSpec := { name := "isaWords", fn := fun _ => fun
  | [d1, d2] => { results := [.lit (.bool false)], args := [d1, d2] }
  | _ => none }
def IsaWordsWrongFalsely : Prop := isaWordsRow.holds Try.pinned (OpenSpec.ofChange isaWordsWrong)

/-- 'playpenlaw07.IsaCheck': WHATEVER THE INPUT: true; the input reads as it did. -/
def isaCheckSpec : ChangeSpec := { name := "isaCheck", fn := fun _ => fun
  | [d] => { results := [.lit (.bool true)], args := [d] }
  | _ => none }
def isaCheckRow : OpenClaim := { program := "ytdigcbkjlppenaa", sum := "186b87af799ee056f684b56eab52aa70c81dbe8a88527b515dff29b38e002400", func := "playpen/playpenlaw07.IsaCheck", spec := "isaCheck", apart := false }
def IsaCheckSaid : Prop := isaCheckRow.holds Try.pinned (OpenSpec.ofChange isaCheckSpec)

/-- ITS FALSE NEIGHBOUR: 'it returns false'. Refute it at one input. -/
def isaCheckWrong : ChangeSpec := { name := "isaCheck", fn := fun _ => fun
  | [d] => { results := [.lit (.bool false)], args := [d] }
  | _ => none }
def IsaCheckWrongFalsely : Prop := isaCheckRow.holds Try.pinned (OpenSpec.ofChange isaCheckWrong)

/-- 'playpenlaw07.IsaWalk': WHATEVER THE INPUT: true; the input reads as it did. -/
def isaWalkSpec : ChangeSpec := { name := "isaWalk", fn := fun _ => fun
  | [d1, d2] => { results := [.lit (.bool true)], args := [d1, d2] }
  | _ => none }
def isaWalkRow : OpenClaim := { program := "ytdigcbkjlppenaa", sum := "186b87af799ee056f684b56eab52aa70c81dbe8a88527b515dff29b38e002400", func := "playpen/playpenlaw07.IsaWalk", spec := "isaWalk", unfollowed := true, recurses := true, apart := false }
def IsaWalkSaid : Prop := isaWalkRow.holds Try.pinned (OpenSpec.ofChange isaWalkSpec)

/-- ITS FALSE NEIGHBOUR: 'it returns false'. Refute it at one input. -/
def isaWalkWrong : ChangeSpec := { name := "isaWalk", fn := fun _ => fun
  | [d1, d2] => { results := [.lit (.bool false)], args := [d1, d2] }
  | _ => none }
def IsaWalkWrongFalsely : Prop := isaWalkRow.holds Try.pinned (OpenSpec.ofChange isaWalkWrong)

/-- 'playpenlaw07.IsaDecode': WHATEVER THE INPUT: true; the input reads as it did. -/
def isaDecodeSpec : ChangeSpec := { name := "isaDecode", fn := fun _ => fun
  | [d1, d2] => { results := [.lit (.bool true)], args := [d1, d2] }
  | _ => none }
def isaDecodeRow : OpenClaim := { program := "ytdigcbkjlppenaa", sum := "186b87af799ee056f684b56eab52aa70c81dbe8a88527b515dff29b38e002400", func := "playpen/playpenlaw07.IsaDecode", spec := "isaDecode", unfollowed := true, recurses := true, apart := false }
def IsaDecodeSaid : Prop := isaDecodeRow.holds Try.pinned (OpenSpec.ofChange isaDecodeSpec)

/-- ITS FALSE NEIGHBOUR: 'it returns false'. Refute it at one input. -/
def isaDecodeWrong : ChangeSpec := { name := "isaDecode", fn := fun _ => fun
  | [d1, d2] => { results := [.lit (.bool false)], args := [d1, d2] }
  | _ => none }
def IsaDecodeWrongFalsely : Prop := isaDecodeRow.holds Try.pinned (OpenSpec.ofChange isaDecodeWrong)

/-- 'playpenlaw07.IsaEncode': WHATEVER THE INPUT: true; the input reads as it did. -/
def isaEncodeSpec : ChangeSpec := { name := "isaEncode", fn := fun _ => fun
  | [d1, d2] => { results := [.lit (.bool true)], args := [d1, d2] }
  | _ => none }
def isaEncodeRow : OpenClaim := { program := "ytdigcbkjlppenaa", sum := "186b87af799ee056f684b56eab52aa70c81dbe8a88527b515dff29b38e002400", func := "playpen/playpenlaw07.IsaEncode", spec := "isaEncode", apart := false }
def IsaEncodeSaid : Prop := isaEncodeRow.holds Try.pinned (OpenSpec.ofChange isaEncodeSpec)

/-- ITS FALSE NEIGHBOUR: 'it returns false'. Refute it at one input. -/
def isaEncodeWrong : ChangeSpec := { name := "isaEncode", fn := fun _ => fun
  | [d1, d2] => { results := [.lit (.bool false)], args := [d1, d2] }
  | _ => none }
def IsaEncodeWrongFalsely : Prop := isaEncodeRow.holds Try.pinned (OpenSpec.ofChange isaEncodeWrong)

/-- 'playpenlaw07.IsaJoins': WHATEVER THE INPUT: true; the input reads as it did. -/
def isaJoinsSpec : ChangeSpec := { name := "isaJoins", fn := fun _ => fun
  | [d1, d2] => { results := [.lit (.bool true)], args := [d1, d2] }
  | _ => none }
def isaJoinsRow : OpenClaim := { program := "ytdigcbkjlppenaa", sum := "186b87af799ee056f684b56eab52aa70c81dbe8a88527b515dff29b38e002400", func := "playpen/playpenlaw07.IsaJoins", spec := "isaJoins", apart := false }
def IsaJoinsSaid : Prop := isaJoinsRow.holds Try.pinned (OpenSpec.ofChange isaJoinsSpec)

/-- ITS FALSE NEIGHBOUR: 'it returns false'. Refute it at one input. -/
def isaJoinsWrong : ChangeSpec := { name := "isaJoins", fn := fun _ => fun
  | [d1, d2] => { results := [.lit (.bool false)], args := [d1, d2] }
  | _ => none }
def IsaJoinsWrongFalsely : Prop := isaJoinsRow.holds Try.pinned (OpenSpec.ofChange isaJoinsWrong)

/-- 'playpenlaw07.IsaPlaces': WHATEVER THE INPUT: true; the input reads as it did. -/
def isaPlacesSpec : ChangeSpec := { name := "isaPlaces", fn := fun _ => fun
  | [d] => { results := [.lit (.bool true)], args := [d] }
  | _ => none }
def isaPlacesRow : OpenClaim := { program := "ytdigcbkjlppenaa", sum := "186b87af799ee056f684b56eab52aa70c81dbe8a88527b515dff29b38e002400", func := "playpen/playpenlaw07.IsaPlaces", spec := "isaPlaces", apart := false }
def IsaPlacesSaid : Prop := isaPlacesRow.holds Try.pinned (OpenSpec.ofChange isaPlacesSpec)

/-- ITS FALSE NEIGHBOUR: 'it returns false'. Refute it at one input. -/
def isaPlacesWrong : ChangeSpec := { name := "isaPlaces", fn := fun _ => fun
  | [d] => { results := [.lit (.bool false)], args := [d] }
  | _ => none }
def IsaPlacesWrongFalsely : Prop := isaPlacesRow.holds Try.pinned (OpenSpec.ofChange isaPlacesWrong)

/-- 'playpenlaw07.IsaBack': WHATEVER THE INPUT: true; the input reads as it did. -/
def isaBackSpec : ChangeSpec := { name := "isaBack", fn := fun _ => fun
  | [d] => { results := [.lit (.bool true)], args := [d] }
  | _ => none }
def isaBackRow : OpenClaim := { program := "ytdigcbkjlppenaa", sum := "186b87af799ee056f684b56eab52aa70c81dbe8a88527b515dff29b38e002400", func := "playpen/playpenlaw07.IsaBack", spec := "isaBack", unfollowed := true, recurses := true, apart := false }
def IsaBackSaid : Prop := isaBackRow.holds Try.pinned (OpenSpec.ofChange isaBackSpec)

/-- ITS FALSE NEIGHBOUR: 'it returns false'. Refute it at one input. -/
def isaBackWrong : ChangeSpec := { name := "isaBack", fn := fun _ => fun
  | [d] => { results := [.lit (.bool false)], args := [d] }
  | _ => none }
def IsaBackWrongFalsely : Prop := isaBackRow.holds Try.pinned (OpenSpec.ofChange isaBackWrong)

/-- 'playpenlaw07.IsaOneWay': WHATEVER THE INPUT: true; the input reads as it did. -/
def isaOneWaySpec : ChangeSpec := { name := "isaOneWay", fn := fun _ => fun
  | [d1, d2] => { results := [.lit (.bool true)], args := [d1, d2] }
  | _ => none }
def isaOneWayRow : OpenClaim := { program := "ytdigcbkjlppenaa", sum := "186b87af799ee056f684b56eab52aa70c81dbe8a88527b515dff29b38e002400", func := "playpen/playpenlaw07.IsaOneWay", spec := "isaOneWay", unfollowed := true, recurses := true, apart := false }
def IsaOneWaySaid : Prop := isaOneWayRow.holds Try.pinned (OpenSpec.ofChange isaOneWaySpec)

/-- ITS FALSE NEIGHBOUR: 'it returns false'. Refute it at one input. -/
def isaOneWayWrong : ChangeSpec := { name := "isaOneWay", fn := fun _ => fun
  | [d1, d2] => { results := [.lit (.bool false)], args := [d1, d2] }
  | _ => none }
def IsaOneWayWrongFalsely : Prop := isaOneWayRow.holds Try.pinned (OpenSpec.ofChange isaOneWayWrong)

/-- 'playpenlaw07.IsaKnown': WHATEVER THE INPUT: true; the input reads as it did. -/
def isaKnownSpec : ChangeSpec := { name := "isaKnown", fn := fun _ => fun
  | [] => { results := [.lit (.bool true)], args := [] }
  | _ => none }
def isaKnownRow : OpenClaim := { program := "ytdigcbkjlppenaa", sum := "186b87af799ee056f684b56eab52aa70c81dbe8a88527b515dff29b38e002400", func := "playpen/playpenlaw07.IsaKnown", spec := "isaKnown", unfollowed := true, recurses := true, apart := false }
def IsaKnownSaid : Prop := isaKnownRow.holds Try.pinned (OpenSpec.ofChange isaKnownSpec)

/-- ITS FALSE NEIGHBOUR: 'it returns false'. Refute it at one input. -/
def isaKnownWrong : ChangeSpec := { name := "isaKnown", fn := fun _ => fun
  | [] => { results := [.lit (.bool false)], args := [] }
  | _ => none }
def IsaKnownWrongFalsely : Prop := isaKnownRow.holds Try.pinned (OpenSpec.ofChange isaKnownWrong)

/- THE SECOND FORM. 'bulk': how many values and letters a reading holds, each counted each time it is reached (what is shared counts as often as it is met; a slice's spare places count too). A statement '..UptoSaid' is the law's where the arguments, and the package variables that the reading takes, are together of bulk at most 1048576: NARROWER than '..Said'. Prove '..Said' where nothing that the law and all that it calls make is longer than what came in: it says more and counts as full. Else prove '..UptoSaid'. A law counts once. -/
mutual
def uptoBulk {H : Type} : DataW H → Nat
  | .lit (.string bytes) => bytes.length + 1
  | .lit _ => 1
  | .nil => 1
  | .ptr d => uptoBulk d + 1
  | .slice elems spare => uptoBulkAll elems + uptoBulkAll spare + 1
  | .agg parts => uptoBulkAll parts + 1
  | .iface _ d => uptoBulk d + 1
  | .map entries => uptoBulkEntries entries + 1
  | .held _ => 1
def uptoBulkAll {H : Type} : List (DataW H) → Nat
  | [] => 0
  | d :: r => uptoBulk d + uptoBulkAll r
def uptoBulkEntries {H : Type} : List (Lit × DataW H) → Nat
  | [] => 0
  | x :: r => uptoBulkEntry x + uptoBulkEntries r
def uptoBulkEntry {H : Type} : Lit × DataW H → Nat
  | (.string bytes, d) => bytes.length + uptoBulk d + 1
  | (_, d) => uptoBulk d + 1
 end
def uptoSmall : (H : Type) → List (DataW H) → Bool := fun _ ds => decide (uptoBulkAll ds ≤ 1048576)
def OpenSpec.upto (s : _root_.Go.ChangeSpec) : _root_.Go.OpenSpec := { _root_.Go.OpenSpec.ofChange s with cond := some uptoSmall }

/-- 'playpenlaw20.SaveNames', WHERE WHAT IT READS IS OF BULK AT MOST 1048576: true; the input reads as it did. -/
def saveNamesUptoRow : OpenClaim := { program := "ytdigcbkjlppenaa", sum := "186b87af799ee056f684b56eab52aa70c81dbe8a88527b515dff29b38e002400", func := "playpen/playpenlaw20.SaveNames", spec := "saveNames", apart := false, narrowed := true }
def SaveNamesUptoSaid : Prop := saveNamesUptoRow.holds Try.pinned (OpenSpec.upto saveNamesSpec)

/-- 'playpenlaw26.WatchNames', WHERE WHAT IT READS IS OF BULK AT MOST 1048576: true; the input reads as it did. -/
def watchNamesUptoRow : OpenClaim := { program := "ytdigcbkjlppenaa", sum := "186b87af799ee056f684b56eab52aa70c81dbe8a88527b515dff29b38e002400", func := "playpen/playpenlaw26.WatchNames", spec := "watchNames", apart := false, narrowed := true }
def WatchNamesUptoSaid : Prop := watchNamesUptoRow.holds Try.pinned (OpenSpec.upto watchNamesSpec)

/-- 'playpenlaw07.IsaInfo', WHERE WHAT IT READS IS OF BULK AT MOST 1048576: true; the input reads as it did. -/
def isaInfoUptoRow : OpenClaim := { program := "ytdigcbkjlppenaa", sum := "186b87af799ee056f684b56eab52aa70c81dbe8a88527b515dff29b38e002400", func := "playpen/playpenlaw07.IsaInfo", spec := "isaInfo", apart := false, narrowed := true }
def IsaInfoUptoSaid : Prop := isaInfoUptoRow.holds Try.pinned (OpenSpec.upto isaInfoSpec)

/-- 'playpenlaw07.IsaWord', WHERE WHAT IT READS IS OF BULK AT MOST 1048576: true; the input reads as it did. -/
def isaWordUptoRow : OpenClaim := { program := "ytdigcbkjlppenaa", sum := "186b87af799ee056f684b56eab52aa70c81dbe8a88527b515dff29b38e002400", func := "playpen/playpenlaw07.IsaWord", spec := "isaWord", apart := false, narrowed := true }
def IsaWordUptoSaid : Prop := isaWordUptoRow.holds Try.pinned (OpenSpec.upto isaWordSpec)

/-- 'playpenlaw07.IsaWords', WHERE WHAT IT READS IS OF BULK AT MOST 1048576: true; the input reads as it did. -/
def isaWordsUptoRow : OpenClaim := { program := "ytdigcbkjlppenaa", sum := "186b87af799ee056f684b56eab52aa70c81dbe8a88527b515dff29b38e002400", func := "playpen/playpenlaw07.IsaWords", spec := "isaWords", apart := false, narrowed := true }
def IsaWordsUptoSaid : Prop := isaWordsUptoRow.holds Try.pinned (OpenSpec.upto isaWordsSpec)

/-- 'playpenlaw07.IsaCheck', WHERE WHAT IT READS IS OF BULK AT MOST 1048576: true; the input reads as it did. -/
def isaCheckUptoRow : OpenClaim := { program := "ytdigcbkjlppenaa", sum := "186b87af799ee056f684b56eab52aa70c81dbe8a88527b515dff29b38e002400", func := "playpen/playpenlaw07.IsaCheck", spec := "isaCheck", apart := false, narrowed := true }
def IsaCheckUptoSaid : Prop := isaCheckUptoRow.holds Try.pinned (OpenSpec.upto isaCheckSpec)

/-- 'playpenlaw07.IsaWalk', WHERE WHAT IT READS IS OF BULK AT MOST 1048576: true; the input reads as it did. -/
def isaWalkUptoRow : OpenClaim := { program := "ytdigcbkjlppenaa", sum := "186b87af799ee056f684b56eab52aa70c81dbe8a88527b515dff29b38e002400", func := "playpen/playpenlaw07.IsaWalk", spec := "isaWalk", unfollowed := true, recurses := true, apart := false, narrowed := true }
def IsaWalkUptoSaid : Prop := isaWalkUptoRow.holds Try.pinned (OpenSpec.upto isaWalkSpec)

/-- 'playpenlaw07.IsaDecode', WHERE WHAT IT READS IS OF BULK AT MOST 1048576: true; the input reads as it did. -/
def isaDecodeUptoRow : OpenClaim := { program := "ytdigcbkjlppenaa", sum := "186b87af799ee056f684b56eab52aa70c81dbe8a88527b515dff29b38e002400", func := "playpen/playpenlaw07.IsaDecode", spec := "isaDecode", unfollowed := true, recurses := true, apart := false, narrowed := true }
def IsaDecodeUptoSaid : Prop := isaDecodeUptoRow.holds Try.pinned (OpenSpec.upto isaDecodeSpec)

/-- 'playpenlaw07.IsaEncode', WHERE WHAT IT READS IS OF BULK AT MOST 1048576: true; the input reads as it did. -/
def isaEncodeUptoRow : OpenClaim := { program := "ytdigcbkjlppenaa", sum := "186b87af799ee056f684b56eab52aa70c81dbe8a88527b515dff29b38e002400", func := "playpen/playpenlaw07.IsaEncode", spec := "isaEncode", apart := false, narrowed := true }
def IsaEncodeUptoSaid : Prop := isaEncodeUptoRow.holds Try.pinned (OpenSpec.upto isaEncodeSpec)

/-- 'playpenlaw07.IsaJoins', WHERE WHAT IT READS IS OF BULK AT MOST 1048576: true; the input reads as it did. -/
def isaJoinsUptoRow : OpenClaim := { program := "ytdigcbkjlppenaa", sum := "186b87af799ee056f684b56eab52aa70c81dbe8a88527b515dff29b38e002400", func := "playpen/playpenlaw07.IsaJoins", spec := "isaJoins", apart := false, narrowed := true }
def IsaJoinsUptoSaid : Prop := isaJoinsUptoRow.holds Try.pinned (OpenSpec.upto isaJoinsSpec)

/-- 'playpenlaw07.IsaPlaces', WHERE WHAT IT READS IS OF BULK AT MOST 1048576: true; the input reads as it did. -/
def isaPlacesUptoRow : OpenClaim := { program := "ytdigcbkjlppenaa", sum := "186b87af799ee056f684b56eab52aa70c81dbe8a88527b515dff29b38e002400", func := "playpen/playpenlaw07.IsaPlaces", spec := "isaPlaces", apart := false, narrowed := true }
def IsaPlacesUptoSaid : Prop := isaPlacesUptoRow.holds Try.pinned (OpenSpec.upto isaPlacesSpec)

/-- 'playpenlaw07.IsaBack', WHERE WHAT IT READS IS OF BULK AT MOST 1048576: true; the input reads as it did. -/
def isaBackUptoRow : OpenClaim := { program := "ytdigcbkjlppenaa", sum := "186b87af799ee056f684b56eab52aa70c81dbe8a88527b515dff29b38e002400", func := "playpen/playpenlaw07.IsaBack", spec := "isaBack", unfollowed := true, recurses := true, apart := false, narrowed := true }
def IsaBackUptoSaid : Prop := isaBackUptoRow.holds Try.pinned (OpenSpec.upto isaBackSpec)

/-- 'playpenlaw07.IsaOneWay', WHERE WHAT IT READS IS OF BULK AT MOST 1048576: true; the input reads as it did. -/
def isaOneWayUptoRow : OpenClaim := { program := "ytdigcbkjlppenaa", sum := "186b87af799ee056f684b56eab52aa70c81dbe8a88527b515dff29b38e002400", func := "playpen/playpenlaw07.IsaOneWay", spec := "isaOneWay", unfollowed := true, recurses := true, apart := false, narrowed := true }
def IsaOneWayUptoSaid : Prop := isaOneWayUptoRow.holds Try.pinned (OpenSpec.upto isaOneWaySpec)

/-- 'playpenlaw07.IsaKnown', WHERE WHAT IT READS IS OF BULK AT MOST 1048576: true; the input reads as it did. -/
def isaKnownUptoRow : OpenClaim := { program := "ytdigcbkjlppenaa", sum := "186b87af799ee056f684b56eab52aa70c81dbe8a88527b515dff29b38e002400", func := "playpen/playpenlaw07.IsaKnown", spec := "isaKnown", unfollowed := true, recurses := true, apart := false, narrowed := true }
def IsaKnownUptoSaid : Prop := isaKnownUptoRow.holds Try.pinned (OpenSpec.upto isaKnownSpec)

end Rows
end Go.Proofs.Ytdigcbkjlppenaa
