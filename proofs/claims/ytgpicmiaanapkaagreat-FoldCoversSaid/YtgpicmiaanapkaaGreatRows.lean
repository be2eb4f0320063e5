/-
  No cell of these rows narrows 'for every input' (looked for: loops, veiled, ifaces, maps, wideKeys, modest, calm, conditions, laid).
  DERIVED. THE GIVEN ROWS OF THIS SEAT. 19 by the template 'for every input the law returns true; each argument reads behind the call as it read before'; 0 by the template 'total and deterministic' (their statements: YtgpicmiaanapkaaGreatTotals.lean).
  GIVEN WITH THE SEED: the statements are not yours to turn. If you find one false, say at which input.
  Laid BY PROGRAM, IN A SANDBOX (cutbox-rows.mjs): the forced cells as the released guide's own fill.sh prints them over the translation c453ef1eb6d1201f… (all of the seat's roots in one cut). By AI agents, Wed Nov 11 2026. No macro, syntax, notation, axiom, sorry.
-/
import Derived.Test.YtgpicmiaanapkaaGreatChecked
import GoSem.Claim
import GoSem.ClaimJoined
import GoSem.ClaimMapViews
import Derived.JoinedTies
import Derived.KernelRfl
namespace Go.Proofs.YtgpicmiaanapkaaGreat
/- THE CELL 'sum', in the pinned program and in every row, IS THE sha256 OF THE DUMP (.gsa) THAT YtgpicmiaanapkaaGreatProg.lean LOADS. Nothing in Lean hashes anything: it is a label: what it is worth is what the hold of that sum in a sandbox is worth. -/
noncomputable def Tryz.pinned : Pinned := { name := "ytgpicmiaanapkaagreat", sum := "c453ef1eb6d1201fa61f3a9a107b49c788d4856cb5c9768f5dc14df9b8e6e218", checked := Tryz.checked }
namespace Rows
def none {H : Type} : Left H := { results := [], args := [] }

/-- 'playpentop.TopCanonical': WHATEVER THE INPUT: true; the input reads as it did. -/
def topCanonicalSpec : ChangeSpec := { name := "topCanonical", fn := fun _ => fun
  | [d1, d2] => { results := [.lit (.bool true)], args := [d1, d2] }
  | _ => none }
def topCanonicalRow : OpenClaim := { program := "ytgpicmiaanapkaagreat", sum := "c453ef1eb6d1201fa61f3a9a107b49c788d4856cb5c9768f5dc14df9b8e6e218", func := "playpen/playpentop.TopCanonical", spec := "topCanonical", inPlace := ["math.Float32bits", "math.Float32frombits"], unfollowed := true, recurses := true, apart := false }
def TopCanonicalSaid : Prop := topCanonicalRow.holds Tryz.pinned (OpenSpec.ofChange topCanonicalSpec)

/-- ITS FALSE NEIGHBOUR: 'it returns false'. Refute it at one input. -/
def topCanonicalWrong : ChangeSpec := { name := "topCanonical", fn := fun _ => fun
  | [d1, d2] => { results := [.lit (.bool false)], args := [d1, d2] }
  | _ => none }
def TopCanonicalWrongFalsely : Prop := topCanonicalRow.holds Tryz.pinned (OpenSpec.ofChange topCanonicalWrong)

/-- 'playpentop.TopSaved': WHATEVER THE INPUT: true; the input reads as it did. -/
def topSavedSpec : ChangeSpec := { name := "topSaved", fn := fun _ => fun
  | [d] => { results := [.lit (.bool true)], args := [d] }
  | _ => none }
def topSavedRow : OpenClaim := { program := "ytgpicmiaanapkaagreat", sum := "c453ef1eb6d1201fa61f3a9a107b49c788d4856cb5c9768f5dc14df9b8e6e218", func := "playpen/playpentop.TopSaved", spec := "topSaved", inPlace := ["math.Float32bits", "math.Float32frombits"], unfollowed := true, recurses := true, apart := false }
def TopSavedSaid : Prop := topSavedRow.holds Tryz.pinned (OpenSpec.ofChange topSavedSpec)

/-- ITS FALSE NEIGHBOUR: 'it returns false'. Refute it at one input. -/
def topSavedWrong : ChangeSpec := { name := "topSaved", fn := fun _ => fun
  | [d] => { results := [.lit (.bool false)], args := [d] }
  | _ => none }
def TopSavedWrongFalsely : Prop := topSavedRow.holds Tryz.pinned (OpenSpec.ofChange topSavedWrong)

/-- 'playpenlaw20.SaveShort': WHATEVER THE INPUT: true; the input reads as it did. -/
def saveShortSpec : ChangeSpec := { name := "saveShort", fn := fun _ => fun
  | [d1, d2, d3] => { results := [.lit (.bool true)], args := [d1, d2, d3] }
  | _ => none }
def saveShortRow : OpenClaim := { program := "ytgpicmiaanapkaagreat", sum := "c453ef1eb6d1201fa61f3a9a107b49c788d4856cb5c9768f5dc14df9b8e6e218", func := "playpen/playpenlaw20.SaveShort", spec := "saveShort", unfollowed := true, recurses := true, apart := false }
def SaveShortSaid : Prop := saveShortRow.holds Tryz.pinned (OpenSpec.ofChange saveShortSpec)

/-- ITS FALSE NEIGHBOUR: 'it returns false'. Refute it at one input. -/
def saveShortWrong : ChangeSpec := { name := "saveShort", fn := fun _ => fun
  | [d1, d2, d3] => { results := [.lit (.bool false)], args := [d1, d2, d3] }
  | _ => none }
def SaveShortWrongFalsely : Prop := saveShortRow.holds Tryz.pinned (OpenSpec.ofChange saveShortWrong)

/-- 'playpenlaw20.SaveCalls': WHATEVER THE INPUT: true; the input reads as it did. -/
def saveCallsSpec : ChangeSpec := { name := "saveCalls", fn := fun _ => fun
  | [d1, d2] => { results := [.lit (.bool true)], args := [d1, d2] }
  | _ => none }
def saveCallsRow : OpenClaim := { program := "ytgpicmiaanapkaagreat", sum := "c453ef1eb6d1201fa61f3a9a107b49c788d4856cb5c9768f5dc14df9b8e6e218", func := "playpen/playpenlaw20.SaveCalls", spec := "saveCalls", unfollowed := true, recurses := true, apart := false }
def SaveCallsSaid : Prop := saveCallsRow.holds Tryz.pinned (OpenSpec.ofChange saveCallsSpec)

/-- ITS FALSE NEIGHBOUR: 'it returns false'. Refute it at one input. -/
def saveCallsWrong : ChangeSpec := { name := "saveCalls", fn := fun _ => fun
  | [d1, d2] => { results := [.lit (.bool false)], args := [d1, d2] }
  | _ => none }
def SaveCallsWrongFalsely : Prop := saveCallsRow.holds Tryz.pinned (OpenSpec.ofChange saveCallsWrong)

/-- 'playpenlaw20.SaveBack': WHATEVER THE INPUT: true; the input reads as it did. -/
def saveBackSpec : ChangeSpec := { name := "saveBack", fn := fun _ => fun
  | [d1, d2, d3] => { results := [.lit (.bool true)], args := [d1, d2, d3] }
  | _ => none }
def saveBackRow : OpenClaim := { program := "ytgpicmiaanapkaagreat", sum := "c453ef1eb6d1201fa61f3a9a107b49c788d4856cb5c9768f5dc14df9b8e6e218", func := "playpen/playpenlaw20.SaveBack", spec := "saveBack", unfollowed := true, recurses := true, apart := false }
def SaveBackSaid : Prop := saveBackRow.holds Tryz.pinned (OpenSpec.ofChange saveBackSpec)

/-- ITS FALSE NEIGHBOUR: 'it returns false'. Refute it at one input. -/
def saveBackWrong : ChangeSpec := { name := "saveBack", fn := fun _ => fun
  | [d1, d2, d3] => { results := [.lit (.bool false)], args := [d1, d2, d3] }
  | _ => none }
def SaveBackWrongFalsely : Prop := saveBackRow.holds Tryz.pinned (OpenSpec.ofChange saveBackWrong)

/-- 'playpenlaw20.SaveOnly': WHATEVER THE INPUT: true; the input reads as it did. -/
def saveOnlySpec : ChangeSpec := { name := "saveOnly", fn := fun _ => fun
  | [d1, d2, d3] => { results := [.lit (.bool true)], args := [d1, d2, d3] }
  | _ => none }
def saveOnlyRow : OpenClaim := { program := "ytgpicmiaanapkaagreat", sum := "c453ef1eb6d1201fa61f3a9a107b49c788d4856cb5c9768f5dc14df9b8e6e218", func := "playpen/playpenlaw20.SaveOnly", spec := "saveOnly", unfollowed := true, recurses := true, apart := false }
def SaveOnlySaid : Prop := saveOnlyRow.holds Tryz.pinned (OpenSpec.ofChange saveOnlySpec)

/-- ITS FALSE NEIGHBOUR: 'it returns false'. Refute it at one input. -/
def saveOnlyWrong : ChangeSpec := { name := "saveOnly", fn := fun _ => fun
  | [d1, d2, d3] => { results := [.lit (.bool false)], args := [d1, d2, d3] }
  | _ => none }
def SaveOnlyWrongFalsely : Prop := saveOnlyRow.holds Tryz.pinned (OpenSpec.ofChange saveOnlyWrong)

/-- 'playpenlaw20.SaveTurned': WHATEVER THE INPUT: true; the input reads as it did. -/
def saveTurnedSpec : ChangeSpec := { name := "saveTurned", fn := fun _ => fun
  | [d1, d2, d3, d4] => { results := [.lit (.bool true)], args := [d1, d2, d3, d4] }
  | _ => none }
def saveTurnedRow : OpenClaim := { program := "ytgpicmiaanapkaagreat", sum := "c453ef1eb6d1201fa61f3a9a107b49c788d4856cb5c9768f5dc14df9b8e6e218", func := "playpen/playpenlaw20.SaveTurned", spec := "saveTurned", unfollowed := true, recurses := true, apart := false }
def SaveTurnedSaid : Prop := saveTurnedRow.holds Tryz.pinned (OpenSpec.ofChange saveTurnedSpec)

/-- ITS FALSE NEIGHBOUR: 'it returns false'. Refute it at one input. -/
def saveTurnedWrong : ChangeSpec := { name := "saveTurned", fn := fun _ => fun
  | [d1, d2, d3, d4] => { results := [.lit (.bool false)], args := [d1, d2, d3, d4] }
  | _ => none }
def SaveTurnedWrongFalsely : Prop := saveTurnedRow.holds Tryz.pinned (OpenSpec.ofChange saveTurnedWrong)

/-- 'playpenlaw21.FoldPieces': WHATEVER THE INPUT: true; the input reads as it did. -/
def foldPiecesSpec : ChangeSpec := { name := "foldPieces", fn := fun _ => fun
  | [d] => { results := [.lit (.bool true)], args := [d] }
  | _ => none }
def foldPiecesRow : OpenClaim := { program := "ytgpicmiaanapkaagreat", sum := "c453ef1eb6d1201fa61f3a9a107b49c788d4856cb5c9768f5dc14df9b8e6e218", func := "playpen/playpenlaw21.FoldPieces", spec := "foldPieces", inPlace := ["math.Float32frombits", "math.Float32bits"], unfollowed := true, recurses := true, apart := false }
def FoldPiecesSaid : Prop := foldPiecesRow.holds Tryz.pinned (OpenSpec.ofChange foldPiecesSpec)

/-- ITS FALSE NEIGHBOUR: 'it returns false'. Refute it at one input. -/
def foldPiecesWrong : ChangeSpec := { name := "foldPieces", fn := fun _ => fun
  | [d] => { results := [.lit (.bool false)], args := [d] }
  | _ => none }
def FoldPiecesWrongFalsely : Prop := foldPiecesRow.holds Tryz.pinned (OpenSpec.ofChange foldPiecesWrong)

/-- 'playpenlaw21.FoldCovers': WHATEVER THE INPUT: true; the input reads as it did. -/
def foldCoversSpec : ChangeSpec := { name := "foldCovers", fn := fun _ => fun
  | [d] => { results := [.lit (.bool true)], args := [d] }
  | _ => none }
def foldCoversRow : OpenClaim := { program := "ytgpicmiaanapkaagreat", sum := "c453ef1eb6d1201fa61f3a9a107b49c788d4856cb5c9768f5dc14df9b8e6e218", func := "playpen/playpenlaw21.FoldCovers", spec := "foldCovers", inPlace := ["math.Float32frombits", "math.Float32bits"], unfollowed := true, recurses := true, apart := false }
def FoldCoversSaid : Prop := foldCoversRow.holds Tryz.pinned (OpenSpec.ofChange foldCoversSpec)

/-- ITS FALSE NEIGHBOUR: 'it returns false'. Refute it at one input. -/
def foldCoversWrong : ChangeSpec := { name := "foldCovers", fn := fun _ => fun
  | [d] => { results := [.lit (.bool false)], args := [d] }
  | _ => none }
def FoldCoversWrongFalsely : Prop := foldCoversRow.holds Tryz.pinned (OpenSpec.ofChange foldCoversWrong)

/-- 'playpenlaw19.RunCut': WHATEVER THE INPUT: true; the input reads as it did. -/
def runCutSpec : ChangeSpec := { name := "runCut", fn := fun _ => fun
  | [d1, d2, d3, d4, d5, d6] => { results := [.lit (.bool true)], args := [d1, d2, d3, d4, d5, d6] }
  | _ => none }
def runCutRow : OpenClaim := { program := "ytgpicmiaanapkaagreat", sum := "c453ef1eb6d1201fa61f3a9a107b49c788d4856cb5c9768f5dc14df9b8e6e218", func := "playpen/playpenlaw19.RunCut", spec := "runCut", inPlace := ["math.Float32bits", "math.Float32frombits"], unfollowed := true, recurses := true, apart := false }
def RunCutSaid : Prop := runCutRow.holds Tryz.pinned (OpenSpec.ofChange runCutSpec)

/-- ITS FALSE NEIGHBOUR: 'it returns false'. Refute it at one input. -/
def runCutWrong : ChangeSpec := { name := "runCut", fn := fun _ => fun
  | [d1, d2, d3, d4, d5, d6] => { results := [.lit (.bool false)], args := [d1, d2, d3, d4, d5, d6] }
  | _ => none }
def RunCutWrongFalsely : Prop := runCutRow.holds Tryz.pinned (OpenSpec.ofChange runCutWrong)

/-- 'playpenlaw19.RunEnded': WHATEVER THE INPUT: true; the input reads as it did. -/
def runEndedSpec : ChangeSpec := { name := "runEnded", fn := fun _ => fun
  | [d1, d2, d3, d4, d5, d6, d7] => { results := [.lit (.bool true)], args := [d1, d2, d3, d4, d5, d6, d7] }
  | _ => none }
def runEndedRow : OpenClaim := { program := "ytgpicmiaanapkaagreat", sum := "c453ef1eb6d1201fa61f3a9a107b49c788d4856cb5c9768f5dc14df9b8e6e218", func := "playpen/playpenlaw19.RunEnded", spec := "runEnded", inPlace := ["math.Float32bits", "math.Float32frombits"], unfollowed := true, recurses := true, apart := false }
def RunEndedSaid : Prop := runEndedRow.holds Tryz.pinned (OpenSpec.ofChange runEndedSpec)

/-- ITS FALSE NEIGHBOUR: 'it returns false'. Refute it at one input. -/
def runEndedWrong : ChangeSpec := { name := "runEnded", fn := fun _ => fun
  | [d1, d2, d3, d4, d5, d6, d7] => { results := [.lit (.bool false)], args := [d1, d2, d3, d4, d5, d6, d7] }
  | _ => none }
def RunEndedWrongFalsely : Prop := runEndedRow.holds Tryz.pinned (OpenSpec.ofChange runEndedWrong)

/-- 'playpenlaw19.RunPlays': WHATEVER THE INPUT: true; the input reads as it did. -/
def runPlaysSpec : ChangeSpec := { name := "runPlays", fn := fun _ => fun
  | [d1, d2, d3] => { results := [.lit (.bool true)], args := [d1, d2, d3] }
  | _ => none }
def runPlaysRow : OpenClaim := { program := "ytgpicmiaanapkaagreat", sum := "c453ef1eb6d1201fa61f3a9a107b49c788d4856cb5c9768f5dc14df9b8e6e218", func := "playpen/playpenlaw19.RunPlays", spec := "runPlays", inPlace := ["math.Float32bits", "math.Float32frombits"], unfollowed := true, recurses := true, apart := false }
def RunPlaysSaid : Prop := runPlaysRow.holds Tryz.pinned (OpenSpec.ofChange runPlaysSpec)

/-- ITS FALSE NEIGHBOUR: 'it returns false'. Refute it at one input. -/
def runPlaysWrong : ChangeSpec := { name := "runPlays", fn := fun _ => fun
  | [d1, d2, d3] => { results := [.lit (.bool false)], args := [d1, d2, d3] }
  | _ => none }
def RunPlaysWrongFalsely : Prop := runPlaysRow.holds Tryz.pinned (OpenSpec.ofChange runPlaysWrong)

/-- 'playpenlaw19.RunKnown': WHATEVER THE INPUT: true; the input reads as it did. -/
def runKnownSpec : ChangeSpec := { name := "runKnown", fn := fun _ => fun
  | [] => { results := [.lit (.bool true)], args := [] }
  | _ => none }
def runKnownRow : OpenClaim := { program := "ytgpicmiaanapkaagreat", sum := "c453ef1eb6d1201fa61f3a9a107b49c788d4856cb5c9768f5dc14df9b8e6e218", func := "playpen/playpenlaw19.RunKnown", spec := "runKnown", inPlace := ["math.Float32bits", "math.Float32frombits"], unfollowed := true, recurses := true, apart := false }
def RunKnownSaid : Prop := runKnownRow.holds Tryz.pinned (OpenSpec.ofChange runKnownSpec)

/-- ITS FALSE NEIGHBOUR: 'it returns false'. Refute it at one input. -/
def runKnownWrong : ChangeSpec := { name := "runKnown", fn := fun _ => fun
  | [] => { results := [.lit (.bool false)], args := [] }
  | _ => none }
def RunKnownWrongFalsely : Prop := runKnownRow.holds Tryz.pinned (OpenSpec.ofChange runKnownWrong)

/-- 'playpenlaw19.RunContained': WHATEVER THE INPUT: true; the input reads as it did. -/
def runContainedSpec : ChangeSpec := { name := "runContained", fn := fun _ => fun
  | [d1, d2, d3, d4, d5] => { results := [.lit (.bool true)], args := [d1, d2, d3, d4, d5] }
  | _ => none }
def runContainedRow : OpenClaim := { program := "ytgpicmiaanapkaagreat", sum := "c453ef1eb6d1201fa61f3a9a107b49c788d4856cb5c9768f5dc14df9b8e6e218", func := "playpen/playpenlaw19.RunContained", spec := "runContained", inPlace := ["math.Float32bits", "math.Float32frombits"], unfollowed := true, recurses := true, apart := false }
def RunContainedSaid : Prop := runContainedRow.holds Tryz.pinned (OpenSpec.ofChange runContainedSpec)

/-- ITS FALSE NEIGHBOUR: 'it returns false'. Refute it at one input. -/
def runContainedWrong : ChangeSpec := { name := "runContained", fn := fun _ => fun
  | [d1, d2, d3, d4, d5] => { results := [.lit (.bool false)], args := [d1, d2, d3, d4, d5] }
  | _ => none }
def RunContainedWrongFalsely : Prop := runContainedRow.holds Tryz.pinned (OpenSpec.ofChange runContainedWrong)

/-- 'playpenlaw20.SaveGoesOn': WHATEVER THE INPUT: true; the input reads as it did. -/
def saveGoesOnSpec : ChangeSpec := { name := "saveGoesOn", fn := fun _ => fun
  | [d1, d2, d3] => { results := [.lit (.bool true)], args := [d1, d2, d3] }
  | _ => none }
def saveGoesOnRow : OpenClaim := { program := "ytgpicmiaanapkaagreat", sum := "c453ef1eb6d1201fa61f3a9a107b49c788d4856cb5c9768f5dc14df9b8e6e218", func := "playpen/playpenlaw20.SaveGoesOn", spec := "saveGoesOn", inPlace := ["math.Float32bits", "math.Float32frombits"], unfollowed := true, recurses := true, apart := false }
def SaveGoesOnSaid : Prop := saveGoesOnRow.holds Tryz.pinned (OpenSpec.ofChange saveGoesOnSpec)

/-- ITS FALSE NEIGHBOUR: 'it returns false'. Refute it at one input. -/
def saveGoesOnWrong : ChangeSpec := { name := "saveGoesOn", fn := fun _ => fun
  | [d1, d2, d3] => { results := [.lit (.bool false)], args := [d1, d2, d3] }
  | _ => none }
def SaveGoesOnWrongFalsely : Prop := saveGoesOnRow.holds Tryz.pinned (OpenSpec.ofChange saveGoesOnWrong)

/-- 'playpenlaw26.WatchFull': WHATEVER THE INPUT: true; the input reads as it did. -/
def watchFullSpec : ChangeSpec := { name := "watchFull", fn := fun _ => fun
  | [d1, d2, d3] => { results := [.lit (.bool true)], args := [d1, d2, d3] }
  | _ => none }
def watchFullRow : OpenClaim := { program := "ytgpicmiaanapkaagreat", sum := "c453ef1eb6d1201fa61f3a9a107b49c788d4856cb5c9768f5dc14df9b8e6e218", func := "playpen/playpenlaw26.WatchFull", spec := "watchFull", inPlace := ["math.Float32bits", "math.Float32frombits"], unfollowed := true, recurses := true, apart := false }
def WatchFullSaid : Prop := watchFullRow.holds Tryz.pinned (OpenSpec.ofChange watchFullSpec)

/-- ITS FALSE NEIGHBOUR: 'it returns false'. Refute it at one input. -/
def watchFullWrong : ChangeSpec := { name := "watchFull", fn := fun _ => fun
  | [d1, d2, d3] => { results := [.lit (.bool false)], args := [d1, d2, d3] }
  | _ => none }
def WatchFullWrongFalsely : Prop := watchFullRow.holds Tryz.pinned (OpenSpec.ofChange watchFullWrong)

/-- 'playpenlaw26.WatchTrails': WHATEVER THE INPUT: true; the input reads as it did. -/
def watchTrailsSpec : ChangeSpec := { name := "watchTrails", fn := fun _ => fun
  | [d1, d2, d3, d4] => { results := [.lit (.bool true)], args := [d1, d2, d3, d4] }
  | _ => none }
def watchTrailsRow : OpenClaim := { program := "ytgpicmiaanapkaagreat", sum := "c453ef1eb6d1201fa61f3a9a107b49c788d4856cb5c9768f5dc14df9b8e6e218", func := "playpen/playpenlaw26.WatchTrails", spec := "watchTrails", inPlace := ["math.Float32bits", "math.Float32frombits"], unfollowed := true, recurses := true, apart := false }
def WatchTrailsSaid : Prop := watchTrailsRow.holds Tryz.pinned (OpenSpec.ofChange watchTrailsSpec)

/-- ITS FALSE NEIGHBOUR: 'it returns false'. Refute it at one input. -/
def watchTrailsWrong : ChangeSpec := { name := "watchTrails", fn := fun _ => fun
  | [d1, d2, d3, d4] => { results := [.lit (.bool false)], args := [d1, d2, d3, d4] }
  | _ => none }
def WatchTrailsWrongFalsely : Prop := watchTrailsRow.holds Tryz.pinned (OpenSpec.ofChange watchTrailsWrong)

/-- 'playpenlaw26.WatchNothing': WHATEVER THE INPUT: true; the input reads as it did. -/
def watchNothingSpec : ChangeSpec := { name := "watchNothing", fn := fun _ => fun
  | [d1, d2, d3] => { results := [.lit (.bool true)], args := [d1, d2, d3] }
  | _ => none }
def watchNothingRow : OpenClaim := { program := "ytgpicmiaanapkaagreat", sum := "c453ef1eb6d1201fa61f3a9a107b49c788d4856cb5c9768f5dc14df9b8e6e218", func := "playpen/playpenlaw26.WatchNothing", spec := "watchNothing", inPlace := ["math.Float32bits", "math.Float32frombits"], unfollowed := true, recurses := true, apart := false }
def WatchNothingSaid : Prop := watchNothingRow.holds Tryz.pinned (OpenSpec.ofChange watchNothingSpec)

/-- ITS FALSE NEIGHBOUR: 'it returns false'. Refute it at one input. -/
def watchNothingWrong : ChangeSpec := { name := "watchNothing", fn := fun _ => fun
  | [d1, d2, d3] => { results := [.lit (.bool false)], args := [d1, d2, d3] }
  | _ => none }
def WatchNothingWrongFalsely : Prop := watchNothingRow.holds Tryz.pinned (OpenSpec.ofChange watchNothingWrong)

/-- 'playpenlaw26.WatchNone': WHATEVER THE INPUT: true; the input reads as it did. -/
def watchNoneSpec : ChangeSpec := { name := "watchNone", fn := fun _ => fun
  | [d1, d2] => { results := [.lit (.bool true)], args := [d1, d2] }
  | _ => none }
def watchNoneRow : OpenClaim := { program := "ytgpicmiaanapkaagreat", sum := "c453ef1eb6d1201fa61f3a9a107b49c788d4856cb5c9768f5dc14df9b8e6e218", func := "playpen/playpenlaw26.WatchNone", spec := "watchNone", inPlace := ["math.Float32bits", "math.Float32frombits"], unfollowed := true, recurses := true, apart := false }
def WatchNoneSaid : Prop := watchNoneRow.holds Tryz.pinned (OpenSpec.ofChange watchNoneSpec)

/-- ITS FALSE NEIGHBOUR: 'it returns false'. Refute it at one input. -/
def watchNoneWrong : ChangeSpec := { name := "watchNone", fn := fun _ => fun
  | [d1, d2] => { results := [.lit (.bool false)], args := [d1, d2] }
  | _ => none }
def WatchNoneWrongFalsely : Prop := watchNoneRow.holds Tryz.pinned (OpenSpec.ofChange watchNoneWrong)

/- THE SECOND FORM. 'bulk': how many values and letters a reading holds, each counted each time it is reached (what is shared counts as often as it is met; a slice's spare places count too). A statement '..UptoSaid' is the law's where the arguments, and the package variables that the reading takes, are together of bulk at most 1048576: NARROWER than '..Said'. Prove '..Said' where nothing that the law and all that it calls make is longer than what came in: it says more and counts as full. Else prove '..UptoSaid'. A law counts once. -/
mutual
def uptoBulk {H : Type} : DataW H → Nat
  | .lit (.string bytes) => bytes.length + 1
  | .lit _ => 1
  | .nil => 1
  | .ptr d => uptoBulk d + 1
  | .slice elems spare => uptoBulkAll elems + uptoBulkAll spare + 1
  | .agg parts => uptoBulkAll parts + 1
  | .iface _ d => uptoBulk d + 1
  | .map entries => uptoBulkEntries entries + 1
  | .held _ => 1
def uptoBulkAll {H : Type} : List (DataW H) → Nat
  | [] => 0
  | d :: r => uptoBulk d + uptoBulkAll r
def uptoBulkEntries {H : Type} : List (Lit × DataW H) → Nat
  | [] => 0
  | x :: r => uptoBulkEntry x + uptoBulkEntries r
def uptoBulkEntry {H : Type} : Lit × DataW H → Nat
  | (.string bytes, d) => bytes.length + uptoBulk d + 1
  | (_, d) => uptoBulk d + 1
 end
def uptoSmall : (H : Type) → List (DataW H) → Bool := fun _ ds => decide (uptoBulkAll ds ≤ 1048576)
def OpenSpec.upto (s : _root_.Go.ChangeSpec) : _root_.Go.OpenSpec := { _root_.Go.OpenSpec.ofChange s with cond := some uptoSmall }

/-- 'playpentop.TopCanonical', WHERE WHAT IT READS IS OF BULK AT MOST 1048576: true; the input reads as it did. -/
def topCanonicalUptoRow : OpenClaim := { program := "ytgpicmiaanapkaagreat", sum := "c453ef1eb6d1201fa61f3a9a107b49c788d4856cb5c9768f5dc14df9b8e6e218", func := "playpen/playpentop.TopCanonical", spec := "topCanonical", inPlace := ["math.Float32bits", "math.Float32frombits"], unfollowed := true, recurses := true, apart := false, narrowed := true }
def TopCanonicalUptoSaid : Prop := topCanonicalUptoRow.holds Tryz.pinned (OpenSpec.upto topCanonicalSpec)

/-- 'playpentop.TopSaved', WHERE WHAT IT READS IS OF BULK AT MOST 1048576: true; the input reads as it did. -/
def topSavedUptoRow : OpenClaim := { program := "ytgpicmiaanapkaagreat", sum := "c453ef1eb6d1201fa61f3a9a107b49c788d4856cb5c9768f5dc14df9b8e6e218", func := "playpen/playpentop.TopSaved", spec := "topSaved", inPlace := ["math.Float32bits", "math.Float32frombits"], unfollowed := true, recurses := true, apart := false, narrowed := true }
def TopSavedUptoSaid : Prop := topSavedUptoRow.holds Tryz.pinned (OpenSpec.upto topSavedSpec)

/-- 'playpenlaw20.SaveShort', WHERE WHAT IT READS IS OF BULK AT MOST 1048576: true; the input reads as it did. -/
def saveShortUptoRow : OpenClaim := { program := "ytgpicmiaanapkaagreat", sum := "c453ef1eb6d1201fa61f3a9a107b49c788d4856cb5c9768f5dc14df9b8e6e218", func := "playpen/playpenlaw20.SaveShort", spec := "saveShort", unfollowed := true, recurses := true, apart := false, narrowed := true }
def SaveShortUptoSaid : Prop := saveShortUptoRow.holds Tryz.pinned (OpenSpec.upto saveShortSpec)

/-- 'playpenlaw20.SaveCalls', WHERE WHAT IT READS IS OF BULK AT MOST 1048576: true; the input reads as it did. -/
def saveCallsUptoRow : OpenClaim := { program := "ytgpicmiaanapkaagreat", sum := "c453ef1eb6d1201fa61f3a9a107b49c788d4856cb5c9768f5dc14df9b8e6e218", func := "playpen/playpenlaw20.SaveCalls", spec := "saveCalls", unfollowed := true, recurses := true, apart := false, narrowed := true }
def SaveCallsUptoSaid : Prop := saveCallsUptoRow.holds Tryz.pinned (OpenSpec.upto saveCallsSpec)

/-- 'playpenlaw20.SaveBack', WHERE WHAT IT READS IS OF BULK AT MOST 1048576: true; the input reads as it did. -/
def saveBackUptoRow : OpenClaim := { program := "ytgpicmiaanapkaagreat", sum := "c453ef1eb6d1201fa61f3a9a107b49c788d4856cb5c9768f5dc14df9b8e6e218", func := "playpen/playpenlaw20.SaveBack", spec := "saveBack", unfollowed := true, recurses := true, apart := false, narrowed := true }
def SaveBackUptoSaid : Prop := saveBackUptoRow.holds Tryz.pinned (OpenSpec.upto saveBackSpec)

/-- 'playpenlaw20.SaveOnly', WHERE WHAT IT READS IS OF BULK AT MOST 1048576: true; the input reads as it did. -/
def saveOnlyUptoRow : OpenClaim := { program := "ytgpicmiaanapkaagreat", sum := "c453ef1eb6d1201fa61f3a9a107b49c788d4856cb5c9768f5dc14df9b8e6e218", func := "playpen/playpenlaw20.SaveOnly", spec := "saveOnly", unfollowed := true, recurses := true, apart := false, narrowed := true }
def SaveOnlyUptoSaid : Prop := saveOnlyUptoRow.holds Tryz.pinned (OpenSpec.upto saveOnlySpec)

/-- 'playpenlaw20.SaveTurned', WHERE WHAT IT READS IS OF BULK AT MOST 1048576: true; the input reads as it did. -/
def saveTurnedUptoRow : OpenClaim := { program := "ytgpicmiaanapkaagreat", sum := "c453ef1eb6d1201fa61f3a9a107b49c788d4856cb5c9768f5dc14df9b8e6e218", func := "playpen/playpenlaw20.SaveTurned", spec := "saveTurned", unfollowed := true, recurses := true, apart := false, narrowed := true }
def SaveTurnedUptoSaid : Prop := saveTurnedUptoRow.holds Tryz.pinned (OpenSpec.upto saveTurnedSpec)

/-- 'playpenlaw21.FoldPieces', WHERE WHAT IT READS IS OF BULK AT MOST 1048576: true; the input reads as it did. -/
def foldPiecesUptoRow : OpenClaim := { program := "ytgpicmiaanapkaagreat", sum := "c453ef1eb6d1201fa61f3a9a107b49c788d4856cb5c9768f5dc14df9b8e6e218", func := "playpen/playpenlaw21.FoldPieces", spec := "foldPieces", inPlace := ["math.Float32frombits", "math.Float32bits"], unfollowed := true, recurses := true, apart := false, narrowed := true }
def FoldPiecesUptoSaid : Prop := foldPiecesUptoRow.holds Tryz.pinned (OpenSpec.upto foldPiecesSpec)

/-- 'playpenlaw21.FoldCovers', WHERE WHAT IT READS IS OF BULK AT MOST 1048576: true; the input reads as it did. -/
def foldCoversUptoRow : OpenClaim := { program := "ytgpicmiaanapkaagreat", sum := "c453ef1eb6d1201fa61f3a9a107b49c788d4856cb5c9768f5dc14df9b8e6e218", func := "playpen/playpenlaw21.FoldCovers", spec := "foldCovers", inPlace := ["math.Float32frombits", "math.Float32bits"], unfollowed := true, recurses := true, apart := false, narrowed := true }
def FoldCoversUptoSaid : Prop := foldCoversUptoRow.holds Tryz.pinned (OpenSpec.upto foldCoversSpec)

/-- 'playpenlaw19.RunCut', WHERE WHAT IT READS IS OF BULK AT MOST 1048576: true; the input reads as it did. -/
def runCutUptoRow : OpenClaim := { program := "ytgpicmiaanapkaagreat", sum := "c453ef1eb6d1201fa61f3a9a107b49c788d4856cb5c9768f5dc14df9b8e6e218", func := "playpen/playpenlaw19.RunCut", spec := "runCut", inPlace := ["math.Float32bits", "math.Float32frombits"], unfollowed := true, recurses := true, apart := false, narrowed := true }
def RunCutUptoSaid : Prop := runCutUptoRow.holds Tryz.pinned (OpenSpec.upto runCutSpec)

/-- 'playpenlaw19.RunEnded', WHERE WHAT IT READS IS OF BULK AT MOST 1048576: true; the input reads as it did. -/
def runEndedUptoRow : OpenClaim := { program := "ytgpicmiaanapkaagreat", sum := "c453ef1eb6d1201fa61f3a9a107b49c788d4856cb5c9768f5dc14df9b8e6e218", func := "playpen/playpenlaw19.RunEnded", spec := "runEnded", inPlace := ["math.Float32bits", "math.Float32frombits"], unfollowed := true, recurses := true, apart := false, narrowed := true }
def RunEndedUptoSaid : Prop := runEndedUptoRow.holds Tryz.pinned (OpenSpec.upto runEndedSpec)

/-- 'playpenlaw19.RunPlays', WHERE WHAT IT READS IS OF BULK AT MOST 1048576: true; the input reads as it did. -/
def runPlaysUptoRow : OpenClaim := { program := "ytgpicmiaanapkaagreat", sum := "c453ef1eb6d1201fa61f3a9a107b49c788d4856cb5c9768f5dc14df9b8e6e218", func := "playpen/playpenlaw19.RunPlays", spec := "runPlays", inPlace := ["math.Float32bits", "math.Float32frombits"], unfollowed := true, recurses := true, apart := false, narrowed := true }
def RunPlaysUptoSaid : Prop := runPlaysUptoRow.holds Tryz.pinned (OpenSpec.upto runPlaysSpec)

/-- 'playpenlaw19.RunKnown', WHERE WHAT IT READS IS OF BULK AT MOST 1048576: true; the input reads as it did. -/
def runKnownUptoRow : OpenClaim := { program := "ytgpicmiaanapkaagreat", sum := "c453ef1eb6d1201fa61f3a9a107b49c788d4856cb5c9768f5dc14df9b8e6e218", func := "playpen/playpenlaw19.RunKnown", spec := "runKnown", inPlace := ["math.Float32bits", "math.Float32frombits"], unfollowed := true, recurses := true, apart := false, narrowed := true }
def RunKnownUptoSaid : Prop := runKnownUptoRow.holds Tryz.pinned (OpenSpec.upto runKnownSpec)

/-- 'playpenlaw19.RunContained', WHERE WHAT IT READS IS OF BULK AT MOST 1048576: true; the input reads as it did. -/
def runContainedUptoRow : OpenClaim := { program := "ytgpicmiaanapkaagreat", sum := "c453ef1eb6d1201fa61f3a9a107b49c788d4856cb5c9768f5dc14df9b8e6e218", func := "playpen/playpenlaw19.RunContained", spec := "runContained", inPlace := ["math.Float32bits", "math.Float32frombits"], unfollowed := true, recurses := true, apart := false, narrowed := true }
def RunContainedUptoSaid : Prop := runContainedUptoRow.holds Tryz.pinned (OpenSpec.upto runContainedSpec)

/-- 'playpenlaw20.SaveGoesOn', WHERE WHAT IT READS IS OF BULK AT MOST 1048576: true; the input reads as it did. -/
def saveGoesOnUptoRow : OpenClaim := { program := "ytgpicmiaanapkaagreat", sum := "c453ef1eb6d1201fa61f3a9a107b49c788d4856cb5c9768f5dc14df9b8e6e218", func := "playpen/playpenlaw20.SaveGoesOn", spec := "saveGoesOn", inPlace := ["math.Float32bits", "math.Float32frombits"], unfollowed := true, recurses := true, apart := false, narrowed := true }
def SaveGoesOnUptoSaid : Prop := saveGoesOnUptoRow.holds Tryz.pinned (OpenSpec.upto saveGoesOnSpec)

/-- 'playpenlaw26.WatchFull', WHERE WHAT IT READS IS OF BULK AT MOST 1048576: true; the input reads as it did. -/
def watchFullUptoRow : OpenClaim := { program := "ytgpicmiaanapkaagreat", sum := "c453ef1eb6d1201fa61f3a9a107b49c788d4856cb5c9768f5dc14df9b8e6e218", func := "playpen/playpenlaw26.WatchFull", spec := "watchFull", inPlace := ["math.Float32bits", "math.Float32frombits"], unfollowed := true, recurses := true, apart := false, narrowed := true }
def WatchFullUptoSaid : Prop := watchFullUptoRow.holds Tryz.pinned (OpenSpec.upto watchFullSpec)

/-- 'playpenlaw26.WatchTrails', WHERE WHAT IT READS IS OF BULK AT MOST 1048576: true; the input reads as it did. -/
def watchTrailsUptoRow : OpenClaim := { program := "ytgpicmiaanapkaagreat", sum := "c453ef1eb6d1201fa61f3a9a107b49c788d4856cb5c9768f5dc14df9b8e6e218", func := "playpen/playpenlaw26.WatchTrails", spec := "watchTrails", inPlace := ["math.Float32bits", "math.Float32frombits"], unfollowed := true, recurses := true, apart := false, narrowed := true }
def WatchTrailsUptoSaid : Prop := watchTrailsUptoRow.holds Tryz.pinned (OpenSpec.upto watchTrailsSpec)

/-- 'playpenlaw26.WatchNothing', WHERE WHAT IT READS IS OF BULK AT MOST 1048576: true; the input reads as it did. -/
def watchNothingUptoRow : OpenClaim := { program := "ytgpicmiaanapkaagreat", sum := "c453ef1eb6d1201fa61f3a9a107b49c788d4856cb5c9768f5dc14df9b8e6e218", func := "playpen/playpenlaw26.WatchNothing", spec := "watchNothing", inPlace := ["math.Float32bits", "math.Float32frombits"], unfollowed := true, recurses := true, apart := false, narrowed := true }
def WatchNothingUptoSaid : Prop := watchNothingUptoRow.holds Tryz.pinned (OpenSpec.upto watchNothingSpec)

/-- 'playpenlaw26.WatchNone', WHERE WHAT IT READS IS OF BULK AT MOST 1048576: true; the input reads as it did. -/
def watchNoneUptoRow : OpenClaim := { program := "ytgpicmiaanapkaagreat", sum := "c453ef1eb6d1201fa61f3a9a107b49c788d4856cb5c9768f5dc14df9b8e6e218", func := "playpen/playpenlaw26.WatchNone", spec := "watchNone", inPlace := ["math.Float32bits", "math.Float32frombits"], unfollowed := true, recurses := true, apart := false, narrowed := true }
def WatchNoneUptoSaid : Prop := watchNoneUptoRow.holds Tryz.pinned (OpenSpec.upto watchNoneSpec)

end Rows
end Go.Proofs.YtgpicmiaanapkaaGreat
