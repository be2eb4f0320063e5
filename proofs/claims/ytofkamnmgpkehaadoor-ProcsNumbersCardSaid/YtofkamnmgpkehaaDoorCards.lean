/-
  DERIVED. GIVEN WITH THE SEED: THE CARDS: each row of YtofkamnmgpkehaaDoorRows.lean that lists a variable, with what it lists TIED to the program's text (the seventh form; the later family's looks); each row that meets fmt, with fmt's text TOLD by the authors' own Lean function (tested against real Go, not proved from fmt's source: count such statements apart). THE CARD IS WHAT COUNTS. Prove the row's statement (the work); the ties are given (YtofkamnmgpkehaaDoorTie.lean); close each card by the builder's one call (the guide's Derived/Test/ToyasCard.lean, 'card_holds'). Laid BY PROGRAM, IN A SANDBOX (cutbox-door.mjs). By AI agents, Wed Nov 11 2026. No macro, syntax, notation, axiom, sorry.
-/
import Derived.Test.YtofkamnmgpkehaaDoorRows
import GoSem.ClaimSeven
namespace Go.Proofs.YtofkamnmgpkehaaDoor
namespace Rows

/-- THE TIED CARD OF 'playpenlaw13.ProcsSets'. -/
def procsSetsCard : Claim7 := { stood := { row := procsSetsRow, standIns := [], harness := (true, "b806d9abfbc72f9b96ab27fe80b1faf9dbb71510c039a3eb52a4f1cafe36d887"), looks := false }, kinds := [], alts := [], laidByText := true, laidKinds := [.data], laidTests := true, laidLooks := .later }
def ProcsSetsCardSaid : Prop := Claim7.holds Tryd.pinned (.plain (OpenSpec.ofChange procsSetsSpec)) procsSetsCard

/-- THE TIED CARD OF 'playpenlaw13.ProcsNumbers'. -/
def procsNumbersCard : Claim7 := { stood := { row := procsNumbersRow, standIns := [], harness := (true, "b806d9abfbc72f9b96ab27fe80b1faf9dbb71510c039a3eb52a4f1cafe36d887"), looks := false }, kinds := [], alts := [], laidByText := true, laidKinds := [.data], laidTests := true, laidLooks := .later }
def ProcsNumbersCardSaid : Prop := Claim7.holds Tryd.pinned (.plain (OpenSpec.ofChange procsNumbersSpec)) procsNumbersCard

/-- THE TIED CARD OF 'playpenlaw13.ProcsSame'. -/
def procsSameCard : Claim7 := { stood := { row := procsSameRow, standIns := [], harness := (true, "b806d9abfbc72f9b96ab27fe80b1faf9dbb71510c039a3eb52a4f1cafe36d887"), looks := false }, kinds := [], alts := [], laidByText := true, laidKinds := [.data], laidTests := true, laidLooks := .later }
def ProcsSameCardSaid : Prop := Claim7.holds Tryd.pinned (.plain (OpenSpec.ofChange procsSameSpec)) procsSameCard

/-- THE TIED CARD OF 'playpenlaw13.ProcsNone'. -/
def procsNoneCard : Claim7 := { stood := { row := procsNoneRow, standIns := [], harness := (true, "b806d9abfbc72f9b96ab27fe80b1faf9dbb71510c039a3eb52a4f1cafe36d887"), looks := false }, kinds := [], alts := [], laidByText := true, laidKinds := [.data], laidTests := true, laidLooks := .later }
def ProcsNoneCardSaid : Prop := Claim7.holds Tryd.pinned (.plain (OpenSpec.ofChange procsNoneSpec)) procsNoneCard

/-- THE SECOND FORM's CARD OF 'playpenlaw13.ProcsSets'. -/
def procsSetsUptoCard : Claim7 := { stood := { row := procsSetsUptoRow, standIns := [], harness := (true, "b806d9abfbc72f9b96ab27fe80b1faf9dbb71510c039a3eb52a4f1cafe36d887"), looks := false }, kinds := [], alts := [], laidByText := true, laidKinds := [.data], laidTests := true, laidLooks := .later }
def ProcsSetsUptoCardSaid : Prop := Claim7.holds Tryd.pinned (.plain (OpenSpec.upto procsSetsSpec)) procsSetsUptoCard

/-- THE SECOND FORM's CARD OF 'playpenlaw13.ProcsNumbers'. -/
def procsNumbersUptoCard : Claim7 := { stood := { row := procsNumbersUptoRow, standIns := [], harness := (true, "b806d9abfbc72f9b96ab27fe80b1faf9dbb71510c039a3eb52a4f1cafe36d887"), looks := false }, kinds := [], alts := [], laidByText := true, laidKinds := [.data], laidTests := true, laidLooks := .later }
def ProcsNumbersUptoCardSaid : Prop := Claim7.holds Tryd.pinned (.plain (OpenSpec.upto procsNumbersSpec)) procsNumbersUptoCard

/-- THE SECOND FORM's CARD OF 'playpenlaw13.ProcsSame'. -/
def procsSameUptoCard : Claim7 := { stood := { row := procsSameUptoRow, standIns := [], harness := (true, "b806d9abfbc72f9b96ab27fe80b1faf9dbb71510c039a3eb52a4f1cafe36d887"), looks := false }, kinds := [], alts := [], laidByText := true, laidKinds := [.data], laidTests := true, laidLooks := .later }
def ProcsSameUptoCardSaid : Prop := Claim7.holds Tryd.pinned (.plain (OpenSpec.upto procsSameSpec)) procsSameUptoCard

/-- THE SECOND FORM's CARD OF 'playpenlaw13.ProcsNone'. -/
def procsNoneUptoCard : Claim7 := { stood := { row := procsNoneUptoRow, standIns := [], harness := (true, "b806d9abfbc72f9b96ab27fe80b1faf9dbb71510c039a3eb52a4f1cafe36d887"), looks := false }, kinds := [], alts := [], laidByText := true, laidKinds := [.data], laidTests := true, laidLooks := .later }
def ProcsNoneUptoCardSaid : Prop := Claim7.holds Tryd.pinned (.plain (OpenSpec.upto procsNoneSpec)) procsNoneUptoCard
end Rows
end Go.Proofs.YtofkamnmgpkehaaDoor
