import Derived.Test.YtdffaepbkecoeaaGreatG5
import Derived.Test.YtdffaepbkecoeaaGreatG6
import Derived.Test.YtdffaepbkecoeaaGreatG7
namespace Go.Proofs.YtdffaepbkecoeaaGreat.runEnded
open Go.ChangeShapes Go.WideShapes Go.ChangeAt Go.RowKit
set_option maxRecDepth 100000 in
theorem c0 : (Rows.runEndedRow.wf (OpenSpec.ofChange Rows.runEndedSpec)) = true := by kernel_rfl
set_option maxRecDepth 100000 in
theorem c3 : (Tryz.f3.params.all (Tryz.pinned.checked.prog.readableRec ·)) = true := by kernel_rfl
set_option maxRecDepth 100000 in
theorem c4 : (namedTie Tryz.pinned.checked.prog Rows.runEndedRow.named Rows.runEndedSpec.vars) = true := by kernel_rfl
set_option maxRecDepth 100000 in
theorem c5 : ((Rows.runEndedRow.stops == [])) = true := by kernel_rfl
set_option maxRecDepth 100000 in
theorem c6 : ((Tryz.pinned.checked.prog.stops == [])) = true := by kernel_rfl
set_option maxRecDepth 100000 in
theorem c7 : ((Rows.runEndedRow.knobs == [])) = true := by kernel_rfl
set_option maxRecDepth 100000 in
theorem c8 : ((Tryz.pinned.checked.prog.stopKnobs == [])) = true := by kernel_rfl
set_option maxRecDepth 100000 in
theorem c9 : ((Rows.runEndedRow.inPlace == Tryz.pinned.checked.prog.inPlace 3)) = true := by kernel_rfl
set_option maxRecDepth 100000 in
theorem c10 : ((Rows.runEndedRow.unfollowed == Tryz.pinned.checked.prog.unfollowed 3)) = true := by kernel_rfl
set_option maxRecDepth 100000 in
theorem c11 : ((Rows.runEndedRow.recurses == Tryz.pinned.checked.prog.recurses 3)) = true := by kernel_rfl
set_option maxRecDepth 100000 in
theorem c12 : ((Rows.runEndedRow.named == Tryz.pinned.checked.prog.varsNamed 3)) = true := by kernel_rfl
set_option maxRecDepth 100000 in
theorem c13 : ((Rows.runEndedRow.maps == (Tryz.f3.params.toList ++ Rows.runEndedSpec.plain.varTypes Tryz.pinned.checked.prog).any (Tryz.pinned.checked.prog.mapsRec ·))) = true := by kernel_rfl
set_option maxRecDepth 100000 in
theorem c14 : ((Rows.runEndedRow.ifaces == (Tryz.f3.params.toList ++ Rows.runEndedSpec.plain.varTypes Tryz.pinned.checked.prog).any (Tryz.pinned.checked.prog.ifacesRec ·))) = true := by kernel_rfl
set_option maxRecDepth 100000 in
theorem c15 : ((Rows.runEndedRow.mapsOut == Tryz.pinned.checked.prog.mapsAmong Tryz.f3.resultTypes.toList)) = true := by kernel_rfl
set_option maxRecDepth 100000 in
theorem c16 : ((Rows.runEndedRow.loops == (Tryz.f3.params.toList ++ Rows.runEndedSpec.plain.varTypes Tryz.pinned.checked.prog).any (Tryz.pinned.checked.prog.loopsFrom ·))) = true := by kernel_rfl
set_option maxRecDepth 100000 in
theorem c17 : ((Rows.runEndedRow.wideKeys == (Tryz.f3.params.toList ++ Rows.runEndedSpec.plain.varTypes Tryz.pinned.checked.prog ++ Tryz.f3.resultTypes.toList).any (Tryz.pinned.checked.prog.wideKeysFrom ·))) = true := by kernel_rfl
set_option maxRecDepth 100000 in
theorem c18 : (Rows.runEndedSpec.vars.all (Tryz.pinned.checked.prog.varReadable ·)) = true := by kernel_rfl
set_option maxRecDepth 100000 in
theorem c19 : (Tryz.f3.resultTypes.all (fun t => Tryz.pinned.checked.prog.readableRec t && decide (t < Tryz.pinned.checked.prog.types.size))) = true := by kernel_rfl
set_option maxRecDepth 100000 in
theorem c20 : ((Rows.runEndedRow.ifacesOut == Tryz.f3.resultTypes.toList.any (Tryz.pinned.checked.prog.ifacesRec ·))) = true := by kernel_rfl
set_option maxRecDepth 100000 in
theorem c21 : ((Rows.runEndedRow.loopsOut == Tryz.f3.resultTypes.toList.any (Tryz.pinned.checked.prog.loopsFrom ·))) = true := by kernel_rfl
set_option maxRecDepth 100000 in
theorem c23 : (Rows.runEndedRow.shortTexts.isNone) = true := by kernel_rfl
set_option maxRecDepth 100000 in
theorem c28 : ((Rows.runEndedRow.kinds == (if Rows.runEndedRow.domain.isEmpty then [] else Tryz.f3.params.toList.map fun t => match Tryz.pinned.checked.prog.underlying t with | some (.int k) => some k | _ => none))) = true := by kernel_rfl
set_option maxRecDepth 100000 in
theorem c29 : ((Rows.runEndedRow.pinned == Rows.runEndedRow.pinnedBy)) = true := by kernel_rfl
set_option maxRecDepth 100000 in
theorem c30 : ((Rows.runEndedRow.veiled == (Tryz.f3.params.toList ++ Rows.runEndedSpec.plain.varTypes Tryz.pinned.checked.prog ++ Tryz.f3.resultTypes.toList).any (Tryz.pinned.checked.prog.veiledRec ·))) = true := by kernel_rfl
set_option maxRecDepth 100000 in
theorem c31 : (Rows.runEndedRow.veiledFits Tryz.pinned.checked.prog Tryz.f3.params.toList (Tryz.f3.params.toList ++ Rows.runEndedSpec.plain.varTypes Tryz.pinned.checked.prog ++ Tryz.f3.resultTypes.toList)) = true := by kernel_rfl
set_option maxRecDepth 100000 in
theorem named_ : Tryz.pinned.checked.prog.funcNamed Rows.runEndedRow.func = some 3 := by kernel_rfl
set_option maxRecDepth 100000 in
theorem inst_ : Tryz.f3.isInstance Tryz.pinned.checked.prog Rows.runEndedRow.origin Rows.runEndedRow.targs := of_decide_eq_true (by kernel_rfl)
set_option maxRecDepth 100000 in
theorem wrap_ : Tryz.f3.isWrapper Tryz.pinned.checked.prog Rows.runEndedRow.wrapper Rows.runEndedRow.mainSum := by unfold Func.isWrapper; first | (rw [if_pos (by decide +kernel)]; kernel_rfl) | (rw [if_neg (by decide +kernel)]; exact ⟨rfl, rfl⟩)
set_option maxRecDepth 100000 in
theorem closed_ : joinedFacts Tryz.pinned.checked.prog 3 Tryz.f3 Rows.runEndedSpec Rows.runEndedRow = true := by
  unfold joinedFacts
  exact and_of (and_of (and_of (and_of (and_of (and_of (and_of (and_of (and_of (and_of (and_of (and_of (and_of (and_of (and_of (and_of (and_of (and_of (and_of (and_of (and_of (and_of (and_of (and_of (and_of (and_of (and_of (and_of (and_of (and_of (and_of (c0) g_laid) g_maps) c3) c4) c5) c6) c7) c8) c9) c10) c11) c12) c13) c14) c15) c16) c17) c18) c19) c20) c21) g_keys) c23) g_heard) g_enter) g_lifts) g_make) c28) c29) c30) c31
end Go.Proofs.YtdffaepbkecoeaaGreat.runEnded
