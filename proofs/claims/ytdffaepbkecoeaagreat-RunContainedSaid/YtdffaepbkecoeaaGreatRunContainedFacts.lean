import Derived.Test.YtdffaepbkecoeaaGreatG5
import Derived.Test.YtdffaepbkecoeaaGreatG6
import Derived.Test.YtdffaepbkecoeaaGreatG7
namespace Go.Proofs.YtdffaepbkecoeaaGreat.runContained
open Go.ChangeShapes Go.WideShapes Go.ChangeAt Go.RowKit
set_option maxRecDepth 100000 in
theorem c0 : (Rows.runContainedRow.wf (OpenSpec.ofChange Rows.runContainedSpec)) = true := by kernel_rfl
set_option maxRecDepth 100000 in
theorem c3 : (Tryz.f6.params.all (Tryz.pinned.checked.prog.readableRec ·)) = true := by kernel_rfl
set_option maxRecDepth 100000 in
theorem c4 : (namedTie Tryz.pinned.checked.prog Rows.runContainedRow.named Rows.runContainedSpec.vars) = true := by kernel_rfl
set_option maxRecDepth 100000 in
theorem c5 : ((Rows.runContainedRow.stops == [])) = true := by kernel_rfl
set_option maxRecDepth 100000 in
theorem c6 : ((Tryz.pinned.checked.prog.stops == [])) = true := by kernel_rfl
set_option maxRecDepth 100000 in
theorem c7 : ((Rows.runContainedRow.knobs == [])) = true := by kernel_rfl
set_option maxRecDepth 100000 in
theorem c8 : ((Tryz.pinned.checked.prog.stopKnobs == [])) = true := by kernel_rfl
set_option maxRecDepth 100000 in
theorem c9 : ((Rows.runContainedRow.inPlace == Tryz.pinned.checked.prog.inPlace 6)) = true := by kernel_rfl
set_option maxRecDepth 100000 in
theorem c10 : ((Rows.runContainedRow.unfollowed == Tryz.pinned.checked.prog.unfollowed 6)) = true := by kernel_rfl
set_option maxRecDepth 100000 in
theorem c11 : ((Rows.runContainedRow.recurses == Tryz.pinned.checked.prog.recurses 6)) = true := by kernel_rfl
set_option maxRecDepth 100000 in
theorem c12 : ((Rows.runContainedRow.named == Tryz.pinned.checked.prog.varsNamed 6)) = true := by kernel_rfl
set_option maxRecDepth 100000 in
theorem c13 : ((Rows.runContainedRow.maps == (Tryz.f6.params.toList ++ Rows.runContainedSpec.plain.varTypes Tryz.pinned.checked.prog).any (Tryz.pinned.checked.prog.mapsRec ·))) = true := by kernel_rfl
set_option maxRecDepth 100000 in
theorem c14 : ((Rows.runContainedRow.ifaces == (Tryz.f6.params.toList ++ Rows.runContainedSpec.plain.varTypes Tryz.pinned.checked.prog).any (Tryz.pinned.checked.prog.ifacesRec ·))) = true := by kernel_rfl
set_option maxRecDepth 100000 in
theorem c15 : ((Rows.runContainedRow.mapsOut == Tryz.pinned.checked.prog.mapsAmong Tryz.f6.resultTypes.toList)) = true := by kernel_rfl
set_option maxRecDepth 100000 in
theorem c16 : ((Rows.runContainedRow.loops == (Tryz.f6.params.toList ++ Rows.runContainedSpec.plain.varTypes Tryz.pinned.checked.prog).any (Tryz.pinned.checked.prog.loopsFrom ·))) = true := by kernel_rfl
set_option maxRecDepth 100000 in
theorem c17 : ((Rows.runContainedRow.wideKeys == (Tryz.f6.params.toList ++ Rows.runContainedSpec.plain.varTypes Tryz.pinned.checked.prog ++ Tryz.f6.resultTypes.toList).any (Tryz.pinned.checked.prog.wideKeysFrom ·))) = true := by kernel_rfl
set_option maxRecDepth 100000 in
theorem c18 : (Rows.runContainedSpec.vars.all (Tryz.pinned.checked.prog.varReadable ·)) = true := by kernel_rfl
set_option maxRecDepth 100000 in
theorem c19 : (Tryz.f6.resultTypes.all (fun t => Tryz.pinned.checked.prog.readableRec t && decide (t < Tryz.pinned.checked.prog.types.size))) = true := by kernel_rfl
set_option maxRecDepth 100000 in
theorem c20 : ((Rows.runContainedRow.ifacesOut == Tryz.f6.resultTypes.toList.any (Tryz.pinned.checked.prog.ifacesRec ·))) = true := by kernel_rfl
set_option maxRecDepth 100000 in
theorem c21 : ((Rows.runContainedRow.loopsOut == Tryz.f6.resultTypes.toList.any (Tryz.pinned.checked.prog.loopsFrom ·))) = true := by kernel_rfl
set_option maxRecDepth 100000 in
theorem c23 : (Rows.runContainedRow.shortTexts.isNone) = true := by kernel_rfl
set_option maxRecDepth 100000 in
theorem c28 : ((Rows.runContainedRow.kinds == (if Rows.runContainedRow.domain.isEmpty then [] else Tryz.f6.params.toList.map fun t => match Tryz.pinned.checked.prog.underlying t with | some (.int k) => some k | _ => none))) = true := by kernel_rfl
set_option maxRecDepth 100000 in
theorem c29 : ((Rows.runContainedRow.pinned == Rows.runContainedRow.pinnedBy)) = true := by kernel_rfl
set_option maxRecDepth 100000 in
theorem c30 : ((Rows.runContainedRow.veiled == (Tryz.f6.params.toList ++ Rows.runContainedSpec.plain.varTypes Tryz.pinned.checked.prog ++ Tryz.f6.resultTypes.toList).any (Tryz.pinned.checked.prog.veiledRec ·))) = true := by kernel_rfl
set_option maxRecDepth 100000 in
theorem c31 : (Rows.runContainedRow.veiledFits Tryz.pinned.checked.prog Tryz.f6.params.toList (Tryz.f6.params.toList ++ Rows.runContainedSpec.plain.varTypes Tryz.pinned.checked.prog ++ Tryz.f6.resultTypes.toList)) = true := by kernel_rfl
set_option maxRecDepth 100000 in
theorem named_ : Tryz.pinned.checked.prog.funcNamed Rows.runContainedRow.func = some 6 := by kernel_rfl
set_option maxRecDepth 100000 in
theorem inst_ : Tryz.f6.isInstance Tryz.pinned.checked.prog Rows.runContainedRow.origin Rows.runContainedRow.targs := of_decide_eq_true (by kernel_rfl)
set_option maxRecDepth 100000 in
theorem wrap_ : Tryz.f6.isWrapper Tryz.pinned.checked.prog Rows.runContainedRow.wrapper Rows.runContainedRow.mainSum := by unfold Func.isWrapper; first | (rw [if_pos (by decide +kernel)]; kernel_rfl) | (rw [if_neg (by decide +kernel)]; exact ⟨rfl, rfl⟩)
set_option maxRecDepth 100000 in
theorem closed_ : joinedFacts Tryz.pinned.checked.prog 6 Tryz.f6 Rows.runContainedSpec Rows.runContainedRow = true := by
  unfold joinedFacts
  exact and_of (and_of (and_of (and_of (and_of (and_of (and_of (and_of (and_of (and_of (and_of (and_of (and_of (and_of (and_of (and_of (and_of (and_of (and_of (and_of (and_of (and_of (and_of (and_of (and_of (and_of (and_of (and_of (and_of (and_of (and_of (c0) g_laid) g_maps) c3) c4) c5) c6) c7) c8) c9) c10) c11) c12) c13) c14) c15) c16) c17) c18) c19) c20) c21) g_keys) c23) g_heard) g_enter) g_lifts) g_make) c28) c29) c30) c31
end Go.Proofs.YtdffaepbkecoeaaGreat.runContained
