import Derived.Test.YtdffaepbkecoeaaGreatG5
import Derived.Test.YtdffaepbkecoeaaGreatG6
import Derived.Test.YtdffaepbkecoeaaGreatG7
namespace Go.Proofs.YtdffaepbkecoeaaGreat.runCut
open Go.ChangeShapes Go.WideShapes Go.ChangeAt Go.RowKit
set_option maxRecDepth 100000 in
theorem c0 : (Rows.runCutRow.wf (OpenSpec.ofChange Rows.runCutSpec)) = true := by kernel_rfl
set_option maxRecDepth 100000 in
theorem c3 : (Tryz.f4.params.all (Tryz.pinned.checked.prog.readableRec ·)) = true := by kernel_rfl
set_option maxRecDepth 100000 in
theorem c4 : (namedTie Tryz.pinned.checked.prog Rows.runCutRow.named Rows.runCutSpec.vars) = true := by kernel_rfl
set_option maxRecDepth 100000 in
theorem c5 : ((Rows.runCutRow.stops == [])) = true := by kernel_rfl
set_option maxRecDepth 100000 in
theorem c6 : ((Tryz.pinned.checked.prog.stops == [])) = true := by kernel_rfl
set_option maxRecDepth 100000 in
theorem c7 : ((Rows.runCutRow.knobs == [])) = true := by kernel_rfl
set_option maxRecDepth 100000 in
theorem c8 : ((Tryz.pinned.checked.prog.stopKnobs == [])) = true := by kernel_rfl
set_option maxRecDepth 100000 in
theorem c9 : ((Rows.runCutRow.inPlace == Tryz.pinned.checked.prog.inPlace 4)) = true := by kernel_rfl
set_option maxRecDepth 100000 in
theorem c10 : ((Rows.runCutRow.unfollowed == Tryz.pinned.checked.prog.unfollowed 4)) = true := by kernel_rfl
set_option maxRecDepth 100000 in
theorem c11 : ((Rows.runCutRow.recurses == Tryz.pinned.checked.prog.recurses 4)) = true := by kernel_rfl
set_option maxRecDepth 100000 in
theorem c12 : ((Rows.runCutRow.named == Tryz.pinned.checked.prog.varsNamed 4)) = true := by kernel_rfl
set_option maxRecDepth 100000 in
theorem c13 : ((Rows.runCutRow.maps == (Tryz.f4.params.toList ++ Rows.runCutSpec.plain.varTypes Tryz.pinned.checked.prog).any (Tryz.pinned.checked.prog.mapsRec ·))) = true := by kernel_rfl
set_option maxRecDepth 100000 in
theorem c14 : ((Rows.runCutRow.ifaces == (Tryz.f4.params.toList ++ Rows.runCutSpec.plain.varTypes Tryz.pinned.checked.prog).any (Tryz.pinned.checked.prog.ifacesRec ·))) = true := by kernel_rfl
set_option maxRecDepth 100000 in
theorem c15 : ((Rows.runCutRow.mapsOut == Tryz.pinned.checked.prog.mapsAmong Tryz.f4.resultTypes.toList)) = true := by kernel_rfl
set_option maxRecDepth 100000 in
theorem c16 : ((Rows.runCutRow.loops == (Tryz.f4.params.toList ++ Rows.runCutSpec.plain.varTypes Tryz.pinned.checked.prog).any (Tryz.pinned.checked.prog.loopsFrom ·))) = true := by kernel_rfl
set_option maxRecDepth 100000 in
theorem c17 : ((Rows.runCutRow.wideKeys == (Tryz.f4.params.toList ++ Rows.runCutSpec.plain.varTypes Tryz.pinned.checked.prog ++ Tryz.f4.resultTypes.toList).any (Tryz.pinned.checked.prog.wideKeysFrom ·))) = true := by kernel_rfl
set_option maxRecDepth 100000 in
theorem c18 : (Rows.runCutSpec.vars.all (Tryz.pinned.checked.prog.varReadable ·)) = true := by kernel_rfl
set_option maxRecDepth 100000 in
theorem c19 : (Tryz.f4.resultTypes.all (fun t => Tryz.pinned.checked.prog.readableRec t && decide (t < Tryz.pinned.checked.prog.types.size))) = true := by kernel_rfl
set_option maxRecDepth 100000 in
theorem c20 : ((Rows.runCutRow.ifacesOut == Tryz.f4.resultTypes.toList.any (Tryz.pinned.checked.prog.ifacesRec ·))) = true := by kernel_rfl
set_option maxRecDepth 100000 in
theorem c21 : ((Rows.runCutRow.loopsOut == Tryz.f4.resultTypes.toList.any (Tryz.pinned.checked.prog.loopsFrom ·))) = true := by kernel_rfl
set_option maxRecDepth 100000 in
theorem c23 : (Rows.runCutRow.shortTexts.isNone) = true := by kernel_rfl
set_option maxRecDepth 100000 in
theorem c28 : ((Rows.runCutRow.kinds == (if Rows.runCutRow.domain.isEmpty then [] else Tryz.f4.params.toList.map fun t => match Tryz.pinned.checked.prog.underlying t with | some (.int k) => some k | _ => none))) = true := by kernel_rfl
set_option maxRecDepth 100000 in
theorem c29 : ((Rows.runCutRow.pinned == Rows.runCutRow.pinnedBy)) = true := by kernel_rfl
set_option maxRecDepth 100000 in
theorem c30 : ((Rows.runCutRow.veiled == (Tryz.f4.params.toList ++ Rows.runCutSpec.plain.varTypes Tryz.pinned.checked.prog ++ Tryz.f4.resultTypes.toList).any (Tryz.pinned.checked.prog.veiledRec ·))) = true := by kernel_rfl
set_option maxRecDepth 100000 in
theorem c31 : (Rows.runCutRow.veiledFits Tryz.pinned.checked.prog Tryz.f4.params.toList (Tryz.f4.params.toList ++ Rows.runCutSpec.plain.varTypes Tryz.pinned.checked.prog ++ Tryz.f4.resultTypes.toList)) = true := by kernel_rfl
set_option maxRecDepth 100000 in
theorem named_ : Tryz.pinned.checked.prog.funcNamed Rows.runCutRow.func = some 4 := by kernel_rfl
set_option maxRecDepth 100000 in
theorem inst_ : Tryz.f4.isInstance Tryz.pinned.checked.prog Rows.runCutRow.origin Rows.runCutRow.targs := of_decide_eq_true (by kernel_rfl)
set_option maxRecDepth 100000 in
theorem wrap_ : Tryz.f4.isWrapper Tryz.pinned.checked.prog Rows.runCutRow.wrapper Rows.runCutRow.mainSum := by unfold Func.isWrapper; first | (rw [if_pos (by decide +kernel)]; kernel_rfl) | (rw [if_neg (by decide +kernel)]; exact ⟨rfl, rfl⟩)
set_option maxRecDepth 100000 in
theorem closed_ : joinedFacts Tryz.pinned.checked.prog 4 Tryz.f4 Rows.runCutSpec Rows.runCutRow = true := by
  unfold joinedFacts
  exact and_of (and_of (and_of (and_of (and_of (and_of (and_of (and_of (and_of (and_of (and_of (and_of (and_of (and_of (and_of (and_of (and_of (and_of (and_of (and_of (and_of (and_of (and_of (and_of (and_of (and_of (and_of (and_of (and_of (and_of (and_of (c0) g_laid) g_maps) c3) c4) c5) c6) c7) c8) c9) c10) c11) c12) c13) c14) c15) c16) c17) c18) c19) c20) c21) g_keys) c23) g_heard) g_enter) g_lifts) g_make) c28) c29) c30) c31
end Go.Proofs.YtdffaepbkecoeaaGreat.runCut
