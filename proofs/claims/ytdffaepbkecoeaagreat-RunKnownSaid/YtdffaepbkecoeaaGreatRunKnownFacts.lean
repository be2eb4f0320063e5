import Derived.Test.YtdffaepbkecoeaaGreatG5
import Derived.Test.YtdffaepbkecoeaaGreatG6
import Derived.Test.YtdffaepbkecoeaaGreatG7
namespace Go.Proofs.YtdffaepbkecoeaaGreat.runKnown
open Go.ChangeShapes Go.WideShapes Go.ChangeAt Go.RowKit
set_option maxRecDepth 100000 in
theorem c0 : (Rows.runKnownRow.wf (OpenSpec.ofChange Rows.runKnownSpec)) = true := by kernel_rfl
set_option maxRecDepth 100000 in
theorem c3 : (Tryz.f5.params.all (Tryz.pinned.checked.prog.readableRec ·)) = true := by kernel_rfl
set_option maxRecDepth 100000 in
theorem c4 : (namedTie Tryz.pinned.checked.prog Rows.runKnownRow.named Rows.runKnownSpec.vars) = true := by kernel_rfl
set_option maxRecDepth 100000 in
theorem c5 : ((Rows.runKnownRow.stops == [])) = true := by kernel_rfl
set_option maxRecDepth 100000 in
theorem c6 : ((Tryz.pinned.checked.prog.stops == [])) = true := by kernel_rfl
set_option maxRecDepth 100000 in
theorem c7 : ((Rows.runKnownRow.knobs == [])) = true := by kernel_rfl
set_option maxRecDepth 100000 in
theorem c8 : ((Tryz.pinned.checked.prog.stopKnobs == [])) = true := by kernel_rfl
set_option maxRecDepth 100000 in
theorem c9 : ((Rows.runKnownRow.inPlace == Tryz.pinned.checked.prog.inPlace 5)) = true := by kernel_rfl
set_option maxRecDepth 100000 in
theorem c10 : ((Rows.runKnownRow.unfollowed == Tryz.pinned.checked.prog.unfollowed 5)) = true := by kernel_rfl
set_option maxRecDepth 100000 in
theorem c11 : ((Rows.runKnownRow.recurses == Tryz.pinned.checked.prog.recurses 5)) = true := by kernel_rfl
set_option maxRecDepth 100000 in
theorem c12 : ((Rows.runKnownRow.named == Tryz.pinned.checked.prog.varsNamed 5)) = true := by kernel_rfl
set_option maxRecDepth 100000 in
theorem c13 : ((Rows.runKnownRow.maps == (Tryz.f5.params.toList ++ Rows.runKnownSpec.plain.varTypes Tryz.pinned.checked.prog).any (Tryz.pinned.checked.prog.mapsRec ·))) = true := by kernel_rfl
set_option maxRecDepth 100000 in
theorem c14 : ((Rows.runKnownRow.ifaces == (Tryz.f5.params.toList ++ Rows.runKnownSpec.plain.varTypes Tryz.pinned.checked.prog).any (Tryz.pinned.checked.prog.ifacesRec ·))) = true := by kernel_rfl
set_option maxRecDepth 100000 in
theorem c15 : ((Rows.runKnownRow.mapsOut == Tryz.pinned.checked.prog.mapsAmong Tryz.f5.resultTypes.toList)) = true := by kernel_rfl
set_option maxRecDepth 100000 in
theorem c16 : ((Rows.runKnownRow.loops == (Tryz.f5.params.toList ++ Rows.runKnownSpec.plain.varTypes Tryz.pinned.checked.prog).any (Tryz.pinned.checked.prog.loopsFrom ·))) = true := by kernel_rfl
set_option maxRecDepth 100000 in
theorem c17 : ((Rows.runKnownRow.wideKeys == (Tryz.f5.params.toList ++ Rows.runKnownSpec.plain.varTypes Tryz.pinned.checked.prog ++ Tryz.f5.resultTypes.toList).any (Tryz.pinned.checked.prog.wideKeysFrom ·))) = true := by kernel_rfl
set_option maxRecDepth 100000 in
theorem c18 : (Rows.runKnownSpec.vars.all (Tryz.pinned.checked.prog.varReadable ·)) = true := by kernel_rfl
set_option maxRecDepth 100000 in
theorem c19 : (Tryz.f5.resultTypes.all (fun t => Tryz.pinned.checked.prog.readableRec t && decide (t < Tryz.pinned.checked.prog.types.size))) = true := by kernel_rfl
set_option maxRecDepth 100000 in
theorem c20 : ((Rows.runKnownRow.ifacesOut == Tryz.f5.resultTypes.toList.any (Tryz.pinned.checked.prog.ifacesRec ·))) = true := by kernel_rfl
set_option maxRecDepth 100000 in
theorem c21 : ((Rows.runKnownRow.loopsOut == Tryz.f5.resultTypes.toList.any (Tryz.pinned.checked.prog.loopsFrom ·))) = true := by kernel_rfl
set_option maxRecDepth 100000 in
theorem c23 : (Rows.runKnownRow.shortTexts.isNone) = true := by kernel_rfl
set_option maxRecDepth 100000 in
theorem c28 : ((Rows.runKnownRow.kinds == (if Rows.runKnownRow.domain.isEmpty then [] else Tryz.f5.params.toList.map fun t => match Tryz.pinned.checked.prog.underlying t with | some (.int k) => some k | _ => none))) = true := by kernel_rfl
set_option maxRecDepth 100000 in
theorem c29 : ((Rows.runKnownRow.pinned == Rows.runKnownRow.pinnedBy)) = true := by kernel_rfl
set_option maxRecDepth 100000 in
theorem c30 : ((Rows.runKnownRow.veiled == (Tryz.f5.params.toList ++ Rows.runKnownSpec.plain.varTypes Tryz.pinned.checked.prog ++ Tryz.f5.resultTypes.toList).any (Tryz.pinned.checked.prog.veiledRec ·))) = true := by kernel_rfl
set_option maxRecDepth 100000 in
theorem c31 : (Rows.runKnownRow.veiledFits Tryz.pinned.checked.prog Tryz.f5.params.toList (Tryz.f5.params.toList ++ Rows.runKnownSpec.plain.varTypes Tryz.pinned.checked.prog ++ Tryz.f5.resultTypes.toList)) = true := by kernel_rfl
set_option maxRecDepth 100000 in
theorem named_ : Tryz.pinned.checked.prog.funcNamed Rows.runKnownRow.func = some 5 := by kernel_rfl
set_option maxRecDepth 100000 in
theorem inst_ : Tryz.f5.isInstance Tryz.pinned.checked.prog Rows.runKnownRow.origin Rows.runKnownRow.targs := of_decide_eq_true (by kernel_rfl)
set_option maxRecDepth 100000 in
theorem wrap_ : Tryz.f5.isWrapper Tryz.pinned.checked.prog Rows.runKnownRow.wrapper Rows.runKnownRow.mainSum := by unfold Func.isWrapper; first | (rw [if_pos (by decide +kernel)]; kernel_rfl) | (rw [if_neg (by decide +kernel)]; exact ⟨rfl, rfl⟩)
set_option maxRecDepth 100000 in
theorem closed_ : joinedFacts Tryz.pinned.checked.prog 5 Tryz.f5 Rows.runKnownSpec Rows.runKnownRow = true := by
  unfold joinedFacts
  exact and_of (and_of (and_of (and_of (and_of (and_of (and_of (and_of (and_of (and_of (and_of (and_of (and_of (and_of (and_of (and_of (and_of (and_of (and_of (and_of (and_of (and_of (and_of (and_of (and_of (and_of (and_of (and_of (and_of (and_of (and_of (c0) g_laid) g_maps) c3) c4) c5) c6) c7) c8) c9) c10) c11) c12) c13) c14) c15) c16) c17) c18) c19) c20) c21) g_keys) c23) g_heard) g_enter) g_lifts) g_make) c28) c29) c30) c31
end Go.Proofs.YtdffaepbkecoeaaGreat.runKnown
