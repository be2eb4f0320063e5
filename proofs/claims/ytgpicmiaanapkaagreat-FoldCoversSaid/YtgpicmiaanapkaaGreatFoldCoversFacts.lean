import Derived.Test.YtgpicmiaanapkaaGreatG5
import Derived.Test.YtgpicmiaanapkaaGreatG6
import Derived.Test.YtgpicmiaanapkaaGreatG7
namespace Go.Proofs.YtgpicmiaanapkaaGreat.foldCovers
open Go.ChangeShapes Go.WideShapes Go.ChangeAt Go.RowKit
set_option maxRecDepth 100000 in
theorem c0 : (Rows.foldCoversRow.wf (OpenSpec.ofChange Rows.foldCoversSpec)) = true := by kernel_rfl
set_option maxRecDepth 100000 in
theorem c3 : (Tryz.f11.params.all (Tryz.pinned.checked.prog.readableRec ·)) = true := by kernel_rfl
set_option maxRecDepth 100000 in
theorem c4 : (namedTie Tryz.pinned.checked.prog Rows.foldCoversRow.named Rows.foldCoversSpec.vars) = true := by kernel_rfl
set_option maxRecDepth 100000 in
theorem c5 : ((Rows.foldCoversRow.stops == [])) = true := by kernel_rfl
set_option maxRecDepth 100000 in
theorem c6 : ((Tryz.pinned.checked.prog.stops == [])) = true := by kernel_rfl
set_option maxRecDepth 100000 in
theorem c7 : ((Rows.foldCoversRow.knobs == [])) = true := by kernel_rfl
set_option maxRecDepth 100000 in
theorem c8 : ((Tryz.pinned.checked.prog.stopKnobs == [])) = true := by kernel_rfl
set_option maxRecDepth 100000 in
theorem c9 : ((Rows.foldCoversRow.inPlace == Tryz.pinned.checked.prog.inPlace 11)) = true := by kernel_rfl
set_option maxRecDepth 100000 in
theorem c10 : ((Rows.foldCoversRow.unfollowed == Tryz.pinned.checked.prog.unfollowed 11)) = true := by kernel_rfl
set_option maxRecDepth 100000 in
theorem c11 : ((Rows.foldCoversRow.recurses == Tryz.pinned.checked.prog.recurses 11)) = true := by kernel_rfl
set_option maxRecDepth 100000 in
theorem c12 : ((Rows.foldCoversRow.named == Tryz.pinned.checked.prog.varsNamed 11)) = true := by kernel_rfl
set_option maxRecDepth 100000 in
theorem c13 : ((Rows.foldCoversRow.maps == (Tryz.f11.params.toList ++ Rows.foldCoversSpec.plain.varTypes Tryz.pinned.checked.prog).any (Tryz.pinned.checked.prog.mapsRec ·))) = true := by kernel_rfl
set_option maxRecDepth 100000 in
theorem c14 : ((Rows.foldCoversRow.ifaces == (Tryz.f11.params.toList ++ Rows.foldCoversSpec.plain.varTypes Tryz.pinned.checked.prog).any (Tryz.pinned.checked.prog.ifacesRec ·))) = true := by kernel_rfl
set_option maxRecDepth 100000 in
theorem c15 : ((Rows.foldCoversRow.mapsOut == Tryz.pinned.checked.prog.mapsAmong Tryz.f11.resultTypes.toList)) = true := by kernel_rfl
set_option maxRecDepth 100000 in
theorem c16 : ((Rows.foldCoversRow.loops == (Tryz.f11.params.toList ++ Rows.foldCoversSpec.plain.varTypes Tryz.pinned.checked.prog).any (Tryz.pinned.checked.prog.loopsFrom ·))) = true := by kernel_rfl
set_option maxRecDepth 100000 in
theorem c17 : ((Rows.foldCoversRow.wideKeys == (Tryz.f11.params.toList ++ Rows.foldCoversSpec.plain.varTypes Tryz.pinned.checked.prog ++ Tryz.f11.resultTypes.toList).any (Tryz.pinned.checked.prog.wideKeysFrom ·))) = true := by kernel_rfl
set_option maxRecDepth 100000 in
theorem c18 : (Rows.foldCoversSpec.vars.all (Tryz.pinned.checked.prog.varReadable ·)) = true := by kernel_rfl
set_option maxRecDepth 100000 in
theorem c19 : (Tryz.f11.resultTypes.all (fun t => Tryz.pinned.checked.prog.readableRec t && decide (t < Tryz.pinned.checked.prog.types.size))) = true := by kernel_rfl
set_option maxRecDepth 100000 in
theorem c20 : ((Rows.foldCoversRow.ifacesOut == Tryz.f11.resultTypes.toList.any (Tryz.pinned.checked.prog.ifacesRec ·))) = true := by kernel_rfl
set_option maxRecDepth 100000 in
theorem c21 : ((Rows.foldCoversRow.loopsOut == Tryz.f11.resultTypes.toList.any (Tryz.pinned.checked.prog.loopsFrom ·))) = true := by kernel_rfl
set_option maxRecDepth 100000 in
theorem c23 : (Rows.foldCoversRow.shortTexts.isNone) = true := by kernel_rfl
set_option maxRecDepth 100000 in
theorem c28 : ((Rows.foldCoversRow.kinds == (if Rows.foldCoversRow.domain.isEmpty then [] else Tryz.f11.params.toList.map fun t => match Tryz.pinned.checked.prog.underlying t with | some (.int k) => some k | _ => none))) = true := by kernel_rfl
set_option maxRecDepth 100000 in
theorem c29 : ((Rows.foldCoversRow.pinned == Rows.foldCoversRow.pinnedBy)) = true := by kernel_rfl
set_option maxRecDepth 100000 in
theorem c30 : ((Rows.foldCoversRow.veiled == (Tryz.f11.params.toList ++ Rows.foldCoversSpec.plain.varTypes Tryz.pinned.checked.prog ++ Tryz.f11.resultTypes.toList).any (Tryz.pinned.checked.prog.veiledRec ·))) = true := by kernel_rfl
set_option maxRecDepth 100000 in
theorem c31 : (Rows.foldCoversRow.veiledFits Tryz.pinned.checked.prog Tryz.f11.params.toList (Tryz.f11.params.toList ++ Rows.foldCoversSpec.plain.varTypes Tryz.pinned.checked.prog ++ Tryz.f11.resultTypes.toList)) = true := by kernel_rfl
set_option maxRecDepth 100000 in
theorem named_ : Tryz.pinned.checked.prog.funcNamed Rows.foldCoversRow.func = some 11 := by kernel_rfl
set_option maxRecDepth 100000 in
theorem inst_ : Tryz.f11.isInstance Tryz.pinned.checked.prog Rows.foldCoversRow.origin Rows.foldCoversRow.targs := of_decide_eq_true (by kernel_rfl)
set_option maxRecDepth 100000 in
theorem wrap_ : Tryz.f11.isWrapper Tryz.pinned.checked.prog Rows.foldCoversRow.wrapper Rows.foldCoversRow.mainSum := by unfold Func.isWrapper; first | (rw [if_pos (by decide +kernel)]; kernel_rfl) | (rw [if_neg (by decide +kernel)]; exact ⟨rfl, rfl⟩)
set_option maxRecDepth 100000 in
theorem closed_ : joinedFacts Tryz.pinned.checked.prog 11 Tryz.f11 Rows.foldCoversSpec Rows.foldCoversRow = true := by
  unfold joinedFacts
  exact and_of (and_of (and_of (and_of (and_of (and_of (and_of (and_of (and_of (and_of (and_of (and_of (and_of (and_of (and_of (and_of (and_of (and_of (and_of (and_of (and_of (and_of (and_of (and_of (and_of (and_of (and_of (and_of (and_of (and_of (and_of (c0) g_laid) g_maps) c3) c4) c5) c6) c7) c8) c9) c10) c11) c12) c13) c14) c15) c16) c17) c18) c19) c20) c21) g_keys) c23) g_heard) g_enter) g_lifts) g_make) c28) c29) c30) c31
end Go.Proofs.YtgpicmiaanapkaaGreat.foldCovers
