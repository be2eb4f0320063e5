import Derived.Test.YtofkamnmgpkehabIsaTab
import Derived.Test.YtofkamnmgpkehabProg
import Derived.WalkKit
import Derived.WalkSpells
import Derived.WalkLawsBesides
import Derived.Deep.MidRow
namespace Go.Proofs.Ytofkamnmgpkehab
open Go.RowKit

def zeroTab : Array Value := ((List.range 60).flatMap fun _ => [.string ⟨#[]⟩, .int .i64 0, .int .u32 0, .int .i64 0, .int .i64 0, .int .u8 0]).toArray
theorem zero75 (w : World) : (zeroValue 104).run Try.prog w = .ok (.agg zeroTab) w := by kernel_rfl
theorem zero26 (w : World) : (zeroValue 99).run Try.prog w = .ok zeroRow w := by kernel_rfl

/-- Plain operations, one behind the other, that the kernel can run as they stand. -/
def runOps (P : Program) : List Oper → Act → World → Option (Act × World)
  | [], a, w => some (a, w)
  | o :: rest, a, w => if o.guard.isSome then none else
    match (execOp a.eval o).run P w with
    | .ok (.value v) w' => runOps P rest (a.put o.dst v) w'
    | .ok .skip w' => runOps P rest (a.put o.dst undef) w'
    | _ => none

theorem wpList_runOps {P : Program} {ops : Array Oper} {Q : Exit → Act → World → Prop} (rest : List Oper) : ∀ (l : List Oper) (a : Act) (w : World) (a' : Act) (w' : World),
    runOps P l a w = some (a', w') → wpList P ops Q rest a' w' → wpList P ops Q (l ++ rest) a w
  | [], a, w, a', w', h, hr => by
    simp only [runOps, Option.some.injEq, Prod.mk.injEq] at h
    obtain ⟨rfl, rfl⟩ := h
    exact hr
  | o :: l, a, w, a', w', h, hr => by
    simp only [runOps] at h
    split at h
    · cases h
    · rename_i hg
      have hg' : o.guard = none := by simpa using hg
      refine wpList_plain hg' fun K hK => ?_
      unfold Oper.wp
      split at h
      · rename_i v w1 hrun
        rw [hrun, Oper.upon_value]
        exact hK _ _ (wpList_runOps rest l _ _ a' w' h hr)
      · rename_i w1 hrun
        rw [hrun, Oper.upon_skip]
        exact hK _ _ (wpList_runOps rest l _ _ a' w' h hr)
      · cases h

theorem wp_region_runOps {P : Program} {id : Nat} {ops : Array Oper} {Q : Exit → Act → World → Prop} {a : Act} {w : World} (l rest : List Oper) (hl : ops.toList = l ++ rest) (a' : Act) (w' : World)
    (h : runOps P l a w = some (a', w')) (hr : wpList P ops Q rest a' w') : (Code.region id ops false).wp P Q a w :=
  wp_region_list (by rw [hl]; exact wpList_runOps rest l a w a' w' h hr)

def undefs (n : Nat) : Array Value := Array.replicate n undef
noncomputable def regs (id : Nat) : Code → Option (Array Oper)
  | .region i ops _ => if i = id then some ops else none
  | .seq a b => (regs id a).orElse fun _ => regs id b
  | _ => none
noncomputable def ops46 (i : Nat) : Array Oper := (Try.f57.body.bind (regs i)).getD #[]
def rowsFrame (p : Value) (last : Value) : Act := { tmps := #[p] ++ ((List.range' 1 59).map rowVal).toArray ++ #[last], defers := [] }
theorem f46_body : Try.f57.body = some (.seq (.region 0 (ops46 0) false) (.seq (.region 1 (ops46 1) false) .ret)) := by kernel_rfl
theorem rows_run0 (w : World) : runOps Try.prog (ops46 0).toList { tmps := undefs 61, defers := [] } w = some ({ tmps := #[.pointer (some ⟨w.heap.size, 0, none⟩)] ++ undefs 60, defers := [] }, w.alloc (.cells zeroTab 104)) := by kernel_rfl
theorem rows_run (p : Addr) (w : World) : runOps Try.prog ((ops46 1).toList.take 60) { tmps := #[.pointer (some p)] ++ undefs 60, defers := [] } w = some (rowsFrame (.pointer (some p)) (.agg tabCells), w) := by kernel_rfl
noncomputable def rowsStore : Oper := (ops46 1).toList[60]?.getD default
theorem rows_last : (ops46 1).toList.drop 60 = [rowsStore] := by kernel_rfl
theorem rows_split : (ops46 1).toList = (ops46 1).toList.take 60 ++ [rowsStore] := by rw [← rows_last, List.take_append_drop]
theorem rows_store : rowsStore.op = .store 104 (.tmp 0) (.tmp 60) := by kernel_rfl
theorem rows_guard : rowsStore.guard = none := by kernel_rfl
theorem rows_dst : rowsStore.dst = none := by kernel_rfl
theorem info75 : (Try.prog.info? 104).map (·.size) = some tabCells.size := by kernel_rfl
theorem tab_size : zeroTab.size = tabCells.size := by kernel_rfl
theorem tab_one : tabCells.all (·.oneCell') = true := by kernel_rfl
theorem frame0 (p v : Value) : (rowsFrame p v).eval (.tmp 0) = p := by kernel_rfl
theorem frame60 (p v : Value) : (rowsFrame p v).eval (.tmp 60) = v := by kernel_rfl
theorem desc75 : Try.prog.underlying 104 = some (.array 60 99) := by kernel_rfl
theorem frameRes (p v : Value) : ((rowsFrame p v).put none undef).tmps.getD 0 undef = p := by kernel_rfl
theorem res46 : Try.f57.results = #[.cell 0 104] := by kernel_rfl
theorem tmps46 : (#[] : Array Value) ++ Array.replicate (Try.f57.ntmps - (#[] : Array Value).size) undef = undefs 61 := by kernel_rfl

theorem rows_any (w : World) :
    Calls Try.prog 57 #[] w fun e w' => e = .returned (.agg tabCells) ∧ Below w.heap.size w w' := by
  refine calls_of_wp Try.func57 f46_body ?_
  rw [tmps46]
  refine wp_seq (wp_region_runOps _ [] (List.append_nil _).symm _ _ (rows_run0 w) (wpList_nil ?_))
  show Code.wp _ _ _ _ _
  refine wp_seq (wp_region_runOps _ _ rows_split _ _ (rows_run _ _) ?_)
  have hg : (w.alloc (.cells zeroTab 104)).heap[w.heap.size]? = some (.cells zeroTab 104 (0, 0)) := heap_alloc_new w _
  refine wpList_store_row rows_guard 104 (.tmp 0) (.tmp 60) rows_store w.heap.size tabCells (frame0 _ _) (frame60 _ _) 104 zeroTab hg info75 tab_size tab_one ?_
  refine wpList_nil ?_
  show Code.wp _ _ _ _ _
  refine wp_ret ?_
  rw [rows_dst]
  have hg2 : ((w.alloc (.cells zeroTab 104)).setRow w.heap.size tabCells).heap[w.heap.size]? = some (.cells tabCells 104 (0, 0)) := setRow_heap _ _ _ _ _ _ hg
  have hb : Below w.heap.size w ((w.alloc (.cells zeroTab 104)).setRow w.heap.size tabCells) :=
    ((Below.refl _ w).alloc (Nat.le_refl _) _).trans ⟨rfl, rfl, rfl, by simp, fun k hk => setRow_other _ _ _ _ (by omega)⟩
  refine ⟨rfl, _, ?_, rfl, hb⟩
  exact results_cell_row res46 _ _ w.heap.size 104 tabCells (0, 0) _ (frameRes _ _) hg2 desc75 rfl info75

end Go.Proofs.Ytofkamnmgpkehab
