import Derived.RowKit
import Derived.Test.YtgpicmiaanapkaaGreatProg
import Derived.WalkKit
import Derived.WalkSpells
import Derived.WalkLawsBesides
import Derived.Deep.MidRow
import Derived.Lib.Hide
import Derived.Deep.LoopGhost
import Derived.Deep.DeepFit
import Derived.Deep.DeepMust
import Derived.BigQuiet
import Derived.Deep.QuietTactic
import Derived.ChangeAlike
import Derived.Outline
import Derived.Deep.AppendLies
import Derived.Deep.RegionHeld3
import Derived.Laws.AppendOwnNone
/- The table of operations in plain Lean: no program in sight. -/
namespace Go.Proofs.YtgpicmiaanapkaaGreat
def opTab : List (List UInt8 × Nat × Nat × Nat × Nat × Nat) := [
  ([], 0, 0, 0, 0, 0),
  ([110, 111, 112], 0, 0, 0, 0, 1),
  ([98, 114, 101, 97, 107], 0, 0, 0, 0, 8),
  ([101, 110, 116, 101, 114], 2, 65535, 0, 0, 6),
  ([108, 101, 97, 118, 101], 2, 65535, 1, 0, 7),
  ([99, 97, 108, 108], 0, 0, 1, 1, 5),
  ([103, 111, 116, 111], 2, 16383, 0, 0, 3),
  ([106, 117, 109, 112], 0, 0, 1, 0, 4),
  ([99, 111, 110, 115, 116], 4, 4294967295, 0, 1, 1),
  ([108, 111, 99, 97, 108], 4, 4294967295, 0, 1, 1),
  ([112, 111, 112], 0, 0, 1, 0, 1),
  ([100, 117, 112], 0, 0, 1, 2, 1),
  ([97, 114, 103], 1, 14, 1, 0, 1),
  ([101, 113], 2, 16383, 2, 0, 2),
  ([110, 101], 2, 16383, 2, 0, 2),
  ([108, 116, 105], 2, 16383, 2, 0, 2),
  ([108, 101, 105], 2, 16383, 2, 0, 2),
  ([103, 116, 105], 2, 16383, 2, 0, 2),
  ([103, 101, 105], 2, 16383, 2, 0, 2),
  ([108, 116, 117], 2, 16383, 2, 0, 2),
  ([108, 101, 117], 2, 16383, 2, 0, 2),
  ([103, 116, 117], 2, 16383, 2, 0, 2),
  ([103, 101, 117], 2, 16383, 2, 0, 2),
  ([101, 113, 102], 2, 16383, 2, 0, 2),
  ([110, 101, 102], 2, 16383, 2, 0, 2),
  ([108, 116, 102], 2, 16383, 2, 0, 2),
  ([108, 101, 102], 2, 16383, 2, 0, 2),
  ([103, 116, 102], 2, 16383, 2, 0, 2),
  ([103, 101, 102], 2, 16383, 2, 0, 2),
  ([108, 111, 97, 100, 49], 0, 0, 1, 1, 1),
  ([108, 111, 97, 100, 50], 0, 0, 1, 1, 1),
  ([108, 111, 97, 100, 52], 0, 0, 1, 1, 1),
  ([115, 116, 111, 114, 101, 49], 0, 0, 2, 0, 1),
  ([115, 116, 111, 114, 101, 50], 0, 0, 2, 0, 1),
  ([115, 116, 111, 114, 101, 52], 0, 0, 2, 0, 1),
  ([99, 111, 112, 121], 2, 256, 2, 0, 1),
  ([115, 101, 120, 56], 0, 0, 1, 1, 1),
  ([115, 101, 120, 49, 54], 0, 0, 1, 1, 1),
  ([110, 101, 103], 0, 0, 1, 1, 1),
  ([97, 100, 100], 0, 0, 2, 1, 1),
  ([115, 117, 98], 0, 0, 2, 1, 1),
  ([109, 117, 108], 0, 0, 2, 1, 1),
  ([100, 105, 118, 105], 0, 0, 2, 1, 1),
  ([100, 105, 118, 117], 0, 0, 2, 1, 1),
  ([109, 111, 100, 105], 0, 0, 2, 1, 1),
  ([109, 111, 100, 117], 0, 0, 2, 1, 1),
  ([97, 110, 100], 0, 0, 2, 1, 1),
  ([111, 114], 0, 0, 2, 1, 1),
  ([120, 111, 114], 0, 0, 2, 1, 1),
  ([110, 111, 116], 0, 0, 1, 1, 1),
  ([115, 104, 108], 0, 0, 2, 1, 1),
  ([115, 104, 114, 105], 0, 0, 2, 1, 1),
  ([115, 104, 114, 117], 0, 0, 2, 1, 1),
  ([110, 101, 103, 102], 0, 0, 1, 1, 1),
  ([97, 100, 100, 102], 0, 0, 2, 1, 1),
  ([115, 117, 98, 102], 0, 0, 2, 1, 1),
  ([109, 117, 108, 102], 0, 0, 2, 1, 1),
  ([100, 105, 118, 102], 0, 0, 2, 1, 1),
  ([99, 118, 105, 102], 0, 0, 1, 1, 1),
  ([99, 118, 102, 105], 0, 0, 1, 1, 1)]
def rowOf (k : Nat) : List UInt8 × Nat × Nat × Nat × Nat × Nat := opTab.getD k ([], 0, 0, 0, 0, 0)
def wordOf (k : Nat) : List UInt8 := (rowOf k).1
def widthOf (k : Nat) : Nat := (rowOf k).2.1
def mostOf (k : Nat) : Nat := (rowOf k).2.2.1
def takesOf (k : Nat) : Nat := (rowOf k).2.2.2.1
def givesOf (k : Nat) : Nat := (rowOf k).2.2.2.2.1
def kindOf (k : Nat) : Nat := (rowOf k).2.2.2.2.2
def rowCells (k : Nat) : List Value := [.string ⟨(wordOf k).toArray⟩, .int .i64 (widthOf k), .int .u32 (mostOf k), .int .i64 (takesOf k), .int .i64 (givesOf k), .int .u8 (kindOf k)]
def rowVal (k : Nat) : Value := .agg (rowCells k).toArray
def tabCells : Array Value := ((List.range 60).flatMap rowCells).toArray
def zeroRow : Value := .agg #[.string ⟨#[]⟩, .int .i64 0, .int .u32 0, .int .i64 0, .int .i64 0, .int .u8 0]
end Go.Proofs.YtgpicmiaanapkaaGreat
namespace Go.Proofs.YtgpicmiaanapkaaGreat
open Go.RowKit

def zeroTab : Array Value := ((List.range 60).flatMap fun _ => [.string ⟨#[]⟩, .int .i64 0, .int .u32 0, .int .i64 0, .int .i64 0, .int .u8 0]).toArray
theorem zero75 (w : World) : (zeroValue 511).run Tryz.prog w = .ok (.agg zeroTab) w := by kernel_rfl
theorem zero26 (w : World) : (zeroValue 421).run Tryz.prog w = .ok zeroRow w := by kernel_rfl

/-- Plain operations, one behind the other, that the kernel can run as they stand. -/
def runOps (P : Program) : List Oper → Act → World → Option (Act × World)
  | [], a, w => some (a, w)
  | o :: rest, a, w => if o.guard.isSome then none else
    match (execOp a.eval o).run P w with
    | .ok (.value v) w' => runOps P rest (a.put o.dst v) w'
    | .ok .skip w' => runOps P rest (a.put o.dst undef) w'
    | _ => none

theorem wpList_runOps {P : Program} {ops : Array Oper} {Q : Exit → Act → World → Prop} (rest : List Oper) : ∀ (l : List Oper) (a : Act) (w : World) (a' : Act) (w' : World),
    runOps P l a w = some (a', w') → wpList P ops Q rest a' w' → wpList P ops Q (l ++ rest) a w
  | [], a, w, a', w', h, hr => by
    simp only [runOps, Option.some.injEq, Prod.mk.injEq] at h
    obtain ⟨rfl, rfl⟩ := h
    exact hr
  | o :: l, a, w, a', w', h, hr => by
    simp only [runOps] at h
    split at h
    · cases h
    · rename_i hg
      have hg' : o.guard = none := by simpa using hg
      refine wpList_plain hg' fun K hK => ?_
      unfold Oper.wp
      split at h
      · rename_i v w1 hrun
        rw [hrun, Oper.upon_value]
        exact hK _ _ (wpList_runOps rest l _ _ a' w' h hr)
      · rename_i w1 hrun
        rw [hrun, Oper.upon_skip]
        exact hK _ _ (wpList_runOps rest l _ _ a' w' h hr)
      · cases h

theorem wp_region_runOps {P : Program} {id : Nat} {ops : Array Oper} {Q : Exit → Act → World → Prop} {a : Act} {w : World} (l rest : List Oper) (hl : ops.toList = l ++ rest) (a' : Act) (w' : World)
    (h : runOps P l a w = some (a', w')) (hr : wpList P ops Q rest a' w') : (Code.region id ops false).wp P Q a w :=
  wp_region_list (by rw [hl]; exact wpList_runOps rest l a w a' w' h hr)

def undefs (n : Nat) : Array Value := Array.replicate n undef
noncomputable def regs (id : Nat) : Code → Option (Array Oper)
  | .region i ops _ => if i = id then some ops else none
  | .seq a b => (regs id a).orElse fun _ => regs id b
  | _ => none
noncomputable def ops46 (i : Nat) : Array Oper := (Tryz.f376.body.bind (regs i)).getD #[]
def rowsFrame (p : Value) (last : Value) : Act := { tmps := #[p] ++ ((List.range' 1 59).map rowVal).toArray ++ #[last], defers := [] }
theorem f46_body : Tryz.f376.body = some (.seq (.region 0 (ops46 0) false) (.seq (.region 1 (ops46 1) false) .ret)) := by kernel_rfl
theorem rows_run0 (w : World) : runOps Tryz.prog (ops46 0).toList { tmps := undefs 61, defers := [] } w = some ({ tmps := #[.pointer (some ⟨w.heap.size, 0, none⟩)] ++ undefs 60, defers := [] }, w.alloc (.cells zeroTab 511)) := by kernel_rfl
theorem rows_run (p : Addr) (w : World) : runOps Tryz.prog ((ops46 1).toList.take 60) { tmps := #[.pointer (some p)] ++ undefs 60, defers := [] } w = some (rowsFrame (.pointer (some p)) (.agg tabCells), w) := by kernel_rfl
noncomputable def rowsStore : Oper := (ops46 1).toList[60]?.getD default
theorem rows_last : (ops46 1).toList.drop 60 = [rowsStore] := by kernel_rfl
theorem rows_split : (ops46 1).toList = (ops46 1).toList.take 60 ++ [rowsStore] := by rw [← rows_last, List.take_append_drop]
theorem rows_store : rowsStore.op = .store 511 (.tmp 0) (.tmp 60) := by kernel_rfl
theorem rows_guard : rowsStore.guard = none := by kernel_rfl
theorem rows_dst : rowsStore.dst = none := by kernel_rfl
theorem info75 : (Tryz.prog.info? 511).map (·.size) = some tabCells.size := by kernel_rfl
theorem tab_size : zeroTab.size = tabCells.size := by kernel_rfl
theorem tab_one : tabCells.all (·.oneCell') = true := by kernel_rfl
theorem frame0 (p v : Value) : (rowsFrame p v).eval (.tmp 0) = p := by kernel_rfl
theorem frame60 (p v : Value) : (rowsFrame p v).eval (.tmp 60) = v := by kernel_rfl
theorem desc75 : Tryz.prog.underlying 511 = some (.array 60 421) := by kernel_rfl
theorem frameRes (p v : Value) : ((rowsFrame p v).put none undef).tmps.getD 0 undef = p := by kernel_rfl
theorem res46 : Tryz.f376.results = #[.cell 0 511] := by kernel_rfl
theorem tmps46 : (#[] : Array Value) ++ Array.replicate (Tryz.f376.ntmps - (#[] : Array Value).size) undef = undefs 61 := by kernel_rfl

theorem rows_any (w : World) :
    Calls Tryz.prog 376 #[] w fun e w' => e = .returned (.agg tabCells) ∧ Below w.heap.size w w' := by
  refine calls_of_wp Tryz.func376 f46_body ?_
  rw [tmps46]
  refine wp_seq (wp_region_runOps _ [] (List.append_nil _).symm _ _ (rows_run0 w) (wpList_nil ?_))
  show Code.wp _ _ _ _ _
  refine wp_seq (wp_region_runOps _ _ rows_split _ _ (rows_run _ _) ?_)
  have hg : (w.alloc (.cells zeroTab 511)).heap[w.heap.size]? = some (.cells zeroTab 511 (0, 0)) := heap_alloc_new w _
  refine wpList_store_row rows_guard 511 (.tmp 0) (.tmp 60) rows_store w.heap.size tabCells (frame0 _ _) (frame60 _ _) 511 zeroTab hg info75 tab_size tab_one ?_
  refine wpList_nil ?_
  show Code.wp _ _ _ _ _
  refine wp_ret ?_
  rw [rows_dst]
  have hg2 : ((w.alloc (.cells zeroTab 511)).setRow w.heap.size tabCells).heap[w.heap.size]? = some (.cells tabCells 511 (0, 0)) := setRow_heap _ _ _ _ _ _ hg
  have hb : Below w.heap.size w ((w.alloc (.cells zeroTab 511)).setRow w.heap.size tabCells) :=
    ((Below.refl _ w).alloc (Nat.le_refl _) _).trans ⟨rfl, rfl, rfl, by simp, fun k hk => setRow_other _ _ _ _ (by omega)⟩
  refine ⟨rfl, _, ?_, rfl, hb⟩
  exact results_cell_row res46 _ _ w.heap.size 511 tabCells (0, 0) _ (frameRes _ _) hg2 desc75 rfl info75

end Go.Proofs.YtgpicmiaanapkaaGreat
/- What the walks of this seat have in common: imports, and small laws over any program. -/
namespace Go.Proofs.YtgpicmiaanapkaaGreat
open Go.RowKit
theorem bcell {W w1 : World} {B : Nat} (hb : Below B W w1) : (∀ b o, b < B → w1.cell? ⟨b, o, none⟩ = W.cell? ⟨b, o, none⟩) ∧ (∀ b o, b < B → w1.frozen? ⟨b, o, none⟩ = W.frozen? ⟨b, o, none⟩) :=
  ⟨fun b o h => hb.cell (p := ⟨b, o, none⟩) h, fun b o h => hb.frozen (p := ⟨b, o, none⟩) h⟩

theorem setRow_new (w : World) (Z T : Array Value) (t : TypeId) : (w.alloc (.cells Z t)).setRow w.heap.size T = w.alloc (.cells T t) := by
  unfold World.setRow World.alloc
  congr 1
  apply Array.ext
  · simp
  · intro i h1 h2
    simp only [Array.getElem_modify, Array.getElem_push]
    split
    · rename_i h; subst h; simp
    · rename_i h; split
      · rfl
      · simp at h1; omega

section
variable {P : Program}
/-- A whole row or struct goes into the block that has just been laid. -/
theorem wpList_store_new {ops : Array Oper} {rest : List Oper} {o : Oper} {a : Act} {w : World} {Q : Exit → Act → World → Prop} (hgd : o.guard = none) (ty : TypeId) (x y : Operand) (ho : o.op = .store ty x y)
    (cells : Array Value) (hx : a.eval x = .pointer (some ⟨w.heap.size, 0, none⟩)) (hy : a.eval y = .agg cells)
    (t : TypeId) (old : Array Value) (hi : (P.info? ty).map (·.size) = some cells.size)
    (hold : old.size = cells.size) (h1 : cells.all (·.oneCell') = true)
    (h : wpList P ops Q rest (a.put o.dst undef) (w.alloc (.cells cells t))) : wpList P ops Q (o :: rest) a (w.alloc (.cells old t)) :=
  wpList_store_row hgd ty x y ho w.heap.size cells hx hy t old (heap_alloc_new w _) hi hold h1 (by rw [setRow_new]; exact h)
/-- An operation that reads no memory, run by the kernel. -/
theorem wpList_runV {ops : Array Oper} {rest : List Oper} {o : Oper} {a : Act} {w : World} {Q : Exit → Act → World → Prop} (hg : o.guard = none)
    (v : Value) (hrun : (execOp a.eval o).run P w = .ok (.value v) w)
    (h : wpList P ops Q rest (a.put o.dst v) w) : wpList P ops Q (o :: rest) a w := by
  refine wpList_plain hg fun K hK => ?_
  unfold Oper.wp
  rw [hrun, Oper.upon_value]
  exact hK _ _ h
/-- The results of a function whose first one lies in a cell, the second in a slot. -/
theorem results_cell_tmp {fn : Func} {p q : Tmp} {ty : TypeId} (h : fn.results = #[.cell p ty, .tmp q]) (tmps : Array Value) (w : World) (g : Nat) (t : TypeId) (cs : Array Value) (fr : Nat × Nat) (d : TypeDesc)
    (hp : tmps.getD p undef = .pointer (some ⟨g, 0, none⟩)) (hg : w.heap[g]? = some (.cells cs t fr))
    (hu : P.underlying ty = some d) (hd : (match d with | .struct _ | .array _ _ => true | _ => false) = true) (hi : (P.info? ty).map (·.size) = some cs.size) (v : Value) (hv : tmps.getD q undef = v) :
    (results fn tmps).run P w = .ok (.tuple #[.agg cs, v]) w := by
  have hp' : tmps[p]?.getD undef = .pointer (some ⟨g, 0, none⟩) := by simpa using hp
  have hv' : tmps[q]?.getD undef = v := by simpa using hv
  simp [results, h, hp', hv', asAddr, run_loadVar_row w g t ty cs fr d hg hu hd hi]
end
theorem below_setRow {B : Nat} {w w' : World} (h : Below B w w') (g : Nat) (hg : B ≤ g) (T : Array Value) : Below B w (w'.setRow g T) :=
  h.trans ⟨rfl, rfl, rfl, by simp, fun k hk => setRow_other _ _ _ _ (by omega)⟩

theorem Bel.tr {w w1 w2 : World} (h : Below w.heap.size w w1) (h2 : Below w1.heap.size w1 w2) : Below w.heap.size w w2 := h.trans (h2.mono h.size)
theorem Bel.al {w w1 : World} (h : Below w.heap.size w w1) (o : Obj) : Below w.heap.size w (w1.alloc o) := h.alloc h.size o
theorem Bel.new (w : World) (o : Obj) : Below w.heap.size w (w.alloc o) := (Below.refl _ _).alloc (Nat.le_refl _) o
theorem Bel.dr {w w1 : World} (h : Below w.heap.size w w1) : Below w.heap.size w w1.drew := h.drew
theorem Bel.lt {w w1 : World} {o : Obj} (h : Below (w.alloc o).heap.size (w.alloc o) w1) : w.heap.size < w1.heap.size := by have := h.size; simp at this; omega
theorem Bel.of {w w1 : World} {o : Obj} (h : Below (w.alloc o).heap.size (w.alloc o) w1) : Below w.heap.size w w1 := Bel.tr (Bel.new w o) h

theorem u8_of {x : Int} (h : (Lit.int .u8 x).wf = true) : ∃ k : Nat, x = k ∧ k < 256 := by
  have h1 : IntKind.u8.min = 0 := rfl
  have h2 : IntKind.u8.max = 255 := rfl
  simp only [Lit.wf, Bool.and_eq_true, decide_eq_true_eq] at h
  exact ⟨x.toNat, by omega, by omega⟩
theorem u32_of {x : Int} (h : (Lit.int .u32 x).wf = true) : ∃ k : Nat, x = k ∧ k < 4294967296 := by
  have h1 : IntKind.u32.min = 0 := rfl
  have h2 : IntKind.u32.max = 4294967295 := rfl
  simp only [Lit.wf, Bool.and_eq_true, decide_eq_true_eq] at h
  exact ⟨x.toNat, by omega, by omega⟩
end Go.Proofs.YtgpicmiaanapkaaGreat
namespace Go.Proofs.YtgpicmiaanapkaaGreat
open Go.RowKit
theorem flat_at (f : Nat → List Value) (m : Nat) (hf : ∀ k, (f k).length = m) : ∀ (n s i j : Nat), i < n → j < m → ((List.range' s n).flatMap f)[m * i + j]? = (f (s + i))[j]?
  | 0, s, i, j, hi, _ => by omega
  | n + 1, s, i, j, hi, hj => by
    rw [List.range'_succ, List.flatMap_cons, List.getElem?_append]
    cases i with
    | zero => simp [hf, hj]
    | succ i =>
      have h1 : ¬ (m * (i + 1) + j < (f s).length) := by rw [hf, Nat.mul_succ]; omega
      rw [if_neg h1, hf, show m * (i + 1) + j - m = m * i + j from by rw [Nat.mul_succ]; omega, flat_at f m hf n (s + 1) i j (by omega) hj, show s + 1 + i = s + (i + 1) from by omega]
theorem tab_at (k : Nat) (hk : k < 60) (j : Nat) (hj : j < 6) : tabCells[6 * k + j]? = (rowCells k)[j]? := by
  have := flat_at rowCells 6 (fun _ => rfl) 60 0 k j hk hj
  rw [Nat.zero_add] at this
  rw [← this]
  unfold tabCells
  rw [List.getElem?_toArray, List.range_eq_range']


set_option maxRecDepth 100000 in
set_option maxHeartbeats 400000 in
theorem info_no (k : Nat) (hk : k < 1 ∨ 59 < k) (h2 : k < 256) (w : World) :
    Calls Tryz.prog 294 #[.int .u8 k] w fun e w' => e = .returned (.tuple #[zeroRow, .bool false]) ∧ Below w.heap.size w w' := by
  have hz := zero26
  unfold zeroRow at *
  rcases hk with hk | hk
  · go_enter Tryz.func294, Tryz.ntmps294
    go_wp2
    exact bodyPost_ret (v := .tuple #[zeroRow, .bool false]) (by simp [results, Tryz.results294, go_sem, zeroRow]) rfl ⟨rfl, (Below.refl _ _).alloc (Nat.le_refl _) _⟩
  · have hk' : ¬ (k < 1) := by omega
    go_enter Tryz.func294, Tryz.ntmps294
    go_wp2
    exact bodyPost_ret (v := .tuple #[zeroRow, .bool false]) (by simp [results, Tryz.results294, go_sem, zeroRow]) rfl ⟨rfl, (Below.refl _ _).alloc (Nat.le_refl _) _⟩

theorem info26 : (Tryz.prog.info? 421).map (·.size) = some 6 := by kernel_rfl
set_option maxRecDepth 100000 in
set_option maxHeartbeats 400000 in
theorem info_yes (k : Nat) (hk : 1 ≤ k) (h2 : k ≤ 59) (w : World) :
    Calls Tryz.prog 294 #[.int .u8 k] w fun e w' => e = .returned (.tuple #[rowVal k, .bool true]) ∧ Below w.heap.size w w' := by
  have hz := zero26
  have hz75 := zero75
  have hi := info75
  have ho := tab_one
  have hs := tab_size
  have hr := rows_any
  have ht := fun j => tab_at k (by omega) j
  generalize zeroTab = Z at hz75 hs
  generalize tabCells = T at hi ho hs hr ht
  have hrange : ∀ W : World, (W.alloc (.cells T 511)).rangeAt W.heap.size (k * 6) (rowCells k) := by
    intro W j v hv
    have hj : j < 6 := (List.getElem?_eq_some_iff.1 hv).1
    rw [cell_of_row _ _ _ _ _ _ (heap_alloc_new W _), Nat.mul_comm, ht j hj, hv]
  have hone : (rowCells k).toArray.all (·.oneCell') = true := by simp [rowCells, Value.oneCell']
  have hlen : (rowCells k).length = 6 := rfl
  have hval : rowVal k = .agg (rowCells k).toArray := rfl
  generalize rowVal k = V at hval
  generalize rowCells k = rc at hval hrange hone hlen
  have Hi := Lib.hid hi
  have Ho := Lib.hid ho
  have Hs := Lib.hid hs
  have Hr := Lib.hid hrange
  have Hv := Lib.hid hval
  have Hl := Lib.hid hlen
  have Hn := Lib.hid hone
  clear hi ho hs ht hrange hval hlen hone
  unfold zeroRow at *
  go_enter Tryz.func294, Tryz.ntmps294
  go_wp2_with fail
  refine (hr _).mono ?_
  rintro e w1 ⟨rfl, hb⟩
  clear hr
  have hsz := Lib.hid (show (Tryz.prog.info? 421).map (·.size) = some rc.toArray.size from by rw [List.size_toArray, Hl.out]; exact info26)
  have hold := Lib.hid (show (6 : Nat) = rc.toArray.size from by rw [List.size_toArray, Hl.out])
  have hblk := Lib.hid ((Below.heap_alloc w1 (.cells T 511) w.heap.size (by have := hb.size; simp at this; omega)).trans ((hb.block w.heap.size (by simp)).trans (heap_alloc_new w _)))
  have hbelow := Lib.hid (below_setRow ((((Below.refl _ w).alloc (Nat.le_refl _) _).trans (hb.mono (by simp))).alloc (by have := hb.size; simp at this; omega) (.cells T 511)) w.heap.size (Nat.le_refl _) rc.toArray)
  have hlast := Lib.hid (setRow_heap _ _ _ rc.toArray _ _ hblk.out)
  clear hb
  go_wp2_with (first | ((with_reducible refine wpList_store_new (o := ⟨none, .store 511 (.tmp 4) (.tmp 12), _, _, _, none⟩) rfl 511 _ _ rfl T ?_ ?_ 511 Z Hi.out Hs.out Ho.out ?_); rfl; rfl) | ((with_reducible refine wpList_load_mid (op := ⟨some 15, .load 421 (.tmp 14), _, _, _, none⟩) rfl 421 _ rfl w1.heap.size (k * 6) ?_ rc _ (Hr.out _) Tryz.underlying421 ?_ ?_ ?_); rfl; rfl; (rw [Hl.out]; exact info26)) | ((with_reducible refine wpList_store_row (o := ⟨none, .store 421 (.tmp 2) (.tmp 15), _, _, _, none⟩) rfl 421 _ _ rfl w.heap.size rc.toArray ?_ ?_ 421 _ hblk.out hsz.out ?_ Hn.out ?_); rfl; rfl; exact hold.out))
  refine bodyPost_ret (v := .tuple #[V, .bool true]) ?_ rfl ?_
  · rw [Hv.out]; exact results_cell_tmp Tryz.results294 _ _ w.heap.size 421 rc.toArray (0, 0) _ rfl hlast.out Tryz.underlying421 rfl hsz.out _ rfl
  · exact ⟨rfl, hbelow.out⟩
end Go.Proofs.YtgpicmiaanapkaaGreat
namespace Go.Proofs.YtgpicmiaanapkaaGreat
open Go.RowKit
def isOp (k : Nat) : Bool := decide (1 ≤ k ∧ k ≤ 59)
theorem rowVal_none (k : Nat) (hk : ¬ (1 ≤ k ∧ k ≤ 59)) : rowVal k = zeroRow := by
  have : rowOf k = ([], 0, 0, 0, 0, 0) := by
    unfold rowOf
    by_cases h : k = 0
    · subst h; rfl
    · rw [List.getD_eq_getElem?_getD, List.getElem?_eq_none (by show 60 ≤ k; omega)]; rfl
  simp [rowVal, rowCells, wordOf, widthOf, mostOf, takesOf, givesOf, kindOf, this, zeroRow]
theorem info_any (k : Nat) (h2 : k < 256) (w : World) :
    Calls Tryz.prog 294 #[.int .u8 k] w fun e w' => e = .returned (.tuple #[rowVal k, .bool (isOp k)]) ∧ Below w.heap.size w w' := by
  by_cases hk : 1 ≤ k ∧ k ≤ 59
  · rw [show isOp k = true from by simp [isOp, hk]]; exact info_yes k hk.1 hk.2 w
  · rw [show isOp k = false from by simpa [isOp] using hk, rowVal_none k hk]; exact info_no k (by omega) h2 w
end Go.Proofs.YtgpicmiaanapkaaGreat
/- Where blocks begin: plain. -/
namespace Go.Proofs.YtgpicmiaanapkaaGreat
set_option linter.unusedVariables false
/-- Where blocks begin: a step of an instruction. -/
def leadStep (L : List Bool) (i : Nat) (ins : Nat × Nat) : List Bool :=
  if kindOf ins.1 = 6 then L.set i true
  else if kindOf ins.1 = 2 ∨ kindOf ins.1 = 3 then (L.set ins.2 true).set (i + 1) true
  else if kindOf ins.1 = 4 ∨ kindOf ins.1 = 5 ∨ kindOf ins.1 = 7 ∨ kindOf ins.1 = 8 then L.set (i + 1) true else L
def leadTo (code : List (Nat × Nat)) : Nat → List Bool
  | 0 => (List.replicate (code.length + 1) false).set code.length true
  | k + 1 => leadStep (leadTo code k) k (code.getD k (0, 0))
def leadJ (code : List (Nat × Nat)) (js : List Nat) : Nat → List Bool
  | 0 => leadTo code code.length
  | k + 1 => (leadJ code js k).set (js.getD k 0) true
def leadN (code : List (Nat × Nat)) (js : List Nat) : List Bool := leadJ code js js.length
theorem leadStep_length (L : List Bool) (i : Nat) (ins : Nat × Nat) : (leadStep L i ins).length = L.length := by
  unfold leadStep; repeat' split
  all_goals simp
theorem leadTo_length (code : List (Nat × Nat)) : ∀ k, (leadTo code k).length = code.length + 1
  | 0 => by simp [leadTo]
  | k + 1 => by rw [leadTo, leadStep_length, leadTo_length code k]
theorem leadJ_length (code : List (Nat × Nat)) (js : List Nat) : ∀ k, (leadJ code js k).length = code.length + 1
  | 0 => leadTo_length _ _
  | k + 1 => by rw [leadJ, List.length_set, leadJ_length code js k]
theorem set_true {L : List Bool} {i x : Nat} (h : L.getD x false = true) : (L.set i true).getD x false = true := by
  rw [List.getD_eq_getElem?_getD] at *
  rw [List.getElem?_set]
  split
  · split
    · rfl
    · rename_i e h2
      subst e
      rw [List.getElem?_eq_none (by omega)] at h
      cases h
  · exact h
theorem set_here {L : List Bool} {i : Nat} (h : i < L.length) : (L.set i true).getD i false = true := by
  rw [List.getD_eq_getElem?_getD, List.getElem?_set_self h]; rfl
theorem leadStep_true {L : List Bool} {x : Nat} (h : L.getD x false = true) (i : Nat) (ins : Nat × Nat) : (leadStep L i ins).getD x false = true := by
  unfold leadStep
  split
  · exact set_true h
  split
  · exact set_true (set_true h)
  split
  · exact set_true h
  · exact h
theorem leadTo_end (code : List (Nat × Nat)) : ∀ k, (leadTo code k).getD code.length false = true
  | 0 => set_here (by simp)
  | k + 1 => leadStep_true (leadTo_end code k) _ _
theorem leadTo_aim {code : List (Nat × Nat)} {i : Nat} (hk : kindOf (code.getD i (0, 0)).1 = 2 ∨ kindOf (code.getD i (0, 0)).1 = 3) (ha : (code.getD i (0, 0)).2 ≤ code.length) :
    ∀ k, i < k → (leadTo code k).getD (code.getD i (0, 0)).2 false = true
  | 0, h => absurd h (Nat.not_lt_zero i)
  | k + 1, h => by
    by_cases e : i = k
    · subst e
      rw [leadTo, leadStep, if_neg (by omega), if_pos hk]
      exact set_true (set_here (by rw [leadTo_length]; omega))
    · exact leadStep_true (leadTo_aim hk ha k (by omega)) _ _
theorem leadJ_true {code : List (Nat × Nat)} {js : List Nat} {x : Nat} (h : (leadTo code code.length).getD x false = true) : ∀ k, (leadJ code js k).getD x false = true
  | 0 => h
  | k + 1 => set_true (leadJ_true h k)
theorem leadJ_jump {code : List (Nat × Nat)} {js : List Nat} {i : Nat} (ha : js.getD i 0 ≤ code.length) : ∀ k, i < k → (leadJ code js k).getD (js.getD i 0) false = true
  | 0, h => absurd h (Nat.not_lt_zero i)
  | k + 1, h => by
    by_cases e : i = k
    · subst e
      exact set_here (by rw [leadJ_length]; omega)
    · exact set_true (leadJ_jump ha k (by omega))
def leadB (code : List (Nat × Nat)) (js : List Nat) (x : Nat) : Bool := (leadN code js).getD x false
theorem leadB_end (code : List (Nat × Nat)) (js : List Nat) : leadB code js code.length = true := leadJ_true (leadTo_end _ _) _
theorem leadB_aim {code : List (Nat × Nat)} (js : List Nat) {i : Nat} (hi : i < code.length) (hk : kindOf (code.getD i (0, 0)).1 = 2 ∨ kindOf (code.getD i (0, 0)).1 = 3) (ha : (code.getD i (0, 0)).2 ≤ code.length) :
    leadB code js (code.getD i (0, 0)).2 = true := leadJ_true (leadTo_aim hk ha _ hi) _
theorem leadB_jump {code : List (Nat × Nat)} {js : List Nat} {i : Nat} (hi : i < js.length) (ha : js.getD i 0 ≤ code.length) : leadB code js (js.getD i 0) = true := leadJ_jump ha _ hi
end Go.Proofs.YtgpicmiaanapkaaGreat
/- The marks of playpenkit. -/
namespace Go.Proofs.YtgpicmiaanapkaaGreat
open Go.RowKit
theorem mkB_is : ∃ f : Int → Int → Nat, ∀ k i, f k i < 256 ∧ (f k i : Int) = bits BinOp.xor IntKind.u32 ((wrap64 (k + 2) % 4294967296 * 2654435761 + i % 4294967296 * 2246822519) % 4294967296)
  ((wrap64 (k + 2) % 4294967296 * 2654435761 + i % 4294967296 * 2246822519) % 4294967296 / 32768) * 739982445 % 4294967296 / 16777216 := by
  refine ⟨fun k i => (bits BinOp.xor IntKind.u32 ((wrap64 (k + 2) % 4294967296 * 2654435761 + i % 4294967296 * 2246822519) % 4294967296)
  ((wrap64 (k + 2) % 4294967296 * 2654435761 + i % 4294967296 * 2246822519) % 4294967296 / 32768) * 739982445 % 4294967296 / 16777216).toNat, fun k i => ?_⟩
  dsimp only
  generalize bits BinOp.xor _ _ _ = x
  omega
/-- The mark of a byte. -/
noncomputable def mkB : Int → Int → Nat := mkB_is.choose
theorem mkB_lt (k i : Int) : mkB k i < 256 := (mkB_is.choose_spec k i).1
theorem mkB_eq (k i : Int) : (mkB k i : Int) = bits BinOp.xor IntKind.u32 ((wrap64 (k + 2) % 4294967296 * 2654435761 + i % 4294967296 * 2246822519) % 4294967296)
  ((wrap64 (k + 2) % 4294967296 * 2654435761 + i % 4294967296 * 2246822519) % 4294967296 / 32768) * 739982445 % 4294967296 / 16777216 := (mkB_is.choose_spec k i).2
theorem mkC_is : ∃ f : Int → Int → Nat × Nat, ∀ k i, ((f k i).1 < 256 ∧ (f k i).2 < 4294967296) ∧ ((f k i).1 : Int) = wrap64 (200 + k.tmod 50) % 256 ∧ ((f k i).2 : Int) = wrap64 (wrap64 (1000003 * wrap64 (k + 1)) + i) % 4294967296 := by
  refine ⟨fun k i => ((wrap64 (200 + k.tmod 50) % 256).toNat, (wrap64 (wrap64 (1000003 * wrap64 (k + 1)) + i) % 4294967296).toNat), fun k i => ?_⟩
  dsimp only
  omega
/-- The mark of an instruction. -/
noncomputable def mkC : Int → Int → Nat × Nat := mkC_is.choose
theorem mkC_lt (k i : Int) : (mkC k i).1 < 256 ∧ (mkC k i).2 < 4294967296 := (mkC_is.choose_spec k i).1
theorem mkC_eq (k i : Int) : ((mkC k i).1 : Int) = wrap64 (200 + k.tmod 50) % 256 ∧ ((mkC k i).2 : Int) = wrap64 (wrap64 (1000003 * wrap64 (k + 1)) + i) % 4294967296 := (mkC_is.choose_spec k i).2
theorem mkI_is : ∃ f : Int → Int → Int, ∀ k i, f k i = wrap64 (wrap64 (1000003 * wrap64 (k + 1)) + i) := ⟨_, fun _ _ => rfl⟩
/-- The mark of a number. -/
noncomputable def mkI : Int → Int → Int := mkI_is.choose
theorem mkI_eq (k i : Int) : mkI k i = wrap64 (wrap64 (1000003 * wrap64 (k + 1)) + i) := mkI_is.choose_spec k i
theorem ret_intE {k : IntKind} {a b : Int} (h : a = b) : Ending.returned (.int k a) = .returned (.int k b) := by rw [h]
end Go.Proofs.YtgpicmiaanapkaaGreat
/- Slices: what a walk is told of a slice that it reads; rows that the call owns. Over any program. -/
namespace Go.Proofs.YtgpicmiaanapkaaGreat
open Go.RowKit

/-- v is a slice of n elements of sz cells each; its cells are cs. -/
def Reads (w : World) (sz : Nat) (v : Value) (n : Nat) (cs : List Value) : Prop :=
  ∃ (a : Option Addr) (cap : Nat), v = .slice a n cap ∧ cs.length = n * sz ∧ n ≤ cap ∧ cap ≤ maxLen ∧ (a = none → cap = 0) ∧
    (0 < n → ∃ b off, a = some ⟨b, off, none⟩ ∧ b < w.heap.size ∧ ∀ j, j < cs.length → w.cell? ⟨b, off + j, none⟩ = cs[j]?)

theorem Reads.below {w w' : World} {sz n : Nat} {v : Value} {cs : List Value} (h : Reads w sz v n cs) (hb : Below w.heap.size w w') : Reads w' sz v n cs := by
  obtain ⟨a, cap, hv, hl, hn, hm, ha, hp⟩ := h
  refine ⟨a, cap, hv, hl, hn, hm, ha, fun h0 => ?_⟩
  obtain ⟨b, off, e, hlt, hc⟩ := hp h0
  exact ⟨b, off, e, Nat.lt_of_lt_of_le hlt hb.size, fun j hj => (hb.cell (p := ⟨b, off + j, none⟩) hlt).trans (hc j hj)⟩

theorem Reads.nil (w : World) (sz : Nat) : Reads w sz (.slice none 0 0) 0 [] :=
  ⟨none, 0, rfl, by simp, Nat.le_refl _, Nat.zero_le _, fun _ => rfl, fun h => absurd h (Nat.lt_irrefl _)⟩

/-- What is owned may be read. -/
theorem Reads.own {w : World} {base e sz n : Nat} {v : Value} {cs : List Value} (h : w.ownsRow base e sz v n cs) (_hsz : 0 < sz) : Reads w sz v n cs := by
  obtain ⟨hl, h⟩ := h
  rcases h with ⟨rfl, rfl⟩ | ⟨g, cap, cur, rfl, hb, hg, hn, hm, hcs, ht⟩
  · exact ⟨none, 0, rfl, hl, Nat.le_refl _, Nat.zero_le _, fun _ => rfl, fun h => absurd h (Nat.lt_irrefl _)⟩
  · refine ⟨_, cap, rfl, hl, hn, hm, (fun h => by cases h), fun _ => ⟨g, 0, rfl, (Array.getElem?_eq_some_iff.1 hg).1, fun j hj => ?_⟩⟩
    rw [Nat.zero_add, cell_of_row w g j cur e (0, 0) hg, ← ht, List.getElem?_take, if_pos (by omega)]
    simp

/-- Instructions as cells. -/
def encI : List (Nat × Nat) → List Value
  | [] => []
  | i :: l => .int .u8 i.1 :: .int .u32 i.2 :: encI l
theorem encI_length (l : List (Nat × Nat)) : (encI l).length = l.length * 2 := by
  induction l with
  | nil => rfl
  | cons i l ih => simp [encI, ih]; omega
theorem encI_op (l : List (Nat × Nat)) : ∀ k, k < l.length → (encI l)[k * 2]? = some (.int .u8 (l.getD k (0, 0)).1) := by
  induction l with
  | nil => intro k h; simp at h
  | cons i l ih =>
    intro k h
    cases k with
    | zero => rfl
    | succ k =>
      have := ih k (by simpa using h)
      rw [show (k + 1) * 2 = k * 2 + 1 + 1 from by omega]
      simpa [encI] using this
theorem encI_arg (l : List (Nat × Nat)) : ∀ k, k < l.length → (encI l)[k * 2 + 1]? = some (.int .u32 (l.getD k (0, 0)).2) := by
  induction l with
  | nil => intro k h; simp at h
  | cons i l ih =>
    intro k h
    cases k with
    | zero => rfl
    | succ k =>
      have := ih k (by simpa using h)
      rw [show (k + 1) * 2 + 1 = k * 2 + 1 + 1 + 1 from by omega]
      simpa [encI] using this
theorem encI_append (l m : List (Nat × Nat)) : encI (l ++ m) = encI l ++ encI m := by
  induction l with
  | nil => rfl
  | cons i l ih => simp [encI, ih]

/-- Numbers as cells. -/
def encN (k : IntKind) (l : List Nat) : List Value := l.map fun (x : Nat) => Value.int k (x : Int)
theorem encN_length (k : IntKind) (l : List Nat) : (encN k l).length = l.length := by simp [encN]
theorem encN_at (k : IntKind) (l : List Nat) (j : Nat) (h : j < l.length) : (encN k l)[j]? = some (.int k (l.getD j 0 : Nat)) := by
  simp [encN, List.getElem?_eq_getElem h]
theorem encN_append (k : IntKind) (l m : List Nat) : encN k (l ++ m) = encN k l ++ encN k m := by simp [encN]

/-- A slice of instructions, with each number in its range. -/
def Instrs (w : World) (v : Value) (l : List (Nat × Nat)) : Prop := Reads w 2 v l.length (encI l) ∧ ∀ i ∈ l, i.1 < 256 ∧ i.2 < 4294967296
def Bytes (w : World) (v : Value) (l : List Nat) : Prop := Reads w 1 v l.length (encN .u8 l) ∧ ∀ i ∈ l, i < 256
theorem Instrs.below {w w' : World} {v : Value} {l : List (Nat × Nat)} (h : Instrs w v l) (hb : Below w.heap.size w w') : Instrs w' v l := ⟨h.1.below hb, h.2⟩
theorem Bytes.below {w w' : World} {v : Value} {l : List Nat} (h : Bytes w v l) (hb : Below w.heap.size w w') : Bytes w' v l := ⟨h.1.below hb, h.2⟩
/-- Opened for a walk: the cells of each instruction. -/
theorem Instrs.opened {w : World} {v : Value} {l : List (Nat × Nat)} (h : Instrs w v l) : ∃ (a : Option Addr) (cap : Nat), v = .slice a l.length cap ∧ l.length ≤ cap ∧ cap ≤ maxLen ∧ (a = none → cap = 0) ∧
    (0 < l.length → ∃ b off, a = some ⟨b, off, none⟩ ∧ b < w.heap.size ∧ ∀ k, k < l.length → w.cell? ⟨b, off + k * 2, none⟩ = some (.int .u8 (l.getD k (0, 0)).1) ∧ w.cell? ⟨b, off + k * 2 + 1, none⟩ = some (.int .u32 (l.getD k (0, 0)).2)) := by
  obtain ⟨⟨a, cap, hv, hl, hn, hm, ha, hp⟩, _⟩ := h
  refine ⟨a, cap, hv, hn, hm, ha, fun h0 => ?_⟩
  obtain ⟨b, off, e, hlt, hc⟩ := hp h0
  refine ⟨b, off, e, hlt, fun k hk => ⟨?_, ?_⟩⟩
  · rw [hc _ (by rw [hl]; omega), encI_op l k hk]
  · rw [Nat.add_assoc, hc _ (by rw [hl]; omega), encI_arg l k hk]
theorem Bytes.opened {w : World} {v : Value} {l : List Nat} (h : Bytes w v l) : ∃ (a : Option Addr) (cap : Nat), v = .slice a l.length cap ∧ l.length ≤ cap ∧ cap ≤ maxLen ∧ (a = none → cap = 0) ∧
    (0 < l.length → ∃ b off, a = some ⟨b, off, none⟩ ∧ b < w.heap.size ∧ ∀ k, k < l.length → w.cell? ⟨b, off + k, none⟩ = some (.int .u8 (l.getD k 0 : Nat))) := by
  obtain ⟨⟨a, cap, hv, hl, hn, hm, ha, hp⟩, _⟩ := h
  refine ⟨a, cap, hv, hn, hm, ha, fun h0 => ?_⟩
  obtain ⟨b, off, e, hlt, hc⟩ := hp h0
  exact ⟨b, off, e, hlt, fun k hk => by rw [hc _ (by rw [encN_length]; omega), encN_at _ l k hk]⟩
theorem Instrs.lt {w : World} {v : Value} {l : List (Nat × Nat)} (h : Instrs w v l) (k : Nat) : (l.getD k (0, 0)).1 < 256 ∧ (l.getD k (0, 0)).2 < 4294967296 := by
  rw [List.getD_eq_getElem?_getD]
  cases hk : l[k]? with
  | none => exact ⟨by decide, by decide⟩
  | some i => exact h.2 i (List.mem_of_getElem? hk)
theorem Bytes.lt {w : World} {v : Value} {l : List Nat} (h : Bytes w v l) (k : Nat) : l.getD k 0 < 256 := by
  rw [List.getD_eq_getElem?_getD]
  cases hk : l[k]? with
  | none => decide
  | some i => exact h.2 i (List.mem_of_getElem? hk)
end Go.Proofs.YtgpicmiaanapkaaGreat
/- Rows that the call owns: how they grow, and what else turns. Over any program. -/
namespace Go.Proofs.YtgpicmiaanapkaaGreat
open Go.RowKit

theorem grownBy_trans {w w1 w2 : World} {r r2 : Option Nat} (h : w.grownBy w1 r) (h2 : w1.grownBy w2 r2) (hr : ∀ k, r2 = some k → r = some k ∨ w.heap.size ≤ k) : w.grownBy w2 r :=
  ⟨h2.os.trans h.os, h2.tape.trans h.tape, h2.output.trans h.output, Nat.le_trans h.size h2.size, fun k hk hne => by
    refine (h2.block k (Nat.lt_of_lt_of_le hk h.size) (fun e => ?_)).trans (h.block k hk hne)
    rcases hr k e.symm with h' | h'
    · exact hne h'.symm
    · omega⟩
theorem grownBy_refl (w : World) (r : Option Nat) : w.grownBy w r := ⟨rfl, rfl, rfl, Nat.le_refl _, fun _ _ _ => rfl⟩
theorem grownBy_below {w w' : World} (h : w.grownBy w' none) : Below w.heap.size w w' :=
  ⟨h.os, h.tape, h.output, h.size, fun k hk => h.block k hk (by simp)⟩
theorem below_grownBy {w w' : World} (h : Below w.heap.size w w') (r : Option Nat) : w.grownBy w' r := ⟨h.os, h.tape, h.output, h.size, fun k hk _ => h.block k hk⟩

theorem grownBy_allocL {w w' : World} {o : Obj} {r : Option Nat} (h : (w.alloc o).grownBy w' r) : w.grownBy w' r :=
  ⟨h.os, h.tape, h.output, Nat.le_trans (by simp) h.size, fun k hk hne => (h.block k (by simp; omega) hne).trans (Below.heap_alloc w o k hk)⟩
theorem news_new (w : World) (cs : Array Value) (t : TypeId) : ∀ j u, cs.toList[j]? = some u → (w.alloc (.cells cs t)).cell? ((⟨w.heap.size, 0, none⟩ : Addr).add j) = some u := by
  intro j u h
  rw [Addr.add_mid, Nat.zero_add, cell_of_row _ _ _ _ _ _ (heap_alloc_new w _)]
  simpa using h
/-- From w to w' the value v has grown into v': of what was there only v's own block may have turned; v' lies in it or in a new one. -/
def Grew (w w' : World) (v v' : Value) : Prop := w.grownBy w' v.ownBlock ∧ ∀ g, v'.ownBlock = some g → v.ownBlock = some g ∨ w.heap.size ≤ g
theorem Grew.refl (w : World) (v : Value) : Grew w w v v := ⟨grownBy_refl _ _, fun _ h => .inl h⟩
theorem Grew.trans {w w1 w2 : World} {v v1 v2 : Value} (h : Grew w w1 v v1) (h2 : Grew w1 w2 v1 v2) : Grew w w2 v v2 :=
  ⟨grownBy_trans h.1 h2.1 (fun k e => h.2 k e), fun g e => by
    rcases h2.2 g e with h' | h'
    · exact h.2 g h'
    · exact .inr (Nat.le_trans h.1.size h')⟩
theorem Grew.then {w w1 w2 : World} {v v1 : Value} (h : Grew w w1 v v1) (hb : Below w1.heap.size w1 w2) : Grew w w2 v v1 :=
  ⟨grownBy_trans h.1 (below_grownBy hb none) (fun k e => by cases e), h.2⟩
theorem Grew.after {w w1 w2 : World} {v v1 : Value} (hb : Below w.heap.size w w1) (h : Grew w1 w2 v v1) : Grew w w2 v v1 :=
  ⟨grownBy_trans (below_grownBy hb v.ownBlock) h.1 (fun k e => .inl e), fun g e => by
    rcases h.2 g e with h' | h'
    · exact .inl h'
    · exact .inr (Nat.le_trans hb.size h')⟩
theorem Grew.bel {w w1 : World} {c n : Nat} {v1 : Value} (h : Grew w w1 (.slice none n c) v1) : Below w.heap.size w w1 := grownBy_below h.1
theorem Grew.al {w w1 : World} {v v1 : Value} (h : Grew w w1 v v1) (o : Obj) : Grew w (w1.alloc o) v v1 := h.then (Bel.new w1 o)
theorem Grew.dr {w w1 : World} {v v1 : Value} (h : Grew w w1 v v1) : Grew w w1.drew v v1 := h.then (Below.refl _ _).drew
theorem Grew.tr' {w w1 w2 : World} {o : Obj} {v v1 : Value} (h : Grew w w1 v v1) (hb : Below (w1.alloc o).heap.size (w1.alloc o) w2) : Grew w w2 v v1 := h.then (Bel.of hb)
theorem Grew.nilOf {w w1 : World} {v1 : Value} (h : Grew w w1 (.slice none 0 0) v1) : Grew w w1 (.slice none 0 0) (.slice none 0 0) := ⟨h.1, fun g e => by cases e⟩
/-- An owned row is kept where its own block does not turn. -/
theorem own_below {w w' : World} {base e sz n : Nat} {v : Value} {xs : List Value} (h : w.ownsRow base e sz v n xs) (hb : Below w.heap.size w w') : w'.ownsRow base e sz v n xs :=
  h.kept (below_grownBy hb none) (by cases hv : v.ownBlock <;> simp)
theorem own_grew {w w' : World} {base e sz n : Nat} {u v v' : Value} {xs : List Value} (h : w.ownsRow base e sz u n xs) (hg : Grew w w' v v') (hne : ∀ g, u.ownBlock = some g → v.ownBlock ≠ some g) : w'.ownsRow base e sz u n xs :=
  h.kept hg.1 (by
    cases hu : u.ownBlock with
    | none => exact .inl rfl
    | some g => exact .inr (fun e => hne g hu e.symm))
theorem own_base {w : World} {base e sz n : Nat} {v : Value} {xs : List Value} (h : w.ownsRow base e sz v n xs) : w.ownsRow 0 e sz v n xs := by
  refine ⟨h.1, ?_⟩
  rcases h.2 with h2 | ⟨g, cap, cur, hv, hb, rest⟩
  · exact .inl h2
  · exact .inr ⟨g, cap, cur, hv, Nat.zero_le _, rest⟩

section
variable {P : Program}
/-- 'append(s, x)' of one element, which has just been laid in a block of its own; s is nil or the call's own. -/
theorem wpList_append1 {w : World} {ops : Array Oper} {rest : List Oper} {o : Oper} {a : Act} {Q : Exit → Act → World → Prop} (hgd : o.guard = none) (s x : Operand) (t : TypeId)
    (ho : o.op = .call { callee := .builtin .append, args := #[s, x], argTypes := #[t, t] })
    (e : TypeId) (i : TypeInfo) (z : Value) (size bytes : Nat) (ht : P.underlying t = some (.slice e)) (hi : P.info? e = some i) (hz : i.zero = some z)
    (hsize : i.size = size) (hby : i.bytes = bytes) (hzs : z.cells.size = size) (hsz : 0 < size)
    (v : Value) (n : Nat) (xs : List Value) (hown : w.ownsRow 0 e size v n xs) (cs : Array Value) (et : TypeId)
    (hs : a.eval s = v) (hx : a.eval x = .slice (some ⟨w.heap.size, 0, none⟩) 1 1) (hcs : cs.toList.length = 1 * size) (h1 : ∀ u ∈ cs.toList, u.oneCell' = true)
    (h63 : n + 1 ≤ maxLen) (hbytes : (n + 1) * bytes ≤ 140737488355328)
    (h : ∀ g cap w', w'.ownsRow 0 e size (.slice (some ⟨g, 0, none⟩) (n + 1) cap) (n + 1) (xs ++ cs.toList) → Grew w w' v (.slice (some ⟨g, 0, none⟩) (n + 1) cap) → g < w'.heap.size →
      wpList P ops Q rest (a.put o.dst (.slice (some ⟨g, 0, none⟩) (n + 1) cap)) w') : wpList P ops Q (o :: rest) a (w.alloc (.cells cs et)) :=
  wpList_append_lies _ hgd s x t ho 0 e i z size bytes ht hi hz hsize hby hzs hsz v n xs hs (hown.alloc _) ⟨w.heap.size, 0, none⟩ 1 1 cs.toList hx hcs (news_new w cs et) h1 (by omega) h63 hbytes (Nat.zero_le _) _ rfl
    (fun g cap w' h2 h3 h4 h5 => h g cap w' h2 ⟨grownBy_allocL h3, fun g' e => by
      simp only [Value.ownBlock, Option.some.injEq] at e
      subst e
      rcases h4 with h4 | h4
      · exact .inl h4
      · exact .inr (by rw [h4]; simp)⟩ h5)
/-- append of any row that may be read, in whatever world: at the operation. -/
theorem wp_append_grew {o : Oper} {a : Act} {w : World} {K : Act → World → Prop} {Q : Exit → Act → World → Prop} (s x : Operand) (t : TypeId)
    (ho : o.op = .call { callee := .builtin .append, args := #[s, x], argTypes := #[t, t] })
    (e : TypeId) (i : TypeInfo) (z : Value) (size bytes : Nat) (ht : P.underlying t = some (.slice e)) (hi : P.info? e = some i) (hz : i.zero = some z)
    (hsize : i.size = size) (hby : i.bytes = bytes) (hzs : z.cells.size = size) (hsz : 0 < size)
    (v : Value) (n : Nat) (xs : List Value) (hs : a.eval s = v) (hown : w.ownsRow 0 e size v n xs)
    (ad : Addr) (m c : Nat) (news : List Value) (hx : a.eval x = .slice (some ad) m c) (hl : news.length = m * size) (hnews : ∀ j u, news[j]? = some u → w.cell? (ad.add j) = some u) (h1 : ∀ u ∈ news, u.oneCell' = true)
    (h63 : n + m ≤ maxLen) (hbytes : (n + m) * bytes ≤ 140737488355328)
    (h : ∀ v' w', w'.ownsRow 0 e size v' (n + m) (xs ++ news) → Grew w w' v v' → (v' = .slice none 0 0 ↔ v = .slice none 0 0 ∧ m = 0) → K (a.put o.dst v') w') : o.wp P a w K Q := by
  obtain ⟨v', w', hr, h2, h3, h4, h5⟩ := run_append_own_at (P := P) w 0 t o.type e i z size bytes ht hi hz hsize hby hzs hsz v n xs hown ad m c news hl hnews h1 h63 hbytes (Nat.zero_le _)
  unfold Oper.wp execOp
  simp only [ho, resolve, invoke, builtin, Sem.run_bind, Sem.run_pure, Result.andThen_ok, List.map_toArray, List.map_cons, List.map_nil, hs, hx, hr]
  exact h v' w' h2 ⟨h3, fun g e => by
    rcases h5 with h5 | h5
    · exact .inl (h5 ▸ e)
    · rw [h5] at e; cases e; exact .inr (Nat.le_refl _)⟩ h4
/-- The same at a step of a region that draws its order. -/
theorem step_append_grew {ops : Array Oper} {o : Oper} {a : Act} {w : World} {K : Act → World → Prop} {Q : Exit → Act → World → Prop} {E : Prop} (hgd : o.guard = none) (s x : Operand) (t : TypeId)
    (ho : o.op = .call { callee := .builtin .append, args := #[s, x], argTypes := #[t, t] })
    (e : TypeId) (i : TypeInfo) (z : Value) (size bytes : Nat) (ht : P.underlying t = some (.slice e)) (hi : P.info? e = some i) (hz : i.zero = some z)
    (hsize : i.size = size) (hby : i.bytes = bytes) (hzs : z.cells.size = size) (hsz : 0 < size)
    (v : Value) (n : Nat) (xs : List Value) (hs : a.eval s = v) (hown : w.ownsRow 0 e size v n xs)
    (ad : Addr) (m c : Nat) (news : List Value) (hx : a.eval x = .slice (some ad) m c) (hl : news.length = m * size) (hnews : ∀ j u, news[j]? = some u → w.cell? (ad.add j) = some u) (h1 : ∀ u ∈ news, u.oneCell' = true)
    (h63 : n + m ≤ maxLen) (hbytes : (n + m) * bytes ≤ 140737488355328)
    (h : ∀ v' w', w'.ownsRow 0 e size v' (n + m) (xs ++ news) → Grew w w' v v' → (v' = .slice none 0 0 ↔ v = .slice none 0 0 ∧ m = 0) → K (a.put o.dst v') w') :
    if Region.wanted o (yielded ops a.tmps) = true then Oper.wp P o a w K Q else E := by
  have hw : Region.wanted o (yielded ops a.tmps) = true := by simp [Region.wanted, hgd]
  rw [if_pos hw]
  exact wp_append_grew s x t ho e i z size bytes ht hi hz hsize hby hzs hsz v n xs hs hown ad m c news hx hl hnews h1 h63 hbytes h
theorem wpList_append_grew {ops : Array Oper} {rest : List Oper} {o : Oper} {a : Act} {w : World} {Q : Exit → Act → World → Prop} (hgd : o.guard = none) (s x : Operand) (t : TypeId)
    (ho : o.op = .call { callee := .builtin .append, args := #[s, x], argTypes := #[t, t] })
    (e : TypeId) (i : TypeInfo) (z : Value) (size bytes : Nat) (ht : P.underlying t = some (.slice e)) (hi : P.info? e = some i) (hz : i.zero = some z)
    (hsize : i.size = size) (hby : i.bytes = bytes) (hzs : z.cells.size = size) (hsz : 0 < size)
    (v : Value) (n : Nat) (xs : List Value) (hs : a.eval s = v) (hown : w.ownsRow 0 e size v n xs)
    (ad : Addr) (m c : Nat) (news : List Value) (hx : a.eval x = .slice (some ad) m c) (hl : news.length = m * size) (hnews : ∀ j u, news[j]? = some u → w.cell? (ad.add j) = some u) (h1 : ∀ u ∈ news, u.oneCell' = true)
    (h63 : n + m ≤ maxLen) (hbytes : (n + m) * bytes ≤ 140737488355328)
    (h : ∀ v' w', w'.ownsRow 0 e size v' (n + m) (xs ++ news) → Grew w w' v v' → (v' = .slice none 0 0 ↔ v = .slice none 0 0 ∧ m = 0) → wpList P ops Q rest (a.put o.dst v') w') : wpList P ops Q (o :: rest) a w :=
  wpList_plain hgd fun _ hK => wp_append_grew s x t ho e i z size bytes ht hi hz hsize hby hzs hsz v n xs hs hown ad m c news hx hl hnews h1 h63 hbytes fun v' w' h2 h3 h4 => hK _ _ (h v' w' h2 h3 h4)
end
/-- What an owned row that is not empty looks like. -/
theorem own_form {w : World} {e sz n : Nat} {v : Value} {xs : List Value} (h : w.ownsRow 0 e sz v n xs) (hn : 0 < n) :
    ∃ g cap, v = .slice (some ⟨g, 0, none⟩) n cap ∧ n ≤ cap ∧ cap ≤ maxLen ∧ g < w.heap.size ∧ ∀ j, j < xs.length → w.cell? ⟨g, j, none⟩ = xs[j]? := by
  obtain ⟨hl, h⟩ := h
  rcases h with ⟨rfl, rfl⟩ | ⟨g, cap, cur, rfl, hb, hg, hn, hm, hcs, ht⟩
  · omega
  · refine ⟨g, cap, rfl, hn, hm, (Array.getElem?_eq_some_iff.1 hg).1, fun j hj => ?_⟩
    rw [cell_of_row w g j cur e (0, 0) hg, ← ht, List.getElem?_take, if_pos (by omega)]
    simp
end Go.Proofs.YtgpicmiaanapkaaGreat
namespace Go.Proofs.YtgpicmiaanapkaaGreat
open Go.RowKit
theorem beq_self_int (x : Int) : (x == x) = true := by simp
theorem below_drewN {B : Nat} {w w' : World} (h : Below B w w') (n : Nat) : Below B w (w'.drewN n) := ⟨h.os, h.tape, h.output, h.size, h.block⟩
/-- A slice of ints that are not below 0. -/
def Ints (w : World) (v : Value) (l : List Nat) : Prop := Reads w 1 v l.length (encN .i64 l)
theorem Ints.opened {w : World} {v : Value} {l : List Nat} (h : Ints w v l) : ∃ (a : Option Addr) (cap : Nat), v = .slice a l.length cap ∧ l.length ≤ cap ∧ cap ≤ maxLen ∧ (a = none → cap = 0) ∧
    (0 < l.length → ∃ b off, a = some ⟨b, off, none⟩ ∧ b < w.heap.size ∧ ∀ k, k < l.length → w.cell? ⟨b, off + k, none⟩ = some (.int .i64 (l.getD k 0 : Nat))) := by
  obtain ⟨a, cap, hv, hl, hn, hm, ha, hp⟩ := h
  refine ⟨a, cap, hv, hn, hm, ha, fun h0 => ?_⟩
  obtain ⟨b, off, e, hlt, hc⟩ := hp h0
  exact ⟨b, off, e, hlt, fun k hk => by rw [hc k (by rw [encN_length]; omega), encN_at _ l k hk]⟩
end Go.Proofs.YtgpicmiaanapkaaGreat
namespace Go.Proofs.YtgpicmiaanapkaaGreat
open Go.RowKit

theorem info5 : (Tryz.prog.info? 5).map (fun i => (i.zero, i.size, i.bytes)) = some (some (.int .u8 0), 1, 1) := by kernel_rfl

set_option maxRecDepth 100000 in
set_option maxHeartbeats 400000 in
theorem width_any (w : World) : Calls Tryz.prog 316 #[] w fun e w' => e = .returned (.int .i64 4) ∧ w = w' := by
  have hx : bits BinOp.xor .u32 IntKind.u32.max 0 = 4294967295 := by kernel_rfl
  go_enter Tryz.func316, Tryz.ntmps316
  go_wp2
  refine wp_loop_rounds 5 ?_
  rw [rounds_succ]
  go_wp2
  rw [rounds_succ]
  go_wp2
  rw [rounds_succ]
  go_wp2
  rw [rounds_succ]
  go_wp2
  rw [rounds_succ]
  go_wp2
  go_ret
  exact ⟨rfl, rfl⟩

def le4 (x : Nat) : List Nat := [x % 256, x / 256 % 256, x / 65536 % 256, x / 16777216 % 256]
theorem le4_shift (x i : Nat) (hi : i < 4) : (le4 x).take (i + 1) = (le4 x).take i ++ [x / 2 ^ (8 * i) % 256] := by
  rcases i with _ | _ | _ | _ | i <;> first | rfl | omega | skip
  simp [le4]

theorem le4_length (x : Nat) : (le4 x).length = 4 := rfl
set_option maxRecDepth 100000 in
set_option maxHeartbeats 1000000 in
theorem lay_any (v : Value) (n : Nat) (xs : List Value) (x : Nat) (hx : x < 4294967296) (w : World) (hown : w.ownsRow 0 5 1 v n xs) (hn : n + 4 ≤ 140737488355328) :
    Calls Tryz.prog 207 #[v, .int .u32 x] w fun e w' => ∃ v', e = .returned v' ∧ w'.ownsRow 0 5 1 v' (n + 4) (xs ++ encN .u8 (le4 x)) ∧ Grew w w' v v' := by
  obtain ⟨i0, hi, hz0, hz1, hz2⟩ := info_parts info5
  go_enter Tryz.func207, Tryz.ntmps207
  go_wp2_with fail
  refine (width_any _).mono ?_
  rintro e w1 ⟨rfl, rfl⟩
  go_wp2_with fail
  go_loopw [0, 7] (fun u i wr => ∃ k : Nat, k ≤ 4 ∧ i = .int .i64 k ∧ wr.ownsRow 0 5 1 u (n + k) (xs ++ encN .u8 ((le4 x).take k)) ∧ Grew w wr v u) (fun _ i _ => 4 - (intOf i).toNat)
  case atStart => exact ⟨0, by omega, rfl, by simpa [encN] using hown, Grew.refl _ _⟩
  case round =>
    obtain ⟨k, hk, rfl, hr, hg⟩ := hrel
    by_cases hlt : k < 4
    · go_wp2_with ((with_reducible refine wpList_append1 (o := ⟨some 18, .call { callee := .builtin .append, args := #[.tmp 10, .tmp 17], argTypes := #[24, 24] }, _, _, _, none⟩) rfl _ _ 24 rfl 5 i0 (.int .u8 0) 1 1 Tryz.underlying24 hi hz0 hz1 hz2 ?_ ?_ _ _ _ hr _ _ ?_ ?_ ?_ ?_ ?_ ?_ ?_); rfl; decide; rfl; rfl; rfl; (simp [Value.oneCell']); (unfold maxLen; omega); omega; intro g c w1 hr1 hg1 hl1)
      go_roundw
      case rel => exact ⟨k + 1, by omega, by go_num, by
        rw [le4_shift x k hlt, encN_append, ← List.append_assoc]
        exact hr1, hg.trans hg1⟩
      case measure => simp [intOf]; omega
    · have : k = 4 := by omega
      subst this
      go_wp2
      go_ret
      exact ⟨_, rfl, hr, hg⟩

def le4s (l : List Nat) : List Nat := l.flatMap le4
theorem le4s_succ (l : List Nat) (k : Nat) (hk : k < l.length) : le4s (l.take (k + 1)) = le4s (l.take k) ++ le4 (l.getD k 0) := by
  rw [List.take_add_one, List.getElem?_eq_getElem hk, le4s, List.flatMap_append]
  simp [le4s, List.getElem?_eq_getElem hk]
theorem le4s_length (l : List Nat) : (le4s l).length = 4 * l.length := by
  induction l with
  | nil => rfl
  | cons x l ih =>
    have : le4s (x :: l) = le4 x ++ le4s l := rfl
    rw [this, List.length_append, le4_length, ih, List.length_cons]; omega
set_option maxRecDepth 100000 in
set_option maxHeartbeats 1000000 in
theorem put_any (a : Option Addr) (cap : Nat) (l : List Nat) (hl : ∀ i ∈ l, i < 4294967296) (w : World) (hr : Reads w 1 (.slice a l.length cap) l.length (encN .u32 l)) (hn : 4 * l.length + 4 ≤ 140737488355328) :
    Calls Tryz.prog 101 #[.slice a l.length cap] w fun e w' => ∃ v', e = .returned v' ∧ w'.ownsRow 0 5 1 v' (4 * l.length) (encN .u8 (le4s l)) ∧ Grew w w' (.slice none 0 0) v' := by
  obtain ⟨a', cap', hv, hlen, hnc, hm, hnil, hp⟩ := hr
  simp only [Value.slice.injEq, true_and] at hv
  obtain ⟨rfl, rfl⟩ := hv
  have hcell : ∀ k, k < l.length → ∃ b off, a = some ⟨b, off, none⟩ ∧ b < w.heap.size ∧ w.cell? ⟨b, off + k, none⟩ = some (.int .u32 (l.getD k 0 : Nat)) := by
    intro k hk
    obtain ⟨b, off, e, hlt, hc⟩ := hp (by omega)
    exact ⟨b, off, e, hlt, by rw [hc k (by rw [encN_length]; exact hk), encN_at _ l k hk]⟩
  have Hcell := Lib.hid hcell
  clear hp hnil hcell hlen
  go_enter Tryz.func101, Tryz.ntmps101
  go_wp2_with fail
  go_loopw [3, 8] (fun u i wr => ∃ k : Nat, k ≤ l.length ∧ i = .int .i64 k ∧ wr.ownsRow 0 5 1 u (4 * k) (encN .u8 (le4s (l.take k))) ∧ Grew w wr (.slice none 0 0) u) (fun _ i _ => l.length - (intOf i).toNat)
  case atStart => exact ⟨0, by omega, rfl, World.ownsRow_nil _ _ _ _, Grew.refl _ _⟩
  case round =>
    obtain ⟨k, hk, rfl, hr, hg⟩ := hrel
    by_cases hlt : k < l.length
    · obtain ⟨b, off, rfl, hbl, hc⟩ := Hcell.out k hlt
      have hc2 : wr.cell? ⟨b, off + k, none⟩ = some (.int .u32 (l.getD k 0 : Nat)) := ((Grew.bel hg).cell (p := ⟨b, off + k, none⟩) hbl).trans hc
      have hx : l.getD k 0 < 4294967296 := by
        rw [List.getD_eq_getElem?_getD, List.getElem?_eq_getElem hlt]; exact hl _ (List.getElem_mem hlt)
      have hs := le4s_succ l k hlt
      have Hs := Lib.hid hs
      clear hs hc
      generalize l.getD k 0 = x at hc2 hx Hs
      have h60 := lay_any u3 (4 * k) (encN .u8 (le4s (l.take k))) x hx wr hr (by omega)
      go_wp2_with fail
      refine h60.mono ?_
      rintro e w1 ⟨v', rfl, hr1, hg1⟩
      clear h60
      go_wp2
      go_roundw
      case rel => exact ⟨k + 1, by omega, by go_num, by rw [Hs.out, encN_append]; exact hr1, hg.trans hg1⟩
      case measure => simp [intOf]; omega
    · have : k = l.length := by omega
      subst this
      rw [List.take_length] at hr
      go_wp2
      go_ret
      exact ⟨_, rfl, hr, hg⟩
end Go.Proofs.YtgpicmiaanapkaaGreat
/- Lists that are handed in with marks behind them. -/
namespace Go.Proofs.YtgpicmiaanapkaaGreat
open Go.RowKit
noncomputable def marksB (k : Int) (n m : Nat) : List Nat := (List.range m).map fun (i : Nat) => mkB k (n + i : Nat)
theorem marksB_length (k : Int) (n m : Nat) : (marksB k n m).length = m := by simp [marksB]
theorem marksB_succ (k : Int) (n m : Nat) : marksB k n (m + 1) = marksB k n m ++ [mkB k (n + m : Nat)] := by simp [marksB, List.range_succ]
noncomputable def marksC (k : Int) (n m : Nat) : List (Nat × Nat) := (List.range m).map fun (i : Nat) => mkC k (n + i : Nat)
theorem marksC_length (k : Int) (n m : Nat) : (marksC k n m).length = m := by simp [marksC]
theorem marksC_succ (k : Int) (n m : Nat) : marksC k n (m + 1) = marksC k n m ++ [mkC k (n + m : Nat)] := by simp [marksC, List.range_succ]
theorem take_snocD {α : Type} (l : List α) (k : Nat) (d : α) (hk : k < l.length) : l.take (k + 1) = l.take k ++ [l.getD k d] := by
  rw [List.take_add_one, List.getElem?_eq_getElem hk]
  simp [List.getElem?_eq_getElem hk]
theorem run_buildSlice41 (x : Int) (w : World) : (Instr.buildSlice 24 1 #[(0, .int .u8 x)]).run Tryz.prog w = .ok (.slice (some ⟨w.heap.size, 0, none⟩) 1 1) (w.alloc (.cells #[.int .u8 x] 5)) := by kernel_rfl
theorem own_start {w : World} {base e sz n : Nat} {v : Value} {xs : List Value} (h : w.ownsRow base e sz v n xs) (hn : 0 < n) : ∃ g cap, v = .slice (some ⟨g, 0, none⟩) n cap ∧ base ≤ g ∧ g < w.heap.size := by
  obtain ⟨hl, h⟩ := h
  rcases h with ⟨rfl, rfl⟩ | ⟨g, cap, cur, rfl, hb, hg, hn, hm, hcs, ht⟩
  · omega
  · exact ⟨g, cap, rfl, hb, (Array.getElem?_eq_some_iff.1 hg).1⟩
theorem own_from {w : World} {e sz n B : Nat} {v : Value} {xs : List Value} (h : w.ownsRow 0 e sz v n xs) (hB : ∀ g, v.ownBlock = some g → B ≤ g) : w.ownsRow B e sz v n xs := by
  obtain ⟨hl, h⟩ := h
  rcases h with h | ⟨g, cap, cur, hv, hb, rest⟩
  · exact ⟨hl, .inl h⟩
  · exact ⟨hl, .inr ⟨g, cap, cur, hv, hB g (by rw [hv]; rfl), rest⟩⟩
def LentPostB (l : List Nat) (w : World) (e : Ending) (w' : World) : Prop :=
  ∃ g cap, e = .returned (.slice (some ⟨g, 0, none⟩) (l.length + 64) cap) ∧ w'.ownsRow 0 5 1 (.slice (some ⟨g, 0, none⟩) (l.length + 64) cap) (l.length + 64) (encN .u8 (l ++ marksB 0 0 64)) ∧ Below w.heap.size w w' ∧ w.heap.size ≤ g
theorem info36' : (Tryz.prog.info? 122).map (fun i => (i.zero, i.size, i.bytes)) = some (some (.agg #[.int .u8 0, .int .u32 0]), 2, 8) := by kernel_rfl
theorem run_buildSlice43' (x y : Int) (w : World) : (Instr.buildSlice 22 1 #[(0, .agg #[.int .u8 x, .int .u32 y])]).run Tryz.prog w = .ok (.slice (some ⟨w.heap.size, 0, none⟩) 1 1) (w.alloc (.cells #[.int .u8 x, .int .u32 y] 122)) := by kernel_rfl
def LentPostC (l : List (Nat × Nat)) (w : World) (e : Ending) (w' : World) : Prop :=
  ∃ g cap, e = .returned (.slice (some ⟨g, 0, none⟩) (l.length + 64) cap) ∧ w'.ownsRow 0 122 2 (.slice (some ⟨g, 0, none⟩) (l.length + 64) cap) (l.length + 64) (encI (l ++ marksC 0 0 64)) ∧ Below w.heap.size w w' ∧ w.heap.size ≤ g
end Go.Proofs.YtgpicmiaanapkaaGreat
/- Procedures in memory; Of, Proc, Begins. -/
namespace Go.Proofs.YtgpicmiaanapkaaGreat
open Go.RowKit
/-- Procedures as cells: begin, end, frame (need is 0). -/
def encP (ps : List (Nat × Nat × Nat)) : List Value := ps.flatMap fun p => [.int .u32 p.1, .int .u32 p.2.1, .int .u32 p.2.2, .int .i64 0]
theorem encP_length (ps : List (Nat × Nat × Nat)) : (encP ps).length = ps.length * 4 := by
  induction ps with
  | nil => rfl
  | cons p ps ih => rw [show encP (p :: ps) = [.int .u32 p.1, .int .u32 p.2.1, .int .u32 p.2.2, .int .i64 0] ++ encP ps from rfl, List.length_append, ih]; simp; omega
theorem encP_append (l m : List (Nat × Nat × Nat)) : encP (l ++ m) = encP l ++ encP m := by simp [encP]
theorem encP_at (ps : List (Nat × Nat × Nat)) : ∀ k, k < ps.length → (encP ps)[k * 4]? = some (.int .u32 (ps.getD k (0, 0, 0)).1) ∧ (encP ps)[k * 4 + 1]? = some (.int .u32 (ps.getD k (0, 0, 0)).2.1) ∧
    (encP ps)[k * 4 + 2]? = some (.int .u32 (ps.getD k (0, 0, 0)).2.2) ∧ (encP ps)[k * 4 + 3]? = some (.int .i64 0) := by
  induction ps with
  | nil => intro k h; simp at h
  | cons p ps ih =>
    intro k h
    have e : encP (p :: ps) = [.int .u32 p.1, .int .u32 p.2.1, .int .u32 p.2.2, .int .i64 0] ++ encP ps := rfl
    cases k with
    | zero => rw [e]; exact ⟨rfl, rfl, rfl, rfl⟩
    | succ k =>
      obtain ⟨h1, h2, h3, h4⟩ := ih k (by simpa using h)
      rw [e]
      have f : ∀ t, ([.int .u32 p.1, .int .u32 p.2.1, .int .u32 p.2.2, .int .i64 0] ++ encP ps : List Value)[(k + 1) * 4 + t]? = (encP ps)[k * 4 + t]? := fun t => by
        rw [List.getElem?_append_right (by simp; omega)]; congr 1; simp; omega
      exact ⟨(f 0).trans h1, (f 1).trans h2, (f 2).trans h3, (f 3).trans h4⟩
structure PAt (w : World) (B b : Nat) (vp vo vt : Value) (ps : List (Nat × Nat × Nat)) (ofs : List Nat) (us : List Value) (ts : List (List Nat)) : Prop where
  c0 : w.cell? ⟨b, 0, none⟩ = some vp
  c1 : w.cell? ⟨b, 1, none⟩ = some vo
  c2 : w.cell? ⟨b, 2, none⟩ = some vt
  hb : B ≤ b
  op : w.ownsRow B 259 4 vp ps.length (encP ps)
  oo : w.ownsRow B 3 1 vo ofs.length (encN .i64 ofs)
  ot : w.ownsRow B 23 1 vt us.length us
  ul : us.length = ts.length
  ou : ∀ (j : Nat) (u : Value) (l : List Nat), us[j]? = some u → ts[j]? = some l → w.ownsRow B 25 1 u l.length (encN .u32 l)
theorem PAt.below {w w' : World} {B b : Nat} {vp vo vt : Value} {ps : List (Nat × Nat × Nat)} {ofs : List Nat} {us : List Value} {ts : List (List Nat)} (h : PAt w B b vp vo vt ps ofs us ts) (hb : Below w.heap.size w w') : PAt w' B b vp vo vt ps ofs us ts :=
  have hl := World.block_lt_of_cell? _ _ h.c0
  ⟨(hb.cell (p := ⟨b, 0, none⟩) hl).trans h.c0, (hb.cell (p := ⟨b, 1, none⟩) hl).trans h.c1, (hb.cell (p := ⟨b, 2, none⟩) hl).trans h.c2, h.hb, own_below h.op hb, own_below h.oo hb, own_below h.ot hb, h.ul, fun j u l hu hl => own_below (h.ou j u l hu hl) hb⟩
theorem own_sl {w : World} {B e sz n : Nat} {v : Value} {xs : List Value} (h : w.ownsRow B e sz v n xs) : ∃ a c, v = .slice a n c ∧ n ≤ c ∧ c ≤ maxLen ∧ (0 < n → ∃ g, a = some ⟨g, 0, none⟩ ∧ g < w.heap.size ∧ ∀ j, j < xs.length → w.cell? ⟨g, j, none⟩ = xs[j]?) := by
  rcases h.2 with ⟨rfl, rfl⟩ | ⟨g, cap, cur, rfl, hb, hg, h1, h2, _⟩
  · exact ⟨none, 0, rfl, Nat.le_refl _, Nat.zero_le _, fun h => absurd h (Nat.lt_irrefl _)⟩
  · refine ⟨_, cap, rfl, h1, h2, fun h0 => ?_⟩
    obtain ⟨g', c', e, _, _, hl, hc⟩ := own_form (own_base h) h0
    cases e
    exact ⟨g, rfl, hl, hc⟩
/-- In which procedure. -/
def ofN (ofs : List Nat) (x : Nat) : Int := if x < ofs.length then (ofs.getD x 0 : Nat) else -1
set_option maxRecDepth 100000 in
set_option maxHeartbeats 1000000 in
theorem of_any {w : World} {B b : Nat} {vp vo vt : Value} {ps : List (Nat × Nat × Nat)} {ofs : List Nat} {us : List Value} {ts : List (List Nat)} (h : PAt w B b vp vo vt ps ofs us ts) (x : Nat) (hx : x < 4294967296) :
    Calls Tryz.prog 356 #[.pointer (some ⟨b, 0, none⟩), .int .u32 x] w fun e w' => e = .returned (.int .i64 (ofN ofs x)) ∧ w = w' := by
  have hc1 := h.c1
  obtain ⟨a, c, rfl, hnc, hcm, hp⟩ := own_sl h.oo
  have hm : ofs.length ≤ 9223372036854775807 := by unfold maxLen at hcm; omega
  unfold ofN
  by_cases hlt : x < ofs.length
  · obtain ⟨g, rfl, hg, hcell⟩ := hp (by omega)
    have hq := hcell x (by rw [encN_length]; exact hlt)
    rw [encN_at _ _ _ hlt] at hq
    rw [if_pos hlt]
    have hd : decide (ofs.length ≤ x) = false := decide_eq_false (by omega)
    have hd2 : (x : Int) < (ofs.length : Int) := by omega
    generalize ofs.getD x 0 = y at *
    clear h hp hcell
    go_enter Tryz.func356, Tryz.ntmps356
    go_wp2
    go_ret
    exact ⟨rfl, rfl⟩
  · rw [if_neg hlt]
    have hd : decide (ofs.length ≤ x) = true := decide_eq_true (by omega)
    have hd2 : ¬ (x : Int) < (ofs.length : Int) := by omega
    clear h hp
    go_enter Tryz.func356, Tryz.ntmps356
    go_wp2
    go_ret
    exact ⟨rfl, rfl⟩
def procV (p : Nat × Nat × Nat) : Value := .agg #[.int .u32 p.1, .int .u32 p.2.1, .int .u32 p.2.2, .int .i64 0]
theorem zero39 (w : World) : (zeroValue 259).run Tryz.prog w = .ok (.agg #[.int .u32 0, .int .u32 0, .int .u32 0, .int .i64 0]) w := by kernel_rfl
theorem run_build39 (w : World) : (Instr.build 259 #[]).run Tryz.prog w = .ok (.agg #[.int .u32 0, .int .u32 0, .int .u32 0, .int .i64 0]) w := by kernel_rfl
def procN (ps : List (Nat × Nat × Nat)) (i : Int) : Value := if 0 ≤ i ∧ i < ps.length then .tuple #[procV (ps.getD i.toNat (0, 0, 0)), .bool true] else .tuple #[procV (0, 0, 0), .bool false]
set_option maxRecDepth 100000 in
set_option maxHeartbeats 1000000 in
theorem proc_any {w : World} {B b : Nat} {vp vo vt : Value} {ps : List (Nat × Nat × Nat)} {ofs : List Nat} {us : List Value} {ts : List (List Nat)} (h : PAt w B b vp vo vt ps ofs us ts) (i : Int) :
    Calls Tryz.prog 369 #[.pointer (some ⟨b, 0, none⟩), .int .i64 i] w fun e w' => e = .returned (procN ps i) ∧ Below w.heap.size w w' := by
  have hb39 := run_build39
  have hz39 := zero39
  have hbl := World.block_lt_of_cell? _ _ h.c0
  have hc0 := ((Bel.new w (.cells #[.int .u32 0, .int .u32 0, .int .u32 0, .int .i64 0] 259)).cell (p := ⟨b, 0, none⟩) hbl).trans h.c0
  obtain ⟨a, c, rfl, hnc, hcm, hp⟩ := own_sl h.op
  have hm : ps.length ≤ 9223372036854775807 := by unfold maxLen at hcm; omega
  unfold procN
  by_cases h1 : 0 ≤ i
  · obtain ⟨k, rfl⟩ := Int.eq_ofNat_of_zero_le h1
    by_cases hlt : k < ps.length
    · obtain ⟨g, rfl, hg, hcell⟩ := hp (by omega)
      obtain ⟨q0, q1, q2, q3⟩ := encP_at ps k hlt
      have hl4 := encP_length ps
      have hnb := Bel.new w (.cells #[.int .u32 0, .int .u32 0, .int .u32 0, .int .i64 0] 259)
      have r0 := ((hnb.cell (p := ⟨g, k * 4, none⟩) hg).trans (hcell (k * 4) (by omega))).trans q0
      have r1 := ((hnb.cell (p := ⟨g, k * 4 + 1, none⟩) hg).trans (hcell (k * 4 + 1) (by omega))).trans q1
      have r2 := ((hnb.cell (p := ⟨g, k * 4 + 2, none⟩) hg).trans (hcell (k * 4 + 2) (by omega))).trans q2
      have r3 := ((hnb.cell (p := ⟨g, k * 4 + 3, none⟩) hg).trans (hcell (k * 4 + 3) (by omega))).trans q3
      rw [if_pos ⟨h1, by omega⟩]
      simp only [Int.toNat_natCast]
      generalize ps.getD k (0, 0, 0) = p at *
      obtain ⟨p0, p1, p2⟩ := p
      simp only at r0 r1 r2
      have hd : decide (ps.length ≤ k) = false := decide_eq_false (by omega)
      have hd2 : (k : Int) < (ps.length : Int) := by omega
      have hd3 : (0 : Int) ≤ (k : Int) := by omega
      clear h hp hcell q0 q1 q2 q3 hl4 hnb
      go_enter Tryz.func369, Tryz.ntmps369
      go_wp2
      exact bodyPost_ret (v := .tuple #[procV (p0, p1, p2), .bool true]) (by simp [results, Tryz.results369, go_sem, procV]) rfl ⟨rfl, Bel.new _ _⟩
    · rw [if_neg (by omega)]
      have hd : decide (ps.length ≤ k) = true := decide_eq_true (by omega)
      have hd2 : ¬ (k : Int) < (ps.length : Int) := by omega
      have hd3 : (0 : Int) ≤ (k : Int) := by omega
      clear h hp
      go_enter Tryz.func369, Tryz.ntmps369
      go_wp2
      exact bodyPost_ret (v := .tuple #[procV (0, 0, 0), .bool false]) (by simp [results, Tryz.results369, go_sem, procV]) rfl ⟨rfl, Bel.new _ _⟩
  · rw [if_neg (by omega)]
    have hd3 : i < 0 := by omega
    clear h hp
    go_enter Tryz.func369, Tryz.ntmps369
    go_wp2
    exact bodyPost_ret (v := .tuple #[procV (0, 0, 0), .bool false]) (by simp [results, Tryz.results369, go_sem, procV]) rfl ⟨rfl, Bel.new _ _⟩
/-- Does a procedure begin there? -/
def beginsN (ps : List (Nat × Nat × Nat)) (ofs : List Nat) (x : Nat) : Bool := decide (x < ofs.length) && ((ps.getD (ofs.getD x 0) (0, 0, 0)).1 == x)
set_option maxRecDepth 100000 in
set_option maxHeartbeats 1000000 in
theorem begins_any {w : World} {B b : Nat} {vp vo vt : Value} {ps : List (Nat × Nat × Nat)} {ofs : List Nat} {us : List Value} {ts : List (List Nat)} (h : PAt w B b vp vo vt ps ofs us ts) (hof : ∀ x, x < ofs.length → ofs.getD x 0 < ps.length) (x : Nat) (hx : x < 4294967296) :
    Calls Tryz.prog 282 #[.pointer (some ⟨b, 0, none⟩), .int .u32 x] w fun e w' => e = .returned (.bool (beginsN ps ofs x)) ∧ Below w.heap.size w w' := by
  have h1 := of_any h x hx
  have h2 := proc_any h (ofN ofs x)
  have hz39 := zero39
  unfold beginsN
  unfold ofN at h1 h2
  unfold procN procV at h2
  by_cases hlt : x < ofs.length
  · rw [if_pos hlt] at h1 h2
    rw [if_pos ⟨by omega, by have := hof x hlt; omega⟩] at h2
    simp only [Int.toNat_natCast] at h2
    have hd0 : decide (x < ofs.length) = true := decide_eq_true hlt
    rw [hd0]
    generalize ofs.getD x 0 = y at *
    generalize ps.getD y (0, 0, 0) = p at *
    obtain ⟨p0, p1, p2⟩ := p
    simp only at *
    have H1 := Lib.hid h1
    have H2 := Lib.hid h2
    clear h h1 h2 hof hd0
    go_enter Tryz.func282, Tryz.ntmps282
    go_wp2_with fail
    refine H1.out.mono ?_
    rintro e w1 ⟨rfl, rfl⟩
    go_wp2_with fail
    refine H2.out.mono ?_
    rintro e w2 ⟨rfl, hb⟩
    clear H1 H2
    by_cases hpx : p0 = x
    · subst hpx
      go_wp2
      go_ret
      exact ⟨by simp, Bel.al hb _⟩
    · have hd1 : (p0 == x) = false := by simpa using hpx
      have hd2 : ((p0 : Int) == (x : Int)) = false := by simp; omega
      go_wp2
      go_ret
      exact ⟨by simp [hpx], Bel.al hb _⟩
  · rw [if_neg hlt] at h1 h2
    rw [if_neg (by omega)] at h2
    have hd0 : decide (x < ofs.length) = false := decide_eq_false hlt
    rw [hd0]
    have H1 := Lib.hid h1
    have H2 := Lib.hid h2
    clear h h1 h2 hof hd0
    go_enter Tryz.func282, Tryz.ntmps282
    go_wp2_with fail
    refine H1.out.mono ?_
    rintro e w1 ⟨rfl, rfl⟩
    go_wp2_with fail
    refine H2.out.mono ?_
    rintro e w2 ⟨rfl, hb⟩
    clear H1 H2
    go_wp2
    go_ret
    exact ⟨by simp, Bel.al hb _⟩
def insideN (p : Nat × Nat × Nat) (x : Nat) : Bool := decide (p.1 < x) && decide (x < p.2.1)
set_option maxRecDepth 100000 in
theorem inside_any (p : Nat × Nat × Nat) (x : Nat) (w : World) :
    Calls Tryz.prog 368 #[procV p, .int .u32 x] w fun e w' => e = .returned (.bool (insideN p x)) ∧ Below w.heap.size w w' := by
  obtain ⟨p0, p1, p2⟩ := p
  unfold insideN procV
  simp only
  by_cases h1 : p0 < x
  · have hd : decide (p0 < x) = true := decide_eq_true h1
    go_enter Tryz.func368, Tryz.ntmps368
    go_wp2
    go_ret
    exact ⟨by simp [h1], Bel.new _ _⟩
  · have hd : decide (p0 < x) = false := decide_eq_false h1
    go_enter Tryz.func368, Tryz.ntmps368
    go_wp2
    go_ret
    exact ⟨by simp [h1], Bel.new _ _⟩
end Go.Proofs.YtgpicmiaanapkaaGreat
/- Lists that were handed out lie apart: what the three loops of playpenkit's Apart.. keep. Over any program. -/
namespace Go.Proofs.YtgpicmiaanapkaaGreat
open Go.RowKit
def lenV : Value → Nat
  | .slice _ n _ => n
  | _ => 0
theorem own_lenV {w : World} {B e sz n : Nat} {v : Value} {xs : List Value} (h : w.ownsRow B e sz v n xs) : lenV v = n := by
  rcases h.2 with ⟨rfl, rfl⟩ | ⟨g, cap, cur, rfl, _⟩ <;> rfl
/-- The marks of the first n places of list k, as cells. -/
def mcells (mk : Nat → Nat → List Value) (k n : Nat) : List Value := (List.range n).flatMap (mk k)
theorem mcells_succ (mk : Nat → Nat → List Value) (k n : Nat) : mcells mk k (n + 1) = mcells mk k n ++ mk k n := by
  simp [mcells, List.range_succ]
theorem mcells_length {mk : Nat → Nat → List Value} {sz : Nat} (h : ∀ k i, (mk k i).length = sz) (k n : Nat) : (mcells mk k n).length = n * sz := by
  induction n with
  | zero => simp [mcells]
  | succ n ih => rw [mcells_succ, List.length_append, ih, h, Nat.succ_mul]
theorem mcells_pre {mk : Nat → Nat → List Value} {sz : Nat} (h : ∀ k i, (mk k i).length = sz) (k n m : Nat) : ∀ j, j < n * sz → (mcells mk k (n + m))[j]? = (mcells mk k n)[j]? := by
  induction m with
  | zero => intro j _; rfl
  | succ m ih =>
    intro j hj
    rw [← Nat.add_assoc, mcells_succ, List.getElem?_append_left (by rw [mcells_length h]; exact Nat.lt_of_lt_of_le hj (Nat.mul_le_mul_right _ (by omega))), ih j hj]
theorem mcells_at {mk : Nat → Nat → List Value} {sz : Nat} (h : ∀ k i, (mk k i).length = sz) (k n i t : Nat) (hi : i < n) (ht : t < sz) : (mcells mk k n)[i * sz + t]? = (mk k i)[t]? := by
  obtain ⟨m, rfl⟩ : ∃ m, n = (i + 1) + m := ⟨n - (i + 1), by omega⟩
  rw [mcells_pre h k (i + 1) m _ (by rw [Nat.succ_mul]; omega), mcells_succ, List.getElem?_append_right (by rw [mcells_length h]; omega), mcells_length h, Nat.add_sub_cancel_left]
/-- What is owned stays so where another block turns. -/
theorem own_grown {w w' : World} {B e sz n : Nat} {v : Value} {xs : List Value} {row : Option Nat} (h : w.ownsRow B e sz v n xs) (hg : w.grownBy w' row) (hne : ∀ g, v.ownBlock = some g → row ≠ some g) : w'.ownsRow B e sz v n xs :=
  h.kept hg (by
    cases hv : v.ownBlock with
    | none => exact .inl rfl
    | some g => exact .inr (fun e => hne g hv e.symm))
theorem grown_cell {w w' : World} {row : Option Nat} (hg : w.grownBy w' row) {b j : Nat} {v : Option Value} (h : w.cell? ⟨b, j, none⟩ = v) (hb : b < w.heap.size) (hne : row ≠ some b) : w'.cell? ⟨b, j, none⟩ = v :=
  (World.cell?_of_block (hg.block b hb (fun e => hne e.symm))).trans h
theorem grown_below {B : Nat} {w0 w w' : World} {row : Option Nat} (h : Below B w0 w) (hg : w.grownBy w' row) (hB : B ≤ w.heap.size) (hr : ∀ k, row = some k → B ≤ k) : Below B w0 w' := h.grown hg hB hr

theorem own_ge' {w : World} {base e sz n : Nat} {v : Value} {xs : List Value} (h : w.ownsRow base e sz v n xs) : w.ownsRow 0 e sz v n xs := own_base h
/-- The lists that lie apart. -/
structure Lists (B lb : Nat) (vs : List Value) : Prop where
  apart : ∀ (i j : Nat) (u v : Value) (g : Nat), vs[i]? = some u → vs[j]? = some v → u.ownBlock = some g → v.ownBlock = some g → i = j
  notl : ∀ (j : Nat) (v : Value), vs[j]? = some v → v.ownBlock ≠ some lb
  base : B ≤ lb

/-- The first loop. -/
structure Ph1 (w0 w : World) (B e sz lb : Nat) (vs : List Value) (mk : Nat → Nat → List Value) (k i : Nat) : Prop where
  below : Below B w0 w
  lbl : lb < w.heap.size
  ls : ∀ (j : Nat) (v : Value), vs[j]? = some v → w.cell? ⟨lb, j, none⟩ = some v
  row : ∀ (j : Nat) (v : Value), vs[j]? = some v → ∃ xs, w.ownsRow B e sz v (lenV v) xs ∧ (j < k → xs = mcells mk j (lenV v)) ∧ (j = k → ∀ t, t < i * sz → xs[t]? = (mcells mk k i)[t]?)
theorem Ph1.calm {w0 w w' : World} {B e sz lb : Nat} {vs : List Value} {mk : Nat → Nat → List Value} {k i : Nat} (h : Ph1 w0 w B e sz lb vs mk k i) (hL : Lists B lb vs) (hb : Below w.heap.size w w') : Ph1 w0 w' B e sz lb vs mk k i :=
  ⟨h.below.trans (hb.mono (by have := hL.base; have := h.lbl; omega)), Nat.lt_of_lt_of_le h.lbl hb.size, fun j v hj => (hb.cell (p := ⟨lb, j, none⟩) h.lbl).trans (h.ls j v hj),
    fun j v hj => by obtain ⟨xs, h1, h2⟩ := h.row j v hj; exact ⟨xs, own_below h1 hb, h2⟩⟩
theorem Ph1.step {w0 w w' : World} {B e sz lb : Nat} {vs : List Value} {mk : Nat → Nat → List Value} {k i : Nat} (h : Ph1 w0 w B e sz lb vs mk k i) (hL : Lists B lb vs) {v : Value} {g : Nat} (hv : vs[k]? = some v) (hg : v.ownBlock = some g)
    (hgr : w.grownBy w' (some g)) {xs : List Value} (hr : w'.ownsRow B e sz v (lenV v) xs) (ht : ∀ t, t < (i + 1) * sz → xs[t]? = (mcells mk k (i + 1))[t]?) : Ph1 w0 w' B e sz lb vs mk k (i + 1) := by
  have hBl : B ≤ w.heap.size := by have := hL.base; have := h.lbl; omega
  have hgB : B ≤ g := (hr.lt g hg).1
  refine ⟨h.below.grown hgr hBl (fun q e => by cases e; exact hgB), Nat.lt_of_lt_of_le h.lbl hgr.size, fun j u hj => grown_cell hgr (h.ls j u hj) h.lbl (fun e => by cases e; exact hL.notl k v hv hg), fun j u hj => ?_⟩
  by_cases hjk : j = k
  · subst hjk
    rw [hv] at hj
    cases hj
    exact ⟨xs, hr, fun h => absurd h (Nat.lt_irrefl _), fun _ => ht⟩
  · obtain ⟨ys, h1, h2, _⟩ := h.row j u hj
    exact ⟨ys, own_grown h1 hgr (fun q e e2 => by cases e2; exact hjk (hL.apart j k u v g hj hv e hg)), h2, fun e => absurd e hjk⟩
theorem Ph1.next {w0 w : World} {B e sz lb : Nat} {vs : List Value} {mk : Nat → Nat → List Value} {k : Nat} {v : Value} (hmk : ∀ k i, (mk k i).length = sz) (hv : vs[k]? = some v) (h : Ph1 w0 w B e sz lb vs mk k (lenV v)) : Ph1 w0 w B e sz lb vs mk (k + 1) 0 :=
  ⟨h.below, h.lbl, h.ls, fun j u hj => by
    obtain ⟨xs, h1, h2, h3⟩ := h.row j u hj
    refine ⟨xs, h1, fun hlt => ?_, fun _ t ht => by omega⟩
    by_cases e : j = k
    · subst e
      rw [hv] at hj
      cases hj
      refine List.ext_getElem? fun t => ?_
      by_cases htl : t < lenV v * sz
      · exact h3 rfl t htl
      · rw [List.getElem?_eq_none (by rw [h1.1]; omega), List.getElem?_eq_none (by rw [mcells_length hmk]; omega)]
    · exact h2 (by omega)⟩

/-- The second loop: what was handed out (from m on as it was marked), what was grown. -/
structure Ph2 (w0 w : World) (B e sz te lb m : Nat) (vs us : List Value) (gs : Value) (mk : Nat → Nat → List Value) (tag : Nat → Nat) : Prop where
  below : Below B w0 w
  len : us.length ≤ vs.length
  lbl : lb < w.heap.size
  ls : ∀ (j : Nat) (v : Value), vs[j]? = some v → w.cell? ⟨lb, j, none⟩ = some v
  tl : tag lb = 0
  tv : ∀ (j : Nat) (v : Value) (g : Nat), vs[j]? = some v → v.ownBlock = some g → tag g = j + 2 ∧ g < w.heap.size
  tu : ∀ (j : Nat) (u : Value) (g : Nat), us[j]? = some u → u.ownBlock = some g → tag g = j + 2
  tg : ∀ g, gs.ownBlock = some g → tag g = 1
  row : ∀ (j : Nat) (v : Value), vs[j]? = some v → m ≤ j → w.ownsRow B e sz v (lenV v) (mcells mk j (lenV v))
  cel : ∀ (j : Nat) (v : Value) (g : Nat), vs[j]? = some v → j < us.length → v.ownBlock = some g → ∀ i, i < lenV v * sz → w.cell? ⟨g, i, none⟩ = (mcells mk j (lenV v))[i]?
  urow : ∀ (j : Nat) (u v : Value), us[j]? = some u → vs[j]? = some v → w.ownsRow B e sz u (lenV v + 64) (mcells mk j (lenV v + 64))
  grow : w.ownsRow B te 1 gs us.length us
/-- Another block than all these turns, or block b of tag c, of which nothing is told here. -/
theorem Ph2.other {w0 w w' : World} {B e sz te lb m : Nat} {vs us : List Value} {gs : Value} {mk : Nat → Nat → List Value} {tag : Nat → Nat} (h : Ph2 w0 w B e sz te lb m vs us gs mk tag) (hB : B ≤ lb) {row : Option Nat} (hg : w.grownBy w' row) (hlm : us.length < m)
    (hr : ∀ g, row = some g → tag g = us.length + 2 ∧ B ≤ g) : Ph2 w0 w' B e sz te lb m vs us gs mk tag where
  below := h.below.grown hg (by have := h.lbl; omega) (fun q e => (hr q e).2)
  len := h.len
  lbl := Nat.lt_of_lt_of_le h.lbl hg.size
  ls j v hj := grown_cell hg (h.ls j v hj) h.lbl (fun e => by have := (hr _ e).1; have := h.tl; omega)
  tl := h.tl
  tv j v g hj hv := ⟨(h.tv j v g hj hv).1, Nat.lt_of_lt_of_le (h.tv j v g hj hv).2 hg.size⟩
  tu := h.tu
  tg := h.tg
  row j v hj hm := own_grown (h.row j v hj hm) hg (fun q e e2 => by have := (hr _ e2).1; have := (h.tv j v q hj e).1; omega)
  cel j v g hj hl hv i hi := grown_cell hg (h.cel j v g hj hl hv i hi) (h.tv j v g hj hv).2 (fun e => by have := (hr _ e).1; have := (h.tv j v g hj hv).1; omega)
  urow j u v hu hv := own_grown (h.urow j u v hu hv) hg (fun q e e2 => by have := (hr _ e2).1; have := h.tu j u q hu e; have := (List.getElem?_eq_some_iff.1 hu).1; omega)
  grow := own_grown h.grow hg (fun q e e2 => by have := (hr _ e2).1; have := h.tg q e; omega)
theorem Ph2.calm {w0 w w' : World} {B e sz te lb m : Nat} {vs us : List Value} {gs : Value} {mk : Nat → Nat → List Value} {tag : Nat → Nat} (h : Ph2 w0 w B e sz te lb m vs us gs mk tag) (hB : B ≤ lb) (hb : Below w.heap.size w w') : Ph2 w0 w' B e sz te lb m vs us gs mk tag where
  below := h.below.trans (hb.mono (by have := h.lbl; omega))
  len := h.len
  lbl := Nat.lt_of_lt_of_le h.lbl hb.size
  ls j v hj := (hb.cell (p := ⟨lb, j, none⟩) h.lbl).trans (h.ls j v hj)
  tl := h.tl
  tv j v g hj hv := ⟨(h.tv j v g hj hv).1, Nat.lt_of_lt_of_le (h.tv j v g hj hv).2 hb.size⟩
  tu := h.tu
  tg := h.tg
  row j v hj hm := own_below (h.row j v hj hm) hb
  cel j v g hj hl hv i hi := (hb.cell (p := ⟨g, i, none⟩) (h.tv j v g hj hv).2).trans (h.cel j v g hj hl hv i hi)
  urow j u v hu hv := own_below (h.urow j u v hu hv) hb
  grow := own_below h.grow hb
/-- Blocks that are not there yet may be told anything. -/
theorem Ph2.told {w0 w : World} {B e sz te lb m : Nat} {vs us : List Value} {gs : Value} {mk : Nat → Nat → List Value} {tag tag' : Nat → Nat} (h : Ph2 w0 w B e sz te lb m vs us gs mk tag) (ht : ∀ g, g < w.heap.size → tag' g = tag g) : Ph2 w0 w B e sz te lb m vs us gs mk tag' where
  below := h.below
  len := h.len
  lbl := h.lbl
  ls := h.ls
  tl := (ht _ h.lbl).trans h.tl
  tv j v g hj hv := ⟨(ht _ (h.tv j v g hj hv).2).trans (h.tv j v g hj hv).1, (h.tv j v g hj hv).2⟩
  tu j u g hu hg := by
    have hj : j < vs.length := Nat.lt_of_lt_of_le (List.getElem?_eq_some_iff.1 hu).1 h.len
    exact (ht _ ((h.urow j u _ hu (List.getElem?_eq_getElem hj)).lt g hg).2).trans (h.tu j u g hu hg)
  tg g hg := (ht _ (h.grow.lt g hg).2).trans (h.tg g hg)
  row := h.row
  cel := h.cel
  urow := h.urow
  grow := h.grow
/-- The list that is grown just now. -/
structure Cur (w : World) (B e sz : Nat) (v u : Value) (mk : Nat → Nat → List Value) (tag : Nat → Nat) (k t : Nat) : Prop where
  own : w.ownsRow B e sz u (lenV v + t) (mcells mk k (lenV v + t))
  tg : ∀ g, u.ownBlock = some g → tag g = k + 2
  cel : ∀ g, v.ownBlock = some g → g < w.heap.size ∧ tag g = k + 2 ∧ ∀ i, i < lenV v * sz → w.cell? ⟨g, i, none⟩ = (mcells mk k (lenV v))[i]?
theorem Cur.calm {w w' : World} {B e sz : Nat} {v u : Value} {mk : Nat → Nat → List Value} {tag : Nat → Nat} {k t : Nat} (h : Cur w B e sz v u mk tag k t) (hb : Below w.heap.size w w') : Cur w' B e sz v u mk tag k t :=
  ⟨own_below h.own hb, h.tg, fun g hg => by
    obtain ⟨h1, h2, h3⟩ := h.cel g hg
    exact ⟨Nat.lt_of_lt_of_le h1 hb.size, h2, fun i hi => (hb.cell (p := ⟨g, i, none⟩) h1).trans (h3 i hi)⟩⟩
theorem own_at {w : World} {B e sz n : Nat} {v : Value} {xs : List Value} (h : w.ownsRow B e sz v n xs) {g : Nat} (hg : v.ownBlock = some g) : ∀ j, j < xs.length → w.cell? ⟨g, j, none⟩ = xs[j]? := fun j hj => by
  rw [List.getElem?_eq_getElem hj]
  have := h.cells hg j _ (List.getElem?_eq_getElem hj)
  rwa [Addr.add_mid, Nat.zero_add] at this
theorem Ph2.start {w0 w : World} {B e sz te lb : Nat} {vs us : List Value} {gs : Value} {mk : Nat → Nat → List Value} {tag : Nat → Nat} (h : Ph2 w0 w B e sz te lb us.length vs us gs mk tag) {v : Value} (hv : vs[us.length]? = some v) :
    Ph2 w0 w B e sz te lb (us.length + 1) vs us gs mk tag ∧ Cur w B e sz v v mk tag us.length 0 := by
  have hr := h.row _ v hv (Nat.le_refl _)
  refine ⟨⟨h.below, h.len, h.lbl, h.ls, h.tl, h.tv, h.tu, h.tg, fun j u hj hm => h.row j u hj (by omega), h.cel, h.urow, h.grow⟩, ⟨hr, fun g hg => (h.tv _ v g hv hg).1, fun g hg => ⟨(h.tv _ v g hv hg).2, (h.tv _ v g hv hg).1, fun i hi => own_at hr hg i (by rw [hr.1]; exact hi)⟩⟩⟩
theorem Ph2.grown {w0 w w' : World} {B e sz te lb : Nat} {vs us : List Value} {gs : Value} {mk : Nat → Nat → List Value} {tag : Nat → Nat} (hmk : ∀ k i, (mk k i).length = sz) (hB : B ≤ lb) (h : Ph2 w0 w B e sz te lb (us.length + 1) vs us gs mk tag) {v u u' : Value} {t : Nat}
    (hc : Cur w B e sz v u mk tag us.length t) (hg : Grew w w' u u') (ho : w'.ownsRow 0 e sz u' (lenV v + t + 1) (mcells mk us.length (lenV v + t) ++ mk us.length (lenV v + t)))
    (hk : ∀ g, u.ownBlock = some g → ∀ j, j < (mcells mk us.length (lenV v + t)).length → w'.cell? ⟨g, j, none⟩ = w.cell? ⟨g, j, none⟩) :
    ∃ tag', Ph2 w0 w' B e sz te lb (us.length + 1) vs us gs mk tag' ∧ Cur w' B e sz v u' mk tag' us.length (t + 1) := by
  have hBw : B ≤ w.heap.size := by have := h.lbl; omega
  have h1 := h.other hB hg.1 (Nat.lt_succ_self _) (fun g e => ⟨hc.tg g e, (hc.own.lt g e).1⟩)
  have hnew : ∀ g, u'.ownBlock = some g → (g < w.heap.size → tag g = us.length + 2) ∧ B ≤ g := fun g e => by
    rcases hg.2 g e with h' | h'
    · exact ⟨fun _ => hc.tg g h', (hc.own.lt g h').1⟩
    · exact ⟨fun h2 => by omega, by omega⟩
  have hBw' : B ≤ w'.heap.size := Nat.le_trans hBw hg.1.size
  let tag' : Nat → Nat := fun b => if w.heap.size ≤ b then us.length + 2 else tag b
  have ht' : ∀ g, g < w.heap.size → tag' g = tag g := fun g hlt => if_neg (by omega)
  refine ⟨tag', ?_, ?_⟩
  · refine ⟨h1.below, h1.len, h1.lbl, h1.ls, (ht' _ h.lbl).trans h.tl, fun j v g hj hv => ⟨(ht' _ (h.tv j v g hj hv).2).trans (h.tv j v g hj hv).1, (h1.tv j v g hj hv).2⟩, (h.told ht').tu, (h.told ht').tg, h1.row, h1.cel, h1.urow, h1.grow⟩
  · refine ⟨?_, fun g e => ?_, fun g hg2 => ?_⟩
    · rw [← Nat.add_assoc, mcells_succ]
      exact own_from ho (fun g e => (hnew g e).2)
    · show (if w.heap.size ≤ g then us.length + 2 else tag g) = _
      split
      · rfl
      · exact (hnew g e).1 (by omega)
    · obtain ⟨c1, c2, c3⟩ := hc.cel g hg2
      refine ⟨Nat.lt_of_lt_of_le c1 hg.1.size, (ht' _ c1).trans c2, fun i hi => ?_⟩
      by_cases e : u.ownBlock = some g
      · rw [hk g e i (by rw [mcells_length hmk, Nat.add_mul]; omega)]; exact c3 i hi
      · exact grown_cell hg.1 (c3 i hi) c1 e
theorem Ph2.laid {w0 w w' : World} {B e sz te lb : Nat} {vs us : List Value} {gs gs' : Value} {mk : Nat → Nat → List Value} {tag : Nat → Nat} (hB : B ≤ lb) (h : Ph2 w0 w B e sz te lb (us.length + 1) vs us gs mk tag) {v u : Value} (hv : vs[us.length]? = some v)
    (hc : Cur w B e sz v u mk tag us.length 64) (hg : Grew w w' gs gs') (ho : w'.ownsRow 0 te 1 gs' (us.length + 1) (us ++ [u])) :
    ∃ tag', Ph2 w0 w' B e sz te lb (us ++ [u]).length vs (us ++ [u]) gs' mk tag' := by
  have hBw : B ≤ w.heap.size := by have := h.lbl; omega
  have hBg : ∀ g, gs.ownBlock = some g → B ≤ g := fun g e => (h.grow.lt g e).1
  let tag' : Nat → Nat := fun b => if w.heap.size ≤ b then 1 else tag b
  have ht' : ∀ g, g < w.heap.size → tag' g = tag g := fun g hlt => if_neg (by omega)
  have hlen : (us ++ [u]).length = us.length + 1 := by simp
  have hul : us.length < vs.length := (List.getElem?_eq_some_iff.1 hv).1
  have hget : ∀ (j : Nat) x, (us ++ [u])[j]? = some x → (us[j]? = some x ∧ j < us.length) ∨ (j = us.length ∧ x = u) := fun j x hx => by
    by_cases hj : j < us.length
    · rw [List.getElem?_append_left hj] at hx; exact .inl ⟨hx, hj⟩
    · have hj2 := (List.getElem?_eq_some_iff.1 hx).1
      rw [hlen] at hj2
      obtain rfl : j = us.length := by omega
      rw [List.getElem?_append_right (Nat.le_refl _), Nat.sub_self] at hx
      cases hx; exact .inr ⟨rfl, rfl⟩
  have htu : ∀ (j : Nat) x g, (us ++ [u])[j]? = some x → x.ownBlock = some g → g < w.heap.size ∧ tag g = j + 2 := fun j x g hx e => by
    rcases hget j x hx with ⟨h1, h2⟩ | ⟨rfl, rfl⟩
    · exact ⟨((h.urow j x _ h1 (List.getElem?_eq_getElem (by omega))).lt g e).2, h.tu j x g h1 e⟩
    · exact ⟨(hc.own.lt g e).2, hc.tg g e⟩
  refine ⟨tag', h.below.grown hg.1 hBw hBg, by omega, Nat.lt_of_lt_of_le h.lbl hg.1.size, fun j x hj => grown_cell hg.1 (h.ls j x hj) h.lbl (fun e => by have := h.tg _ e; have := h.tl; omega), (ht' _ h.lbl).trans h.tl,
    fun j x g hj hx => ⟨(ht' _ (h.tv j x g hj hx).2).trans (h.tv j x g hj hx).1, Nat.lt_of_lt_of_le (h.tv j x g hj hx).2 hg.1.size⟩, fun j x g hx e => (ht' _ (htu j x g hx e).1).trans (htu j x g hx e).2, fun g e => ?_, fun j x hj hm => ?_, fun j x g hj hl hx i hi => ?_, fun j x y hx hy => ?_, ?_⟩
  · show (if w.heap.size ≤ g then 1 else tag g) = 1
    split
    · rfl
    · rename_i hlt
      rcases hg.2 g e with h' | h'
      · exact h.tg g h'
      · omega
  · exact own_grown (h.row j x hj (by rw [hlen] at hm; exact hm)) hg.1 (fun q e e2 => by have := h.tg _ e2; have := (h.tv j x q hj e).1; omega)
  · refine grown_cell hg.1 ?_ (h.tv j x g hj hx).2 (fun e => by have := h.tg _ e; have := (h.tv j x g hj hx).1; omega)
    rw [hlen] at hl
    by_cases hj2 : j < us.length
    · exact h.cel j x g hj hj2 hx i hi
    · obtain rfl : j = us.length := by omega
      rw [hv] at hj; cases hj
      exact (hc.cel g hx).2.2 i hi
  · refine own_grown ?_ hg.1 (fun q e e2 => by have := h.tg _ e2; have := (htu j x q hx e).2; omega)
    rcases hget j x hx with ⟨h1, h2⟩ | ⟨rfl, rfl⟩
    · exact h.urow j x y h1 hy
    · rw [hv] at hy; cases hy; exact hc.own
  · rw [hlen]
    exact own_from ho (fun g e => by
      rcases hg.2 g e with h' | h'
      · exact hBg g h'
      · omega)
/-- From the first loop to the second. -/
theorem Ph1.done {w0 w : World} {B e sz te lb : Nat} {vs : List Value} {mk : Nat → Nat → List Value} (hL : Lists B lb vs) (h : Ph1 w0 w B e sz lb vs mk vs.length 0) : ∃ tag, Ph2 w0 w B e sz te lb 0 vs [] (.slice none 0 0) mk tag := by
  classical
  have hr : ∀ (j : Nat) (v : Value), vs[j]? = some v → w.ownsRow B e sz v (lenV v) (mcells mk j (lenV v)) := fun j v hj => by
    obtain ⟨xs, h1, h2, _⟩ := h.row j v hj
    rw [h2 (List.getElem?_eq_some_iff.1 hj).1] at h1; exact h1
  let tag : Nat → Nat := fun b => if hb : ∃ (j : Nat) (v : Value), vs[j]? = some v ∧ v.ownBlock = some b then hb.choose + 2 else 0
  refine ⟨tag, h.below, Nat.zero_le _, h.lbl, h.ls, ?_, fun j v g hj hv => ⟨?_, ((hr j v hj).lt g hv).2⟩, fun j u g hu => by simp at hu, fun g hg => by simp [Value.ownBlock] at hg, fun j v hj _ => hr j v hj, fun j v g _ hl => absurd hl (Nat.not_lt_zero _), fun j u v hu => by simp at hu, World.ownsRow_nil _ _ _ _⟩
  · show (if hb : ∃ (j : Nat) (v : Value), vs[j]? = some v ∧ v.ownBlock = some lb then hb.choose + 2 else 0) = 0
    rw [dif_neg]
    rintro ⟨j, v, h1, h2⟩
    exact hL.notl j v h1 h2
  · have hex : ∃ (j : Nat) (v : Value), vs[j]? = some v ∧ v.ownBlock = some g := ⟨j, v, hj, hv⟩
    show (if hb : ∃ (j : Nat) (v : Value), vs[j]? = some v ∧ v.ownBlock = some g then hb.choose + 2 else 0) = j + 2
    rw [dif_pos hex]
    obtain ⟨v', h1, h2⟩ := hex.choose_spec
    rw [hL.apart _ j v' v g h1 hj h2 hv]
/-- What the third loop reads. -/
structure Ph3 (w : World) (B lb : Nat) (sz : Nat) (vs us : List Value) (gs : Value) (mk : Nat → Nat → List Value) : Prop where
  len : us.length = vs.length
  lbl : lb < w.heap.size
  ls : ∀ (j : Nat) (v : Value), vs[j]? = some v → w.cell? ⟨lb, j, none⟩ = some v
  gl : 0 < vs.length → ∃ g cap, gs = .slice (some ⟨g, 0, none⟩) vs.length cap ∧ g < w.heap.size ∧ cap ≤ maxLen ∧ ∀ (j : Nat) (u : Value), us[j]? = some u → w.cell? ⟨g, j, none⟩ = some u
  us : ∀ (j : Nat) (u v : Value), us[j]? = some u → vs[j]? = some v → ∃ g cap, u = .slice (some ⟨g, 0, none⟩) (lenV v + 64) cap ∧ g < w.heap.size ∧ ∀ i t, i < lenV v + 64 → t < sz → w.cell? ⟨g, i * sz + t, none⟩ = (mk j i)[t]?
  vs : ∀ (j : Nat) (v : Value), vs[j]? = some v → ∀ g, v.ownBlock = some g → g < w.heap.size ∧ ∀ i t, i < lenV v → t < sz → w.cell? ⟨g, i * sz + t, none⟩ = (mk j i)[t]?
theorem Ph2.read {w0 w : World} {B e sz te lb m : Nat} {vs us : List Value} {gs : Value} {mk : Nat → Nat → List Value} {tag : Nat → Nat} (hmk : ∀ k i, (mk k i).length = sz) (h : Ph2 w0 w B e sz te lb m vs us gs mk tag) (hl : us.length = vs.length) : Ph3 w B lb sz vs us gs mk where
  len := hl
  lbl := h.lbl
  ls := h.ls
  gl h0 := by
    obtain ⟨g, cap, e, h1, h2, h3, h4⟩ := own_form (own_ge' h.grow) (by omega)
    rw [hl] at e
    exact ⟨g, cap, e, h3, h2, fun j u hu => (h4 j (List.getElem?_eq_some_iff.1 hu).1).trans hu⟩
  us j u v hu hv := by
    have hr := h.urow j u v hu hv
    obtain ⟨g, cap, e, h1, h2, h3, h4⟩ := own_form (own_ge' hr) (by omega)
    refine ⟨g, cap, e, h3, fun i t hi ht => ?_⟩
    rw [h4 _ (by rw [mcells_length hmk]; have : (i + 1) * sz ≤ (lenV v + 64) * sz := Nat.mul_le_mul_right _ (by omega); rw [Nat.succ_mul] at this; omega), mcells_at hmk _ _ _ _ hi ht]
  vs j v hj g hg := by
    refine ⟨(h.tv j v g hj hg).2, fun i t hi ht => ?_⟩
    rw [h.cel j v g hj (by rw [hl]; exact (List.getElem?_eq_some_iff.1 hj).1) hg _ (by have : (i + 1) * sz ≤ lenV v * sz := Nat.mul_le_mul_right _ (by omega); rw [Nat.succ_mul] at this; omega), mcells_at hmk _ _ _ _ hi ht]
theorem Ph3.calm {w w' : World} {B lb sz : Nat} {vs us : List Value} {gs : Value} {mk : Nat → Nat → List Value} (h : Ph3 w B lb sz vs us gs mk) (hb : Below w.heap.size w w') : Ph3 w' B lb sz vs us gs mk where
  len := h.len
  lbl := Nat.lt_of_lt_of_le h.lbl hb.size
  ls j v hj := (hb.cell (p := ⟨lb, j, none⟩) h.lbl).trans (h.ls j v hj)
  gl h0 := by
    obtain ⟨g, cap, e, h1, h2, h3⟩ := h.gl h0
    exact ⟨g, cap, e, Nat.lt_of_lt_of_le h1 hb.size, h2, fun j u hu => (hb.cell (p := ⟨g, j, none⟩) h1).trans (h3 j u hu)⟩
  us j u v hu hv := by
    obtain ⟨g, cap, e, h1, h2⟩ := h.us j u v hu hv
    exact ⟨g, cap, e, Nat.lt_of_lt_of_le h1 hb.size, fun i t hi ht => (hb.cell (p := ⟨g, _, none⟩) h1).trans (h2 i t hi ht)⟩
  vs j v hj g hg := by
    obtain ⟨h1, h2⟩ := h.vs j v hj g hg
    exact ⟨Nat.lt_of_lt_of_le h1 hb.size, fun i t hi ht => (hb.cell (p := ⟨g, _, none⟩) h1).trans (h2 i t hi ht)⟩
end Go.Proofs.YtgpicmiaanapkaaGreat
/- Rows that grow: more laws, over any program. -/
namespace Go.Proofs.YtgpicmiaanapkaaGreat
open Go.RowKit
section
variable {P : Program}
/-- append of a whole slice that may be read (nil, or empty, too). -/
theorem wpList_append_reads {ops : Array Oper} {rest : List Oper} {o : Oper} {a : Act} {w : World} {Q : Exit → Act → World → Prop} (hgd : o.guard = none) (s x : Operand) (t : TypeId)
    (ho : o.op = .call { callee := .builtin .append, args := #[s, x], argTypes := #[t, t] })
    (e : TypeId) (i : TypeInfo) (z : Value) (size bytes : Nat) (ht : P.underlying t = some (.slice e)) (hi : P.info? e = some i) (hz : i.zero = some z)
    (hsize : i.size = size) (hby : i.bytes = bytes) (hzs : z.cells.size = size) (hsz : 0 < size)
    (v : Value) (n : Nat) (xs : List Value) (hs : a.eval s = v) (hown : w.ownsRow 0 e size v n xs)
    (u : Value) (m : Nat) (cs : List Value) (hx : a.eval x = u) (hu : Reads w size u m cs) (h1 : ∀ c ∈ cs, c.oneCell' = true)
    (h63 : n + m ≤ maxLen) (hbytes : (n + m) * bytes ≤ 140737488355328)
    (h : ∀ v' w', w'.ownsRow 0 e size v' (n + m) (xs ++ cs) → Grew w w' v v' → wpList P ops Q rest (a.put o.dst v') w') : wpList P ops Q (o :: rest) a w := by
  obtain ⟨a0, cap, rfl, hl, hmc, hcm, hnil, hp⟩ := hu
  cases a0 with
  | none =>
    obtain rfl := hnil rfl
    obtain rfl : m = 0 := by omega
    obtain rfl : cs = [] := List.eq_nil_of_length_eq_zero (by simpa using hl)
    refine wpList_append_own_none hgd s x t ho 0 e i size ht hi v n xs hs hown hx ?_
    have := h v w (by simpa using hown) (Grew.refl _ _)
    exact this
  | some ad =>
    refine wpList_append_grew hgd s x t ho e i z size bytes ht hi hz hsize hby hzs hsz v n xs hs hown ad m cap cs hx hl ?_ h1 h63 hbytes (fun v' w' h2 h3 _ => h v' w' h2 h3)
    intro j c hj
    have hlt : j < cs.length := (List.getElem?_eq_some_iff.1 hj).1
    obtain ⟨b, off, e, _, hc⟩ := hp (Nat.pos_of_ne_zero (fun e => by subst e; simp at hl; subst hl; simp at hlt))
    cases e
    rw [Addr.add_mid, hc j hlt]; exact hj
/-- 'append(s, x)' of one element, the new block's number a letter with an equation. -/
theorem wpList_append1B {w : World} {ops : Array Oper} {rest : List Oper} {o : Oper} {a : Act} {Q : Exit → Act → World → Prop} (hgd : o.guard = none) (s x : Operand) (t : TypeId)
    (ho : o.op = .call { callee := .builtin .append, args := #[s, x], argTypes := #[t, t] })
    (e : TypeId) (i : TypeInfo) (z : Value) (size bytes : Nat) (ht : P.underlying t = some (.slice e)) (hi : P.info? e = some i) (hz : i.zero = some z)
    (hsize : i.size = size) (hby : i.bytes = bytes) (hzs : z.cells.size = size) (hsz : 0 < size)
    (v : Value) (n : Nat) (xs : List Value) (hown : w.ownsRow 0 e size v n xs) (cs : Array Value) (et : TypeId) (B : Nat)
    (hs : a.eval s = v) (hx : a.eval x = .slice (some ⟨B, 0, none⟩) 1 1) (hB : w.heap.size = B) (hcs : cs.toList.length = 1 * size) (h1 : ∀ u ∈ cs.toList, u.oneCell' = true)
    (h63 : n + 1 ≤ maxLen) (hbytes : (n + 1) * bytes ≤ 140737488355328)
    (h : ∀ g cap w', w'.ownsRow 0 e size (.slice (some ⟨g, 0, none⟩) (n + 1) cap) (n + 1) (xs ++ cs.toList) → Grew w w' v (.slice (some ⟨g, 0, none⟩) (n + 1) cap) → g < w'.heap.size →
      wpList P ops Q rest (a.put o.dst (.slice (some ⟨g, 0, none⟩) (n + 1) cap)) w') : wpList P ops Q (o :: rest) a (w.alloc (.cells cs et)) := by
  subst hB
  exact wpList_append1 hgd s x t ho e i z size bytes ht hi hz hsize hby hzs hsz v n xs hown cs et hs hx hcs h1 h63 hbytes h
end

end Go.Proofs.YtgpicmiaanapkaaGreat
namespace Go.Proofs.YtgpicmiaanapkaaGreat
open Go.RowKit
/-- What is wrong with an instruction. -/
def checkN (o a : Nat) : Nat := if isOp o then (if mostOf o < a then 71 else 0) else 70
def sizeN (o a : Nat) : Nat := if checkN o a = 0 then 1 + widthOf o else 0
theorem width_le (k : Nat) : widthOf k ≤ 4 := by
  by_cases h : k < 60
  · have : ∀ k < 60, widthOf k ≤ 4 := by decide +kernel
    exact this k h
  · have : rowOf k = ([], 0, 0, 0, 0, 0) := by
      unfold rowOf; rw [List.getD_eq_getElem?_getD, List.getElem?_eq_none (by show 60 ≤ k; omega)]; rfl
    simp [widthOf, this]
theorem zero36 (w : World) : (zeroValue 122).run Tryz.prog w = .ok (.agg #[.int .u8 0, .int .u32 0]) w := by kernel_rfl
set_option maxRecDepth 100000 in
set_option maxHeartbeats 400000 in
theorem check_any (o a : Nat) (ho : o < 256) (w : World) :
    Calls Tryz.prog 201 #[.agg #[.int .u8 o, .int .u32 a]] w fun e w' => e = .returned (.int .i64 (checkN o a)) ∧ Below w.heap.size w w' := by
  have hz := zero26
  unfold zeroRow at hz
  have h1 := info_any o ho
  unfold rowVal rowCells at h1
  have key : (isOp o = false ∧ checkN o a = 70) ∨ (isOp o = true ∧ ((mostOf o : Int) < (a : Int)) ∧ checkN o a = 71) ∨ (isOp o = true ∧ ¬ ((mostOf o : Int) < (a : Int)) ∧ checkN o a = 0) := by
    unfold checkN; cases isOp o <;> simp <;> omega
  rcases key with ⟨e1, e2⟩ | ⟨e1, h, e2⟩ | ⟨e1, h, e2⟩ <;> rw [e2] <;> rw [e1] at h1 <;> clear e1 e2
  all_goals
    go_enter Tryz.func201, Tryz.ntmps201
    go_wp2_with fail
    refine (h1 _).mono ?_
    rintro e w1 ⟨rfl, hb⟩
    clear h1
    have hs1 := Bel.lt hb
    obtain ⟨hc1, hf1⟩ := bcell hb
    simp only [World.size_alloc] at hc1 hf1
    go_wp2
    go_ret
    exact ⟨rfl, Bel.al (Bel.of hb) _⟩
set_option maxRecDepth 100000 in
set_option maxHeartbeats 400000 in
theorem size_any (o a : Nat) (ho : o < 256) (w : World) :
    Calls Tryz.prog 205 #[.agg #[.int .u8 o, .int .u32 a]] w fun e w' => e = .returned (.int .i64 (sizeN o a)) ∧ Below w.heap.size w w' := by
  have hz := zero26
  unfold zeroRow at hz
  have h1 := info_any o ho
  unfold rowVal rowCells at h1
  have h2 := check_any o a ho
  have hw := width_le o
  have key : (¬ checkN o a = 0 ∧ sizeN o a = 0) ∨ (checkN o a = 0 ∧ sizeN o a = 1 + widthOf o) := by
    unfold sizeN; by_cases h : checkN o a = 0 <;> simp [h]
  generalize isOp o = b at h1
  rcases key with ⟨e1, e2⟩ | ⟨e1, e2⟩ <;> rw [e2]
  · have hn : ((checkN o a : Int) != 0) = true := by simp; exact e1
    generalize checkN o a = c at h2 hn
    clear e1 e2
    go_enter Tryz.func205, Tryz.ntmps205
    go_wp2_with fail
    refine (h2 _).mono ?_
    rintro e w1 ⟨rfl, hb⟩
    clear h2
    go_wp2
    go_ret
    exact ⟨rfl, Bel.of hb⟩
  · rw [e1] at h2
    clear e1 e2
    go_enter Tryz.func205, Tryz.ntmps205
    go_wp2_with fail
    refine (h2 _).mono ?_
    rintro e w1 ⟨rfl, hb⟩
    clear h2
    have hs1 := Bel.lt hb
    obtain ⟨hc1, hf1⟩ := bcell hb
    simp only [World.size_alloc] at hc1 hf1
    go_wp2_with fail
    refine (h1 _).mono ?_
    rintro e w2 ⟨rfl, hb2⟩
    clear h1
    go_wp2
    go_ret
    exact ⟨by go_num, Bel.al (Bel.tr (Bel.of hb) hb2) _⟩

end Go.Proofs.YtgpicmiaanapkaaGreat
namespace Go.Proofs.YtgpicmiaanapkaaGreat
open Go.RowKit
/-- The bytes of an instruction, of code; what Encode answers. -/
def encOne (i : Nat × Nat) : List Nat := i.1 :: (le4 i.2).take (widthOf i.1)
def encode (l : List (Nat × Nat)) : List Nat := l.flatMap encOne
def errAt (l : List (Nat × Nat)) (k : Nat) : Nat := checkN (l.getD k (0, 0)).1 (l.getD k (0, 0)).2
def badAt (l : List (Nat × Nat)) : Option Nat := (List.range' 0 l.length).find? (fun k => errAt l k != 0)
def encRes (l : List (Nat × Nat)) : List Nat × Nat × Nat :=
  if 16384 < l.length then ([], 16384, 73) else match badAt l with | some k => ([], k, errAt l k) | none => (encode l, 0, 0)
theorem find_first' (p : Nat → Bool) : ∀ (n a k : Nat), a ≤ k → k < a + n → p k = true → (∀ j, a ≤ j → j < k → p j = false) → (List.range' a n).find? p = some k
  | 0, a, k, h1, h2, _, _ => by omega
  | n + 1, a, k, h1, h2, hp, hj => by
    rw [List.range'_succ, List.find?_cons]
    by_cases e : a = k
    · subst e; rw [hp]
    · rw [hj a (Nat.le_refl _) (by omega)]; exact find_first' p n (a + 1) k (by omega) (by omega) hp (fun j h => hj j (by omega))
theorem encRes_many {l : List (Nat × Nat)} (h : 16384 < l.length) : encRes l = ([], 16384, 73) := if_pos h
theorem encRes_bad {l : List (Nat × Nat)} (h : ¬ 16384 < l.length) {k : Nat} (hk : k < l.length) (he : errAt l k ≠ 0) (hj : ∀ j, j < k → errAt l j = 0) : encRes l = ([], k, errAt l k) := by
  have : badAt l = some k := find_first' _ _ 0 k (Nat.zero_le _) (by omega) (by simpa using he) (fun j _ h => by simp [hj j h])
  rw [encRes, if_neg h, this]
theorem encRes_ok {l : List (Nat × Nat)} (h : ¬ 16384 < l.length) (hj : ∀ j, j < l.length → errAt l j = 0) : encRes l = (encode l, 0, 0) := by
  have : badAt l = none := List.find?_eq_none.2 (fun x hx => by
    rw [List.mem_range'_1] at hx; simp [hj x (by omega)])
  rw [encRes, if_neg h, this]
theorem encode_succ (l : List (Nat × Nat)) (k : Nat) (hk : k < l.length) : encode (l.take (k + 1)) = encode (l.take k) ++ [(l.getD k (0, 0)).1] ++ (le4 (l.getD k (0, 0)).2).take (widthOf (l.getD k (0, 0)).1) := by
  rw [List.take_add_one, List.getElem?_eq_getElem hk, encode, List.flatMap_append, List.append_assoc]
  simp [encode, encOne, List.getElem?_eq_getElem hk]
theorem encode_len (l : List (Nat × Nat)) : (encode l).length ≤ 5 * l.length := by
  induction l with
  | nil => simp [encode]
  | cons i l ih =>
    have : encode (i :: l) = encOne i ++ encode l := rfl
    rw [this, List.length_append, List.length_cons]
    have : (encOne i).length ≤ 5 := by simp [encOne, le4_length]; omega
    omega
theorem encode_nil {l : List (Nat × Nat)} (h : 0 < l.length) : 0 < (encode l).length := by
  cases l with
  | nil => simp at h
  | cons i l => simp [encode, encOne]

/-- One number, laid down: what comes out of Put, at a slice of one element. -/
theorem put_one (b : Nat) (x : Nat) (hx : x < 4294967296) (w : World) (hc : w.cell? ⟨b, 0, none⟩ = some (.int .u32 x)) :
    Calls Tryz.prog 101 #[.slice (some ⟨b, 0, none⟩) 1 1] w fun e w' => ∃ g cap, e = .returned (.slice (some ⟨g, 0, none⟩) 4 cap) ∧ 4 ≤ cap ∧ cap ≤ maxLen ∧ w.heap.size ≤ g ∧ g < w'.heap.size ∧
      (∀ j, j < 4 → w'.cell? ⟨g, j, none⟩ = (encN .u8 (le4 x))[j]?) ∧ Below w.heap.size w w' := by
  refine (put_any (some ⟨b, 0, none⟩) 1 [x] (by simpa using hx) w ⟨some ⟨b, 0, none⟩, 1, rfl, rfl, Nat.le_refl _, by decide, (fun h => by cases h), fun _ => ⟨b, 0, rfl, World.block_lt_of_cell? w _ hc, fun j hj => ?_⟩⟩ (by simp)).mono ?_
  · have : j = 0 := by simp [encN] at hj; exact hj
    subst this
    exact hc
  · rintro e w' ⟨v', rfl, hown, hg⟩
    obtain ⟨g, cap, rfl, h1, h2, h3, h4⟩ := own_form hown (by simp)
    refine ⟨g, cap, rfl, h1, h2, ?_, h3, fun j hj => ?_, hg.bel⟩
    · rcases hg.2 g rfl with h | h
      · cases h
      · exact h
    · have := h4 j (by rw [encN_length, le4s_length]; simpa using hj)
      simpa [le4s] using this

theorem cell_newD (W : World) (v : Value) (t : TypeId) : ((W.alloc (.cells #[v] t)).drew).cell? ⟨W.heap.size, 0, none⟩ = some v := by simp [go_sem]
theorem news_take {w w' : World} {g wd n : Nat} {cs : List Value} (hc : ∀ j, j < n → w.cell? ⟨g, j, none⟩ = cs[j]?) (hg : g < w.heap.size) (hb : Below w.heap.size w w') (hw : wd ≤ n) :
    ∀ j u, (cs.take wd)[j]? = some u → w'.cell? ((⟨g, 0, none⟩ : Addr).add j) = some u := by
  intro j u h
  rw [List.getElem?_take] at h
  split at h
  · rename_i hj
    rw [Addr.add_mid, Nat.zero_add, hb.cell (p := ⟨g, j, none⟩) hg, hc j (by omega)]; exact h
  · cases h
theorem encN_one (k : IntKind) (l : List Nat) : ∀ u ∈ encN k l, u.oneCell' = true := by
  intro u h
  obtain ⟨x, _, rfl⟩ := List.mem_map.1 h
  rfl
def EncPost (l : List (Nat × Nat)) (w : World) (e : Ending) (w' : World) : Prop :=
  ∃ v, e = .returned (.tuple #[v, .int .i64 (encRes l).2.1, .int .i64 (encRes l).2.2]) ∧ w'.ownsRow 0 5 1 v (encRes l).1.length (encN .u8 (encRes l).1) ∧ Grew w w' (.slice none 0 0) v ∧ ((encRes l).1 = [] → v = .slice none 0 0)

set_option maxRecDepth 100000 in
set_option maxHeartbeats 2000000 in
theorem encode_any (v : Value) (l : List (Nat × Nat)) (w : World) (hv : Instrs w v l) : Calls Tryz.prog 99 #[v] w (EncPost l w) := by
  have hlt := hv.lt
  obtain ⟨a, cap, rfl, hlc, hcm, hnil, hp⟩ := hv.opened
  obtain ⟨i0, hi, hz0, hz1, hz2⟩ := info_parts info5
  have hlm : l.length ≤ 9223372036854775807 := by unfold maxLen at hcm; omega
  by_cases hmany : 16384 < l.length
  · have he := encRes_many hmany
    have hm1 : (16384 : Int) < (l.length : Int) := by omega
    have Hp := Lib.hid hp
    have Hn := Lib.hid hnil
    clear hp hnil
    go_enter Tryz.func99, Tryz.ntmps99
    go_wp2
    go_ret3
    refine ⟨.slice none 0 0, by rw [he]; rfl, by rw [he]; exact World.ownsRow_nil _ _ _ _, Grew.refl _ _, fun _ => rfl⟩
  · have Hp := Lib.hid hp
    have Hn := Lib.hid hnil
    have hm1 : ¬ (16384 : Int) < (l.length : Int) := by omega
    clear hp hnil
    go_enter Tryz.func99, Tryz.ntmps99
    go_wp2_with fail
    go_loopw [5, 14] (fun u i wr => ∃ k : Nat, k ≤ l.length ∧ i = .int .i64 k ∧ (∀ j, j < k → errAt l j = 0) ∧ wr.ownsRow 0 5 1 u (encode (l.take k)).length (encN .u8 (encode (l.take k))) ∧ Grew w wr (.slice none 0 0) u ∧ (k = 0 → u = .slice none 0 0)) (fun _ i _ => l.length - (intOf i).toNat)
    case atStart => exact ⟨0, by omega, rfl, fun j h => by omega, World.ownsRow_nil _ _ _ _, Grew.refl _ _, fun _ => rfl⟩
    case round =>
      obtain ⟨k, hk, rfl, hj, hr, hg, hu⟩ := hrel
      have Hj := Lib.hid hj
      have Hu := Lib.hid hu
      clear hj hu
      by_cases hlt' : k < l.length
      · obtain ⟨b, off, rfl, hbl, hc⟩ := Hp.out (by omega)
        obtain ⟨hc1, hc2⟩ := hc k hlt'
        have hb1 : wr.cell? ⟨b, off + k * 2, none⟩ = some (.int .u8 (l.getD k (0, 0)).1) := ((Grew.bel hg).cell (p := ⟨b, off + k * 2, none⟩) hbl).trans hc1
        have hb2 : wr.cell? ⟨b, off + k * 2 + 1, none⟩ = some (.int .u32 (l.getD k (0, 0)).2) := ((Grew.bel hg).cell (p := ⟨b, off + k * 2 + 1, none⟩) hbl).trans hc2
        obtain ⟨ho, ha⟩ := hlt k
        have hch := fun W => check_any (l.getD k (0, 0)).1 (l.getD k (0, 0)).2 ho W
        have hsz := fun W => size_any (l.getD k (0, 0)).1 (l.getD k (0, 0)).2 ho W
        have hen := encode_succ l k hlt'
        have her : errAt l k = checkN (l.getD k (0, 0)).1 (l.getD k (0, 0)).2 := rfl
        have hln := encode_len (l.take k)
        rw [List.length_take] at hln
        generalize l.getD k (0, 0) = ins at *
        obtain ⟨o, x⟩ := ins
        have Hen := Lib.hid hen
        have Her := Lib.hid her
        clear hen her hc hc1 hc2 hlt
        simp only at *
        go_wp2_with fail
        refine (hch _).mono ?_
        rintro e w1 ⟨rfl, hb⟩
        clear hch
        have hs1 := Bel.lt hb
        obtain ⟨hk1, hk2⟩ := bcell hb
        simp only [World.size_alloc] at hk1 hk2
        have hgb := Grew.tr' hg hb
        have hr1 := own_below hr (Bel.of hb)
        by_cases hce : checkN o x = 0
        · rw [hce] at Her ⊢
          go_wp2_with ((with_reducible refine wpList_append1 (o := ⟨some 29, .call { callee := .builtin .append, args := #[.tmp 25, .tmp 28], argTypes := #[24, 24] }, _, _, _, none⟩) rfl _ _ 24 rfl 5 i0 (.int .u8 0) 1 1 Tryz.underlying24 hi hz0 hz1 hz2 ?_ ?_ _ _ _ hr1 _ _ ?_ ?_ ?_ ?_ ?_ ?_ ?_); rfl; decide; rfl; rfl; rfl; (simp [Value.oneCell']); (unfold maxLen; omega); omega; intro g c w2 hr2 hg2 hl2)
          have hub : ∀ q, u5.ownBlock = some q → q < wr.heap.size := fun q e => (hr.lt q e).2
          have c0 : w2.cell? ⟨wr.heap.size, 0, none⟩ = some (.int .u8 o) := by
            rw [hg2.1.cell_far ⟨wr.heap.size, 0, none⟩ hs1 (fun e => by have := hub _ e.symm; exact absurd this (Nat.lt_irrefl _)), hk1 _ _ (by omega)]
            simp [go_sem]
          have c1 : w2.cell? ⟨wr.heap.size, 1, none⟩ = some (.int .u32 x) := by
            rw [hg2.1.cell_far ⟨wr.heap.size, 1, none⟩ hs1 (fun e => by have := hub _ e.symm; exact absurd this (Nat.lt_irrefl _)), hk1 _ _ (by omega)]
            simp [go_sem]
          have hw2 : wr.heap.size < w2.heap.size := Nat.lt_of_lt_of_le hs1 hg2.1.size
          have hgne : g ≠ wr.heap.size := fun e => by
            rcases hg2.2 g rfl with h | h
            · have := hub _ h; omega
            · omega
          have keepA : ∀ (W W' : World) (n : Nat) (v' : Value), Grew W W' (.slice (some ⟨g, 0, none⟩) n c) v' → (W.cell? ⟨wr.heap.size, 0, none⟩ = some (.int .u8 o) ∧ W.cell? ⟨wr.heap.size, 1, none⟩ = some (.int .u32 x) ∧ w2.grownBy W (some g)) → W'.cell? ⟨wr.heap.size, 0, none⟩ = some (.int .u8 o) ∧ W'.cell? ⟨wr.heap.size, 1, none⟩ = some (.int .u32 x) ∧ w2.grownBy W' (some g) := by
            intro W W' n v' hb ⟨e1, e2, e3⟩
            have h4 : wr.heap.size < W.heap.size := Nat.lt_of_lt_of_le hw2 e3.size
            have hne : ∀ j, (some (⟨wr.heap.size, j, none⟩ : Addr).block ≠ (Value.slice (some ⟨g, 0, none⟩) n c).ownBlock) := fun j e => hgne (by simpa [Value.ownBlock] using e.symm)
            exact ⟨(hb.1.cell_far ⟨wr.heap.size, 0, none⟩ h4 (hne 0)).trans e1, (hb.1.cell_far ⟨wr.heap.size, 1, none⟩ h4 (hne 1)).trans e2, grownBy_trans e3 hb.1 (fun k e => .inl e)⟩
          have keepL : ∀ W W' : World, Below W.heap.size W W' → (W.cell? ⟨wr.heap.size, 0, none⟩ = some (.int .u8 o) ∧ W.cell? ⟨wr.heap.size, 1, none⟩ = some (.int .u32 x) ∧ w2.grownBy W (some g)) → W'.cell? ⟨wr.heap.size, 0, none⟩ = some (.int .u8 o) ∧ W'.cell? ⟨wr.heap.size, 1, none⟩ = some (.int .u32 x) ∧ w2.grownBy W' (some g) := by
            intro W W' hb hS
            exact keepA W W' 0 (.slice (some ⟨g, 0, none⟩) 0 c) ⟨below_grownBy hb _, fun g h => .inl h⟩ hS
          have hput := fun b W hc hS => (put_one b x ha W hc).mono fun e w' (hh : ∃ g cap, e = .returned (.slice (some ⟨g, 0, none⟩) 4 cap) ∧ 4 ≤ cap ∧ cap ≤ maxLen ∧ W.heap.size ≤ g ∧ g < w'.heap.size ∧
              (∀ j, j < 4 → w'.cell? ⟨g, j, none⟩ = (encN .u8 (le4 x))[j]?) ∧ Below W.heap.size W w') => And.intro hh (keepL W w' (by obtain ⟨_, _, _, _, _, _, _, _, h⟩ := hh; exact h) hS)
          have hszz := fun W hS => (hsz W).mono fun e w' (hh : _ ∧ _) => And.intro hh (keepL W w' hh.2 hS)
          have hsz1 : sizeN o x = 1 + widthOf o := by rw [sizeN, if_pos hce]
          rw [hsz1] at hszz
          have hwd := width_le o
          have hsub : IntKind.i64.wrap (1 + (widthOf o : Int) - 1) = (widthOf o : Int) := by
            rw [IntWalk.i64_in _ (by omega)]; omega
          have hsub2 : IntKind.i64.wrap (widthOf o : Int) = (widthOf o : Int) := by rw [IntWalk.i64_in _ (by omega)]
          generalize widthOf o = wd at *
          have hwd0 : (0 : Int) ≤ (wd : Int) := by omega
          have hl4 : ((encN .u8 (le4 x)).take wd).length = wd * 1 := by rw [List.length_take, encN_length, le4_length]; omega
          have h1c : ∀ u ∈ (encN .u8 (le4 x)).take wd, u.oneCell' = true := fun u h => encN_one _ _ u (List.mem_of_mem_take h)
          have hb63 : (encode (List.take k l)).length + 1 + wd ≤ maxLen := by unfold maxLen; omega
          have hb47 : ((encode (List.take k l)).length + 1 + wd) * 1 ≤ 140737488355328 := by omega
          have Hl4 := Lib.hid hl4
          have H1c := Lib.hid h1c
          clear hl4 h1c
          have Hput := Lib.hid hput
          have Hsz := Lib.hid hszz
          have Hkeep := Lib.hid keepL
          have HkeepA := Lib.hid keepA
          clear keepA
          have C0 := Lib.hid c0
          have C1 := Lib.hid c1
          clear hput hszz keepL c0 c1 hub hsz hsz1
          go_region_held3 (fun w' => w'.cell? ⟨wr.heap.size, 0, none⟩ = some (.int .u8 o) ∧ w'.cell? ⟨wr.heap.size, 1, none⟩ = some (.int .u32 x) ∧ w2.grownBy w' (some g))
            (first | assumption | exact HkeepA.out _ _ _ _ hg3 (by assumption) | exact Hkeep.out _ _ (Bel.new _ _) (by assumption) | exact ⟨C0.out, C1.out, below_grownBy (Below.refl _ _).drew _⟩)
            (first | (refine step_append_grew rfl (.tmp 30) (.tmp 38) 24 rfl 5 i0 (.int .u8 0) 1 1 Tryz.underlying24 hi hz0 hz1 hz2 rfl Nat.one_pos _ _ _ rfl (own_below (own_below (own_below hr2 (Bel.dr (Bel.new _ _))) hbel) hbs) ⟨g2, 0, none⟩ wd cap2 ((encN .u8 (le4 x)).take wd) rfl Hl4.out (news_take hcells hg2u hbs hwd) H1c.out hb63 hb47 ?_; intro v3 w3 hr3 hg3 hnil3) | (go_at_call 101; refine (Hput.out _ _ ?_ ?_).mono ?_; exact cell_newD _ _ _; assumption; rintro e w' ⟨⟨g2, cap2, rfl, hcap, hcapm, hg2l, hg2u, hcells, hbel⟩, hS⟩; have hle2 : wd ≤ cap2 := Nat.le_trans hwd hcap; have hle : (wd : Int) ≤ (cap2 : Int) := Int.ofNat_le.2 hle2) | (go_at_call 205; refine (Hsz.out _ ?_).mono ?_; assumption; rintro e w' ⟨⟨rfl, hbs⟩, hS2⟩))
          clear hsub hsub2
          have hall := Lib.hid ((((hgb.trans hg2).then (Bel.tr (Bel.tr (Bel.dr (Bel.new _ _)) hbel) hbs)).trans hg3))
          have hfin : w3.ownsRow 0 5 1 v3 (encode (List.take (k + 1) l)).length (encN .u8 (encode (List.take (k + 1) l))) := by
            have e1 : (encode (List.take (k + 1) l)).length = (encode (List.take k l)).length + 1 + wd := by
              rw [Hen.out, List.length_append, List.length_append, List.length_take, le4_length]; simp; omega
            have e2 : encN .u8 (encode (List.take (k + 1) l)) = encN .u8 (encode (List.take k l)) ++ #[Value.int IntKind.u8 o].toList ++ (encN .u8 (le4 x)).take wd := by
              rw [Hen.out, encN_append, encN_append]; simp [encN, List.map_take]
            rw [e1, e2]; exact hr3
          have Hfin := Lib.hid hfin
          clear hfin
          go_wp2
          go_roundw
          case rel => exact ⟨k + 1, by omega, by go_num, fun j h => by
            by_cases e : j = k
            · subst e; rw [Her.out]
            · exact Hj.out j (by omega), Hfin.out, hall.out, fun h => by omega⟩
          case measure => simp [intOf]; omega
        · have hne : ((checkN o x : Int) != 0) = true := by simp; exact hce
          have her : errAt l k ≠ 0 := by rw [Her.out]; exact hce
          have he := encRes_bad (by omega) hlt' her Hj.out
          rw [Her.out] at he
          have He := Lib.hid he
          clear he hce her
          generalize checkN o x = c at *
          go_wp2
          go_ret3
          refine ⟨.slice none 0 0, by rw [He.out]; rfl, by rw [He.out]; exact World.ownsRow_nil _ _ _ _, Grew.nilOf hgb, fun _ => rfl⟩
      · have : k = l.length := by omega
        subst this
        rw [List.take_length] at hr
        have he := encRes_ok (by omega) Hj.out
        have He := Lib.hid he
        clear he
        have hu : encode l = [] → u5 = .slice none 0 0 := fun h => Hu.out (by
          by_cases h0 : 0 < l.length
          · have := encode_nil h0; rw [h] at this; simp at this
          · omega)
        have Hu2 := Lib.hid hu
        clear hu
        go_wp2
        go_ret3
        exact ⟨u5, by rw [He.out]; rfl, by rw [He.out]; exact hr, hg, by rw [He.out]; exact Hu2.out⟩
end Go.Proofs.YtgpicmiaanapkaaGreat
