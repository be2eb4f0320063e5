import Derived.Test.YtgpicmiaanapkaaGreatFoldCoversZ4
import Derived.Deep.RegionHeld3
import Derived.RegionTactic
import Derived.BigRegion
import Derived.StillTailTactics
import Derived.Laws.CopyOwn
import Derived.Laws.MakeOwn
import Derived.Laws.BitsAllLaws
import Derived.Test.YtgpicmiaanapkaaGreatFoldCoversZ3
import Derived.Test.YtgpicmiaanapkaaGreatFoldCoversZ1
/- (*graph).next: the walk. -/
namespace Go.Proofs.YtgpicmiaanapkaaGreat
open Go.RowKit
set_option linter.unusedVariables false
theorem own_new1 (w : World) (x : Nat) (y : Int) (h : y = (x : Int)) : (w.alloc (.cells #[.int .u32 y] 25)).ownsRow w.heap.size 25 1 (.slice (some ⟨w.heap.size, 0, none⟩) 1 1) 1 (encN .u32 [x]) := by
  subst h
  exact ⟨rfl, .inr ⟨w.heap.size, 1, _, rfl, Nat.le_refl _, World.alloc_heap_new w _, Nat.le_refl _, by decide, rfl, rfl⟩⟩
theorem own_new2 (w : World) (x y : Nat) (c : Nat) (hc : c = 2) : (w.alloc (.cells #[.int .u32 (x : Int), .int .u32 (y : Int)] 25)).ownsRow w.heap.size 25 1 (.slice (some ⟨w.heap.size, 0, none⟩) 2 2) 2 (encN .u32 [x, y]) := by
  exact ⟨rfl, .inr ⟨w.heap.size, 2, _, rfl, Nat.le_refl _, World.alloc_heap_new w _, Nat.le_refl _, by decide, rfl, rfl⟩⟩
theorem own_drewN {W : World} {B e sz n : Nat} {v : Value} {xs : List Value} (h : W.ownsRow B e sz v n xs) (k : Nat) : (W.drewN k).ownsRow B e sz v n xs := h
theorem own_cut1 {W : World} {B e g c : Nat} {x y : Value} (h : W.ownsRow B e 1 (.slice (some ⟨g, 0, none⟩) 2 c) 2 [x, y]) : W.ownsRow B e 1 (.slice (some ⟨g, 0, none⟩) 1 c) 1 [x] := by
  obtain ⟨hl, h⟩ := h
  rcases h with ⟨hv, _⟩ | ⟨g', c', cur, hv, hb, hg, hn, hm, hcs, ht⟩
  · cases hv
  · cases hv
    refine ⟨rfl, .inr ⟨g, c, cur, rfl, hb, hg, by omega, hm, hcs, ?_⟩⟩
    have := congrArg (List.take 1) ht
    rw [List.take_take] at this
    simpa using this
theorem FindOk.hof {code : List (Nat × Nat)} {js : List Nat} (h : FindOk code js []) (x : Nat) (hx : x < (ofTo code code.length).length) : (ofTo code code.length).getD x 0 < (psTo code code.length).length := (tiles (code := code) h.h3.2 _).lt x (by rw [← (tiles (code := code) h.h3.2 code.length).ol]; exact hx)
theorem FindOk.jl {code : List (Nat × Nat)} {js : List Nat} (h : FindOk code js []) : js.length ≤ 16384 := by
  have h2 := h.hg.le
  rw [(tiles (code := code) h.h3.2 code.length).ol] at h2
  have := encRes_short h.he
  omega
theorem FindOk.rows {code : List (Nat × Nat)} {js : List Nat} (h : FindOk code js []) (j : Nat) : ((aimTo (ofTo code code.length) js (psTo code code.length).length js.length).getD j []).length ≤ 16384 := by
  have h1 := aimTo_row_le (ofTo code code.length) js (psTo code code.length).length js.length j
  have := h.jl
  omega
theorem field421 (s : ByteArray) (a b c d K : Int) (w : World) : (Instr.field 421 (.agg #[.string s, .int .i64 a, .int .u32 b, .int .i64 c, .int .i64 d, .int .u8 K]) 5).run Tryz.prog w = .ok (.int .u8 K) w := by kernel_rfl
set_option maxRecDepth 100000 in
set_option maxHeartbeats 4000000 in
theorem next_any {w : World} {B g b : Nat} {uc uj : Value} {code : List (Nat × Nat)} {js : List Nat} (h : GraphAt w B g b uc uj code js) (hok : FindOk code js []) (i : Nat) (hi : i < code.length) (hlt : ∀ k, (code.getD k (0, 0)).1 < 256 ∧ (code.getD k (0, 0)).2 < 4294967296) :
    Calls Tryz.prog 438 #[.pointer (some ⟨g, 0, none⟩), .int .i64 i] w fun e w' => ∃ v, e = .returned v ∧ w'.ownsRow w.heap.size 25 1 v (nextN code js i).length (encN .u32 (nextN code js i)) ∧ Below w.heap.size w w' := by
  have hfd := field421
  have hbs1 := run_bs23_1
  have hbs2 := run_bs23_2
  obtain ⟨q, c, rfl, hq, h1, h2⟩ := h.code hi
  have hcl := encRes_short hok.he
  have hc0 := h.c0
  have hgl : g < w.heap.size := World.block_lt_of_cell? _ _ hc0
  have HG := Lib.hid h
  have HI := Lib.hid (ginfo_any h i hi (hlt i).1)
  have hk := kind_lt (opAt code i)
  have hai : argAt code i < 4294967296 := (hlt i).2
  obtain ⟨L, hL⟩ : ∃ L, L = nextN code js i := ⟨_, rfl⟩
  rw [← hL]
  have HL := Lib.hid hL
  clear hL
  unfold nextN at HL
  unfold rowVal rowCells at HI
  have hii : (i : Int) < (code.length : Int) := by omega
  have hi0 : (0 : Int) ≤ (i : Int) := by omega
  have hi14 : (i : Int) < 16384 := by omega
  generalize kindOf (opAt code i) = K at *
  generalize argAt code i = a at *
  generalize opAt code i = o at *
  generalize wordOf o = wd at *
  generalize widthOf o = wi at *
  generalize mostOf o = mo at *
  generalize takesOf o = ta at *
  generalize givesOf o = gi at *
  clear h
  go_enter Tryz.func438, Tryz.ntmps438
  go_wp2_with fail
  refine HI.out.mono ?_
  rintro e w1 ⟨rfl, hb1⟩
  have Hb1 := Lib.hid hb1
  clear hb1 HI hc0 h1 h2
  rcases (by omega : K = 1 ∨ K = 6 ∨ K = 5 ∨ K = 2 ∨ K = 3 ∨ K = 4 ∨ (K = 0 ∨ K = 7 ∨ K = 8)) with rfl | rfl | rfl | rfl | rfl | rfl | hK
  case inr.inr.inr.inl =>
    by_cases he : i + 1 = a
    · subst he
      have HL2 := Lib.hid (show L = [i + 1] from by rw [HL.out, if_neg (by decide), if_pos rfl, if_pos rfl])
      have hbn := Bel.new w1 (.cells #[.int .u32 ((i : Int) + 1), .int .u32 ((i : Int) + 1)] 25)
      have hcn := cells_new2 w1 (.int .u32 ((i : Int) + 1)) (.int .u32 ((i : Int) + 1)) 25
      have Hcp := Lib.hid (compact2_eq w1.heap.size 2 ((i : Int) + 1) (Nat.le_refl _) _ hcn.1 hcn.2 (by simp [go_sem]))
      have Hbn := Lib.hid (Bel.tr Hb1.out hbn)
      have Hown := Lib.hid (own_new2 w1 (i + 1) (i + 1) 2 rfl)
      clear hbn hcn
      go_wp2_with fail
      refine Hcp.out.mono ?_
      rintro e w2 ⟨rfl, n, rfl⟩
      go_wp2
      go_ret
      refine ⟨_, rfl, ?_, (below_drewN Hbn.out n).setCell (p := ⟨w1.heap.size, 1, none⟩) Hb1.out.size _⟩
      rw [HL2.out]
      exact own_from (own_base (own_cut1 (y := .int .u32 0) (own_drewN Hown.out n |>.stored 1 (.int .u32 0)).1)) (fun g e => by cases e; exact Hb1.out.size)
    · have hne : ((i : Int) + 1) ≠ (a : Int) := by omega
      obtain ⟨x, y, hxy, hL3, hmin, hmax⟩ : ∃ x y : Nat, x ≠ y ∧ L = [x, y] ∧ min ((i : Int) + 1) (a : Int) = (x : Int) ∧ max ((i : Int) + 1) (a : Int) = (y : Int) := by
        refine ⟨min (i + 1) a, max (i + 1) a, by omega, ?_, by omega, by omega⟩
        rw [HL.out, if_neg (by decide), if_pos rfl, if_neg he]
      have HL3 := Lib.hid hL3
      have Hmin := Lib.hid hmin
      have Hmax := Lib.hid hmax
      have hbn := Bel.new w1 (.cells #[.int .u32 (x : Int), .int .u32 (y : Int)] 25)
      have hcn := cells_new2 w1 (.int .u32 (x : Int)) (.int .u32 (y : Int)) 25
      have Hcp := Lib.hid (compact2_ne w1.heap.size 2 (x : Int) (y : Int) (by omega) _ hcn.1 hcn.2)
      have Hbn := Lib.hid (Bel.tr Hb1.out hbn)
      have Hown := Lib.hid (own_new2 w1 x y 2 rfl)
      clear hbn hcn hmin hmax hL3 hne
      go_wp2_with fail
      rw [Hmin.out, Hmax.out]
      refine Hcp.out.mono ?_
      rintro e w2 ⟨rfl, n, rfl⟩
      go_wp2
      go_ret
      refine ⟨_, rfl, ?_, below_drewN Hbn.out n⟩
      rw [HL3.out]
      exact own_from (own_base (own_drewN Hown.out n)) (fun g e => by cases e; exact Hb1.out.size)
  case inr.inr.inr.inr.inr.inl =>
    have HG1 := Lib.hid (HG.out.below Hb1.out)
    have hS0 := Lib.hid (show w1.drew.cell? ⟨g, 2, none⟩ = some (.pointer (some ⟨b, 0, none⟩)) ∧ Below w1.heap.size w1 w1.drew from ⟨HG1.out.c2, (Below.refl _ _).drew⟩)
    have H1 := Lib.hid (fun (W : World) (hS : W.cell? ⟨g, 2, none⟩ = some (.pointer (some ⟨b, 0, none⟩)) ∧ Below w1.heap.size w1 W) => (show Calls Tryz.prog 356 #[.pointer (some ⟨b, 0, none⟩), .int .u32 (i : Int)] W fun e w' => e = .returned (.int .i64 (ofN (ofTo code code.length) i)) ∧ w' = W from by
      obtain ⟨B', -, vp, vo, vt, us, hA⟩ := HG1.out.p
      exact (of_any (hA.below hS.2) i (by omega)).mono fun _ _ h => ⟨h.1, h.2.symm⟩))
    have H2 := Lib.hid (fun (W : World) (hS : W.cell? ⟨g, 2, none⟩ = some (.pointer (some ⟨b, 0, none⟩)) ∧ Below w1.heap.size w1 W) => (show Calls Tryz.prog 487 #[.pointer (some ⟨b, 0, none⟩), .int .i64 (ofN (ofTo code code.length) i)] W fun e w' => ∃ v, e = .returned v ∧ w'.ownsRow W.heap.size 25 1 v L.length (encN .u32 L) ∧ (w'.cell? ⟨g, 2, none⟩ = some (.pointer (some ⟨b, 0, none⟩)) ∧ Below w1.heap.size w1 w') ∧ w1.heap.size ≤ W.heap.size from by
      obtain ⟨B', -, vp, vo, vt, us, hA⟩ := HG1.out.p
      refine (targets_any (hA.below hS.2) (aimTo_length _ _ _ _) hok.rows (ofN (ofTo code code.length) i)).mono ?_
      rintro e w' ⟨v, rfl, ho, hb⟩
      have hLe : L = _ := HL.out
      rw [if_neg (by decide), if_neg (by decide), if_neg (by decide), if_pos rfl] at hLe
      rw [← hLe] at ho
      exact ⟨v, rfl, ho, ⟨(hb.cell (p := ⟨g, 2, none⟩) (World.block_lt_of_cell? _ _ hS.1)).trans hS.1, Bel.tr hS.2 hb⟩, hS.2.size⟩))
    generalize ofN (ofTo code code.length) i = z at *
    have hc2 := HG1.out.c2
    go_wp2_with fail
    clear hc2
    have hwk : IntKind.u32.wrap (i : Int) = (i : Int) := u32_wrap i (by omega)
    go_region_held3 (fun w' => w'.cell? ⟨g, 2, none⟩ = some (.pointer (some ⟨b, 0, none⟩)) ∧ Below w1.heap.size w1 w')
      (first | assumption | exact hS0.out)
      (first | (go_at_call 356; refine (H1.out _ ?_).mono ?_; assumption; rintro e w5 ⟨rfl, hw5⟩; subst hw5) | (go_at_call 487; refine (H2.out _ ?_).mono ?_; assumption; rintro e w5 ⟨v, rfl, ho5, hS5, hsz5⟩) | fail)
    have HX := Lib.hid (And.intro ho5 (And.intro hS5.2 hsz5))
    clear ho5 hS5 hsz5
    go_wp2
    go_ret
    exact ⟨v, rfl, own_from (own_base HX.out.1) (fun g e => by have := (HX.out.1.lt g e).1; have := HX.out.2.2; have := Hb1.out.size; simp at *; omega), Bel.tr Hb1.out HX.out.2.1⟩
  case inr.inr.inr.inr.inr.inr =>
    have HL2 := Lib.hid (show L = [] from by rcases hK with rfl | rfl | rfl <;> (rw [HL.out]; rfl))
    rcases hK with rfl | rfl | rfl
    all_goals
      go_wp2_with fail
      go_ret
      exact ⟨_, rfl, by rw [HL2.out]; exact World.ownsRow_nil _ _ _ _, Hb1.out⟩
  case inr.inr.inr.inr.inl =>
    have HL2 := Lib.hid (show L = [a] from by rw [HL.out]; rfl)
    go_wp2_with fail
    go_ret
    exact ⟨_, rfl, by rw [HL2.out]; exact own_from (own_base (own_new1 w1 a _ rfl)) (fun g e => by cases e; exact Hb1.out.size), Bel.al Hb1.out _⟩
  all_goals
    have HL2 := Lib.hid (show L = [i + 1] from by rw [HL.out]; rfl)
    go_wp2_with fail
    go_ret
    exact ⟨_, rfl, by rw [HL2.out]; exact own_from (own_base (own_new1 w1 (i + 1) _ (by omega))) (fun g e => by cases e; exact Hb1.out.size), Bel.al Hb1.out _⟩
end Go.Proofs.YtgpicmiaanapkaaGreat
/- The heap of indices. -/
namespace Go.Proofs.YtgpicmiaanapkaaGreat
open Go.RowKit
set_option linter.unusedVariables false
theorem meth_pop (a : Addr) (w : World) : (method 784 566 (.pointer (some a)) "Pop").run Tryz.prog w = .ok (597, .pointer (some a)) w := by kernel_rfl
theorem meth_push (a : Addr) (w : World) : (method 784 566 (.pointer (some a)) "Push").run Tryz.prog w = .ok (598, .pointer (some a)) w := by kernel_rfl
theorem meth_len0 (a : Addr) (w : World) : (method 784 566 (.pointer (some a)) "Len").run Tryz.prog w = ((do let r ← loadVar 567 a; pure (435, r)) : Sem (FuncId × Value)).run Tryz.prog w := by kernel_rfl
theorem meth_less0 (a : Addr) (w : World) : (method 784 566 (.pointer (some a)) "Less").run Tryz.prog w = ((do let r ← loadVar 567 a; pure (596, r)) : Sem (FuncId × Value)).run Tryz.prog w := by kernel_rfl
theorem meth_swap0 (a : Addr) (w : World) : (method 784 566 (.pointer (some a)) "Swap").run Tryz.prog w = ((do let r ← loadVar 567 a; pure (599, r)) : Sem (FuncId × Value)).run Tryz.prog w := by kernel_rfl
theorem load567 (a : Addr) (v : Value) (w : World) (h : w.cell? a = some v) : (loadVar 567 a).run Tryz.prog w = .ok v w := by
  simp [go_sem, h]
theorem meth_len (a : Addr) (v : Value) (w : World) (h : w.cell? a = some v) : (method 784 566 (.pointer (some a)) "Len").run Tryz.prog w = .ok (435, v) w := by
  rw [meth_len0, Sem.run_bind, load567 a v w h]; rfl
theorem meth_less (a : Addr) (v : Value) (w : World) (h : w.cell? a = some v) : (method 784 566 (.pointer (some a)) "Less").run Tryz.prog w = .ok (596, v) w := by
  rw [meth_less0, Sem.run_bind, load567 a v w h]; rfl
theorem meth_swap (a : Addr) (v : Value) (w : World) (h : w.cell? a = some v) : (method 784 566 (.pointer (some a)) "Swap").run Tryz.prog w = .ok (599, v) w := by
  rw [meth_swap0, Sem.run_bind, load567 a v w h]; rfl
end Go.Proofs.YtgpicmiaanapkaaGreat
/- Heaps of numbers in a list: plain. -/
namespace Go.Proofs.YtgpicmiaanapkaaGreat
set_option linter.unusedVariables false
def swapL (l : List Nat) (i j : Nat) : List Nat := (l.set i (l.getD j 0)).set j (l.getD i 0)
theorem swapL_length (l : List Nat) (i j : Nat) : (swapL l i j).length = l.length := by simp [swapL]
theorem getD_set_eq (l : List Nat) (i k v : Nat) (hi : i < l.length) : (l.set i v).getD k 0 = if k = i then v else l.getD k 0 := by
  rw [List.getD_eq_getElem?_getD, List.getD_eq_getElem?_getD, List.getElem?_set]
  by_cases h : i = k
  · subst h; simp [hi]
  · rw [if_neg h, if_neg (by omega)]
theorem swapL_getD (l : List Nat) (i j k : Nat) (hi : i < l.length) (hj : j < l.length) : (swapL l i j).getD k 0 = if k = j then l.getD i 0 else if k = i then l.getD j 0 else l.getD k 0 := by
  unfold swapL
  rw [getD_set_eq _ _ _ _ (by simpa using hj), getD_set_eq _ _ _ _ hi]
theorem swapL_perm (l : List Nat) (i j : Nat) (hi : i < l.length) (hj : j < l.length) : (swapL l i j).Perm l := by
  unfold swapL
  have e1 : l.getD j 0 = l[j] := by rw [List.getD_eq_getElem?_getD, List.getElem?_eq_getElem hj]; rfl
  have e2 : l.getD i 0 = l[i] := by rw [List.getD_eq_getElem?_getD, List.getElem?_eq_getElem hi]; rfl
  rw [e1, e2]
  exact List.set_set_perm hi hj
def par (k : Nat) : Nat := (k - 1) / 2
theorem par_lt {k : Nat} (h : 0 < k) : par k < k := by unfold par; omega
def IsHeap (l : List Nat) : Prop := ∀ k, 0 < k → k < l.length → l.getD (par k) 0 ≤ l.getD k 0
theorem IsHeap.min {l : List Nat} (h : IsHeap l) (k : Nat) (hk : k < l.length) : l.getD 0 0 ≤ l.getD k 0 := by
  induction k using Nat.strongRecOn with
  | _ k ih =>
    by_cases h0 : k = 0
    · subst h0; exact Nat.le_refl _
    · have hp := par_lt (k := k) (by omega)
      exact Nat.le_trans (ih (par k) hp (by omega)) (h k (by omega) hk)
/-- Upward. -/
def upL (l : List Nat) (j : Nat) : List Nat :=
  if h : 0 < j then (if l.getD j 0 < l.getD (par j) 0 then upL (swapL l (par j) j) (par j) else l) else l
termination_by j
decreasing_by exact par_lt h
theorem upL_length (l : List Nat) (j : Nat) : (upL l j).length = l.length := by
  induction j using Nat.strongRecOn generalizing l with
  | _ j ih =>
    rw [upL]
    split
    · rename_i h
      split
      · rw [ih _ (par_lt h), swapL_length]
      · rfl
    · rfl
theorem upL_perm (l : List Nat) (j : Nat) (hj : j < l.length) : (upL l j).Perm l := by
  induction j using Nat.strongRecOn generalizing l with
  | _ j ih =>
    rw [upL]
    split
    · rename_i h
      have hp := par_lt h
      split
      · exact (ih _ hp _ (by rw [swapL_length]; omega)).trans (swapL_perm l _ _ (by omega) hj)
      · exact List.Perm.refl _
    · exact List.Perm.refl _
theorem upL_heap (l : List Nat) (j : Nat) (hj : j < l.length) (ha : ∀ k, 0 < k → k < l.length → k ≠ j → l.getD (par k) 0 ≤ l.getD k 0)
    (hb : ∀ k, 0 < k → k < l.length → par k = j → 0 < j → l.getD (par j) 0 ≤ l.getD k 0) : IsHeap (upL l j) := by
  induction j using Nat.strongRecOn generalizing l with
  | _ j ih =>
    rw [upL]
    split
    · rename_i h
      have hp := par_lt h
      split
      · rename_i hlt
        have hg := fun k => swapL_getD l (par j) j k (by omega) hj
        refine ih _ hp _ (by rw [swapL_length]; omega) ?_ ?_
        · intro k hk0 hk hkp
          rw [swapL_length] at hk
          have hpk := par_lt hk0
          rw [hg, hg]
          by_cases e : k = j
          · subst e
            rw [if_neg (by omega), if_pos rfl, if_pos rfl]; omega
          · rw [if_neg (by omega : ¬ k = j), if_neg hkp]
            by_cases e1 : par k = j
            · rw [if_pos e1]; exact hb k hk0 hk e1 h
            · rw [if_neg e1]
              by_cases e2 : par k = par j
              · rw [if_pos e2]
                have := ha k hk0 hk e
                rw [e2] at this; omega
              · rw [if_neg e2]; exact ha k hk0 hk e
        · intro k hk0 hk hkp h0
          rw [swapL_length] at hk
          have hpp := par_lt h0
          have hpk := par_lt hk0
          rw [hg, hg, if_neg (by omega), if_neg (by omega)]
          have h1 := ha (par j) h0 (by omega) (by omega)
          by_cases e : k = j
          · rw [if_pos e]; exact h1
          · rw [if_neg e, if_neg (by omega)]
            have := ha k hk0 hk e
            rw [hkp] at this; omega
      · rename_i hlt
        intro k hk0 hk
        by_cases e : k = j
        · subst e; omega
        · exact ha k hk0 hk e
    · rename_i h
      intro k hk0 hk
      exact ha k hk0 hk (by omega)
/-- The child that goes up. -/
def childL (l : List Nat) (i n : Nat) : Nat := if 2 * i + 2 < n ∧ l.getD (2 * i + 2) 0 < l.getD (2 * i + 1) 0 then 2 * i + 2 else 2 * i + 1
theorem childL_gt (l : List Nat) (i n : Nat) : i < childL l i n := by unfold childL; split <;> omega
theorem childL_lt {l : List Nat} {i n : Nat} (h : 2 * i + 1 < n) : childL l i n < n := by unfold childL; split <;> omega
/-- Downward. -/
def downL (l : List Nat) (i n : Nat) : List Nat :=
  if h : 2 * i + 1 < n then (if l.getD (childL l i n) 0 < l.getD i 0 then downL (swapL l i (childL l i n)) (childL l i n) n else l) else l
termination_by n - i
decreasing_by have := childL_gt l i n; have := childL_lt (l := l) h; omega
theorem downL_length (l : List Nat) (i n : Nat) : (downL l i n).length = l.length := by
  fun_induction downL l i n with
  | case1 l i h hlt ih => rw [ih, swapL_length]
  | case2 => rfl
  | case3 => rfl
theorem downL_perm (l : List Nat) (i n : Nat) (hn : n ≤ l.length) : (downL l i n).Perm l := by
  fun_induction downL l i n with
  | case1 l i h hlt ih =>
    have h1 := childL_gt l i n
    have h2 := childL_lt (l := l) h
    exact (ih (by rw [swapL_length]; exact hn)).trans (swapL_perm l _ _ (by omega) (by omega))
  | case2 => exact List.Perm.refl _
  | case3 => exact List.Perm.refl _
theorem downL_above (l : List Nat) (i n : Nat) (hn : n ≤ l.length) (k : Nat) (hk : n ≤ k) : (downL l i n).getD k 0 = l.getD k 0 := by
  fun_induction downL l i n with
  | case1 l i h hlt ih =>
    have h1 := childL_gt l i n
    have h2 := childL_lt (l := l) h
    rw [ih (by rw [swapL_length]; exact hn), swapL_getD _ _ _ _ (by omega) (by omega), if_neg (by omega), if_neg (by omega)]
  | case2 => rfl
  | case3 => rfl
theorem downL_heap (l : List Nat) (i n : Nat) (hn : n ≤ l.length) (ha : ∀ k, 0 < k → k < n → par k ≠ i → l.getD (par k) 0 ≤ l.getD k 0)
    (hb : ∀ k, 0 < k → k < n → par k = i → 0 < i → l.getD (par i) 0 ≤ l.getD k 0) : ∀ k, 0 < k → k < n → (downL l i n).getD (par k) 0 ≤ (downL l i n).getD k 0 := by
  fun_induction downL l i n with
  | case1 l i h hlt ih =>
    have h1 := childL_gt l i n
    have h2 := childL_lt (l := l) h
    have hpc : par (childL l i n) = i := by unfold childL par; split <;> omega
    have hmin : ∀ k, 0 < k → k < n → par k = i → l.getD (childL l i n) 0 ≤ l.getD k 0 := by
      intro k hk0 hk hp
      have : k = 2 * i + 1 ∨ k = 2 * i + 2 := by unfold par at hp; omega
      unfold childL
      split <;> rcases this with rfl | rfl <;> omega
    generalize childL l i n = c at *
    have hg := fun k => swapL_getD l i c k (by omega) (by omega)
    refine ih (by rw [swapL_length]; exact hn) ?_ ?_
    · intro k hk0 hk hkp
      have hpk := par_lt hk0
      rw [hg, hg]
      rw [if_neg hkp]
      by_cases e : k = c
      · subst e
        rw [if_pos rfl, hpc, if_pos rfl]; omega
      · rw [if_neg e]
        by_cases e1 : k = i
        · subst e1
          rw [if_pos rfl, if_neg (by omega)]
          exact hb c (by omega) h2 hpc (by omega)
        · rw [if_neg e1]
          by_cases e2 : par k = i
          · rw [if_pos e2]
            have := hmin k hk0 hk e2; omega
          · rw [if_neg e2]; exact ha k hk0 hk e2
    · intro k hk0 hk hkp h0
      have hpk := par_lt hk0
      rw [hg, hg, hpc, if_neg (by omega), if_pos rfl, if_neg (by omega), if_neg (by omega)]
      have := ha k hk0 hk (by omega)
      rw [hkp] at this; exact this
  | case2 l i h hlt =>
    intro k hk0 hk
    by_cases e : par k = i
    · have : k = 2 * i + 1 ∨ k = 2 * i + 2 := by unfold par at e; omega
      rw [e]
      unfold childL at hlt
      split at hlt <;> rcases this with rfl | rfl <;> omega
    · exact ha k hk0 hk e
  | case3 l i h =>
    intro k hk0 hk
    refine ha k hk0 hk ?_
    unfold par; omega
/-- Push. -/
def pushL (l : List Nat) (x : Nat) : List Nat := upL (l ++ [x]) l.length
theorem pushL_perm (l : List Nat) (x : Nat) : (pushL l x).Perm (x :: l) :=
  (upL_perm _ _ (by simp)).trans (List.perm_append_singleton x l)
theorem pushL_heap {l : List Nat} (h : IsHeap l) (x : Nat) : IsHeap (pushL l x) := by
  refine upL_heap _ _ (by simp) ?_ ?_
  · intro k hk0 hk hne
    have hk' : k < l.length := by simp at hk; omega
    have hp := par_lt hk0
    rw [List.getD_eq_getElem?_getD, List.getD_eq_getElem?_getD, List.getElem?_append_left (by omega), List.getElem?_append_left hk', ← List.getD_eq_getElem?_getD, ← List.getD_eq_getElem?_getD]
    exact h k hk0 hk'
  · intro k hk0 hk hp _
    have := par_lt hk0
    simp at hk; omega
/-- Pop: the least, and the rest. -/
def popL (l : List Nat) : List Nat := (downL (swapL l 0 (l.length - 1)) 0 (l.length - 1)).take (l.length - 1)
theorem popL_length (l : List Nat) : (popL l).length = l.length - 1 := by
  unfold popL; rw [List.length_take, downL_length, swapL_length]; omega
theorem popL_last {l : List Nat} (h : 0 < l.length) : (downL (swapL l 0 (l.length - 1)) 0 (l.length - 1)).getD (l.length - 1) 0 = l.getD 0 0 := by
  rw [downL_above _ _ _ (by rw [swapL_length]; omega) _ (Nat.le_refl _), swapL_getD _ _ _ _ h (by omega), if_pos rfl]
theorem popL_perm {l : List Nat} (h : 0 < l.length) : (l.getD 0 0 :: popL l).Perm l := by
  have h1 : (downL (swapL l 0 (l.length - 1)) 0 (l.length - 1)).Perm l := (downL_perm _ _ _ (by rw [swapL_length]; omega)).trans (swapL_perm l _ _ h (by omega))
  have hlen : (downL (swapL l 0 (l.length - 1)) 0 (l.length - 1)).length = l.length := by rw [downL_length, swapL_length]
  have hlast := popL_last h
  unfold popL
  generalize downL (swapL l 0 (l.length - 1)) 0 (l.length - 1) = m at *
  have e : m = m.take (l.length - 1) ++ [l.getD 0 0] := by
    have h2 := List.take_append_drop (l.length - 1) m
    have h3 : m.drop (l.length - 1) = [l.getD 0 0] := by
      rw [List.drop_eq_getElem_cons (by omega), List.drop_of_length_le (by omega)]
      rw [List.getD_eq_getElem?_getD, List.getElem?_eq_getElem (by omega)] at hlast
      simp only [Option.getD_some] at hlast
      rw [hlast]
    rw [h3] at h2; exact h2.symm
  have h4 : (l.getD 0 0 :: m.take (l.length - 1)).Perm m := by
    have := (List.perm_append_singleton (l.getD 0 0) (m.take (l.length - 1))).symm
    rwa [← e] at this
  exact h4.trans h1
theorem popL_heap {l : List Nat} (hh : IsHeap l) (h : 0 < l.length) : IsHeap (popL l) := by
  have hs := fun k => swapL_getD l 0 (l.length - 1) k h (by omega)
  have hd := downL_heap (swapL l 0 (l.length - 1)) 0 (l.length - 1) (by rw [swapL_length]; omega) (by
    intro k hk0 hk hp
    have := par_lt hk0
    rw [hs, hs, if_neg (by omega), if_neg hp, if_neg (by omega), if_neg (by omega)]
    exact hh k hk0 (by omega)) (fun k _ _ _ h0 => absurd h0 (Nat.lt_irrefl _))
  intro k hk0 hk
  rw [popL_length] at hk
  have hp := par_lt hk0
  unfold popL
  rw [List.getD_eq_getElem?_getD, List.getD_eq_getElem?_getD, List.getElem?_take_of_lt (by omega), List.getElem?_take_of_lt hk, ← List.getD_eq_getElem?_getD, ← List.getD_eq_getElem?_getD]
  exact hd k hk0 hk
theorem popL_least {l : List Nat} (hh : IsHeap l) {x : Nat} (hx : x ∈ l) : l.getD 0 0 ≤ x := by
  obtain ⟨k, hk, rfl⟩ := List.mem_iff_getElem.1 hx
  have e : l.getD k 0 = l[k] := by rw [List.getD_eq_getElem?_getD, List.getElem?_eq_getElem hk]; rfl
  rw [← e]
  exact hh.min k hk
end Go.Proofs.YtgpicmiaanapkaaGreat
/- The heap's methods. -/
namespace Go.Proofs.YtgpicmiaanapkaaGreat
open Go.RowKit
set_option linter.unusedVariables false
theorem own_num {W : World} {B e g n c : Nat} {k : IntKind} {l : List Nat} (h : W.ownsRow B e 1 (.slice (some ⟨g, 0, none⟩) n c) n (encN k l)) {i : Nat} (hi : i < l.length) : W.cell? ⟨g, i, none⟩ = some (.int k (l.getD i 0 : Nat)) := by
  rw [h.cellAt i (by have := h.1; rw [encN_length] at this; omega)]; exact encN_at k l i hi
theorem encN_set (k : IntKind) (l : List Nat) (i v : Nat) : (encN k l).set i (.int k (v : Nat)) = encN k (l.set i v) := by simp [encN, List.map_set]
theorem grown_drewN (W : World) (n : Nat) (r : Option Nat) : W.grownBy (W.drewN n) r := ⟨rfl, rfl, rfl, Nat.le_refl _, fun _ _ _ => rfl⟩
set_option maxRecDepth 100000 in
set_option maxHeartbeats 2000000 in
theorem len_any (a : Option Addr) (n c : Nat) (w : World) : Calls Tryz.prog 435 #[.slice a n c] w fun e w' => e = .returned (.int .i64 n) ∧ w = w' := by
  go_enter Tryz.func435, Tryz.ntmps435
  go_wp2
  go_ret
  exact ⟨rfl, rfl⟩
set_option maxRecDepth 100000 in
set_option maxHeartbeats 2000000 in
theorem less_h {w : World} {B g c : Nat} {l : List Nat} (h : w.ownsRow B 3 1 (.slice (some ⟨g, 0, none⟩) l.length c) l.length (encN .i64 l)) (i j : Nat) (hi : i < l.length) (hj : j < l.length) :
    Calls Tryz.prog 596 #[.slice (some ⟨g, 0, none⟩) l.length c, .int .i64 i, .int .i64 j] w fun e w' => e = .returned (.bool (decide (l.getD i 0 < l.getD j 0))) ∧ ∃ n, w' = w.drewN n := by
  have h1 := own_num h hi
  have h2 := own_num h hj
  generalize l.getD i 0 = x at *
  generalize l.getD j 0 = y at *
  have hii : (i : Int) < (l.length : Int) := by omega
  have hi0 : (0 : Int) ≤ (i : Int) := by omega
  have hjj : (j : Int) < (l.length : Int) := by omega
  have hj0 : (0 : Int) ≤ (j : Int) := by omega
  clear h
  go_enter Tryz.func596, Tryz.ntmps596
  go_wp2_with fail
  go_quiet (fail)
  go_wp2
  go_ret
  exact ⟨ret_boolE (by simp), _, rfl⟩
set_option maxRecDepth 100000 in
set_option maxHeartbeats 2000000 in
theorem swap_h {w : World} {B g c : Nat} {l : List Nat} (h : w.ownsRow B 3 1 (.slice (some ⟨g, 0, none⟩) l.length c) l.length (encN .i64 l)) (i j : Nat) (hi : i < l.length) (hj : j < l.length) (hij : i ≠ j) :
    Calls Tryz.prog 599 #[.slice (some ⟨g, 0, none⟩) l.length c, .int .i64 i, .int .i64 j] w fun e w' => (∃ v, e = .returned v) ∧ w'.ownsRow B 3 1 (.slice (some ⟨g, 0, none⟩) l.length c) l.length (encN .i64 (swapL l i j)) ∧ w.grownBy w' (some g) := by
  have h1 := own_num h hi
  have h2 := own_num h hj
  have f1 := h.frozenAt i
  have f2 := h.frozenAt j
  have H := Lib.hid h
  have hii : (i : Int) < (l.length : Int) := by omega
  have hi0 : (0 : Int) ≤ (i : Int) := by omega
  have hjj : (j : Int) < (l.length : Int) := by omega
  have hj0 : (0 : Int) ≤ (j : Int) := by omega
  obtain ⟨x, hx⟩ : ∃ x, x = l.getD i 0 := ⟨_, rfl⟩
  obtain ⟨y, hy⟩ : ∃ y, y = l.getD j 0 := ⟨_, rfl⟩
  rw [← hx] at h1
  rw [← hy] at h2
  have HX := Lib.hid hx
  have HY := Lib.hid hy
  clear h hx hy
  go_enter Tryz.func599, Tryz.ntmps599
  go_wp2_with fail
  go_region
  go_end0
  have s1 := H.out.stored i (.int .i64 y)
  have s2 := s1.1.stored j (.int .i64 x)
  refine ⟨⟨_, rfl⟩, ?_, grownBy_trans (grownBy_trans s1.2 s2.2 (fun q e => .inl e)) (grown_drewN _ 1 (some g)) (fun q e => .inl e)⟩
  have h := own_drewN s2.1 1
  rw [encN_set, encN_set] at h
  have e : (l.set i y).set j x = swapL l i j := by rw [HX.out, HY.out]; rfl
  rw [e] at h
  exact h
/-- The heap behind its pointer. -/
structure HpAt (W : World) (B p : Nat) (v : Value) (l : List Nat) : Prop where
  c : W.cell? ⟨p, 0, none⟩ = some v
  f : W.frozen? ⟨p, 0, none⟩ = false
  o : W.ownsRow B 3 1 v l.length (encN .i64 l)
  ne : v.ownBlock ≠ some p
  hp : B ≤ p
/-- What a call on the heap may change. -/
structure HpTo (w w' : World) (p : Nat) (v v' : Value) : Prop where
  os : w'.os = w.os
  tape : w'.tape = w.tape
  output : w'.output = w.output
  size : w.heap.size ≤ w'.heap.size
  block : ∀ k, k < w.heap.size → k ≠ p → v.ownBlock ≠ some k → w'.heap[k]? = w.heap[k]?
  fresh : ∀ g, v'.ownBlock = some g → v.ownBlock = some g ∨ w.heap.size ≤ g
theorem HpTo.refl (w : World) (p : Nat) (v : Value) : HpTo w w p v v := ⟨rfl, rfl, rfl, Nat.le_refl _, fun _ _ _ _ => rfl, fun g h => .inl h⟩
theorem HpTo.drewN (w : World) (p : Nat) (v : Value) (n : Nat) : HpTo w (w.drewN n) p v v := ⟨rfl, rfl, rfl, Nat.le_refl _, fun _ _ _ _ => rfl, fun g h => .inl h⟩
theorem HpTo.trans {w w' w'' : World} {p : Nat} {v v' v'' : Value} (h : HpTo w w' p v v') (k : HpTo w' w'' p v' v'') : HpTo w w'' p v v'' :=
  ⟨k.os.trans h.os, k.tape.trans h.tape, k.output.trans h.output, Nat.le_trans h.size k.size, fun i hi hp hv => (k.block i (Nat.lt_of_lt_of_le hi h.size) hp (fun e => by
    rcases h.fresh i e with h1 | h1
    · exact hv h1
    · omega)).trans (h.block i hi hp hv), fun g e => by
    rcases k.fresh g e with h1 | h1
    · exact h.fresh g h1
    · exact .inr (Nat.le_trans h.size h1)⟩
theorem HpTo.below {w w' : World} {p B : Nat} {v v' : Value} (h : HpTo w w' p v v') (hB : B ≤ w.heap.size) (hp : B ≤ p) (hv : ∀ g, v.ownBlock = some g → B ≤ g) : Below B w w' :=
  ⟨h.os, h.tape, h.output, h.size, fun i hi => h.block i (by omega) (by omega) (fun e => by have := hv i e; omega)⟩
theorem HpTo.of_grown {w w' : World} {p g : Nat} {v : Value} (hg : w.grownBy w' (some g)) (hv : v.ownBlock = some g) : HpTo w w' p v v :=
  ⟨hg.os, hg.tape, hg.output, hg.size, fun k hk _ hne => hg.block k hk (fun e => hne (hv.trans e.symm)), fun _ h => .inl h⟩
theorem HpTo.set (w : World) (p : Nat) (v v' : Value) (u : Value) (hf : ∀ g, v'.ownBlock = some g → v.ownBlock = some g ∨ w.heap.size ≤ g) : HpTo w (w.setCell ⟨p, 0, none⟩ u) p v v' :=
  ⟨rfl, rfl, rfl, by rw [World.size_setCell]; exact Nat.le_refl _, fun k _ hp _ => Below.heap_setCell _ _ _ _ hp, hf⟩
theorem mk3 (x : Int) (w : World) : (Instr.makeInterface 3 (.int .i64 x)).run Tryz.prog w = .ok (.iface 3 (.int .i64 x)) w := by kernel_rfl
set_option maxRecDepth 100000 in
set_option maxHeartbeats 2000000 in
theorem popM_h {w : World} {B p g c : Nat} {l : List Nat} (h : HpAt w B p (.slice (some ⟨g, 0, none⟩) l.length c) l) (h0 : 0 < l.length) :
    Calls Tryz.prog 597 #[.pointer (some ⟨p, 0, none⟩)] w fun e w' => e = .returned (.iface 3 (.int .i64 (l.getD (l.length - 1) 0 : Nat))) ∧ ∃ n, w' = (w.drewN n).setCell ⟨p, 0, none⟩ (.slice (some ⟨g, 0, none⟩) (l.length - 1) c) := by
  have hmx : Tryz.prog.follows .mixedOrders = true := by kernel_rfl
  have hmk := mk3
  have hx := own_num h.o (i := l.length - 1) (by omega)
  have hcap := (own_sl h.o)
  obtain ⟨a', c', hv, hnc, hcm, -⟩ := hcap
  cases hv
  have hc := h.c
  have hf := h.f
  have hm : l.length ≤ 9223372036854775807 := by unfold maxLen at hcm; omega
  generalize l.getD (l.length - 1) 0 = x at *
  obtain ⟨n, hn⟩ : ∃ n, l.length = n + 1 := ⟨l.length - 1, by omega⟩
  rw [hn] at hc hx hnc hm ⊢
  simp only [Nat.add_sub_cancel] at hx ⊢
  have hi1 : IntKind.i64.wrap (((n + 1 : Nat) : Int) - 1) = (n : Int) := by rw [show (((n + 1 : Nat) : Int) - 1) = (n : Int) from by omega]; exact IntWalk.i64_in _ (by omega)
  have hi2 : (n : Int) < ((n + 1 : Nat) : Int) := by omega
  have hi0 : (0 : Int) ≤ (n : Int) := by omega
  have hi3 : (n : Int) ≤ (c : Int) := by omega
  clear h hn h0 hcm
  go_enter Tryz.func597, Tryz.ntmps597
  go_wp2_with fail
  refine wp_region_quiet_lit hmx (by kernel_rfl) ?_
  repeat (go_big_quiet_step (fail))
  refine wpQuiet_nil ?_
  intro _ hw'
  obtain ⟨nq, hw''⟩ := hw'
  subst hw''
  have hc2 : (w.drewN nq).cell? ⟨p, 0, none⟩ = some (.slice (some ⟨g, 0, none⟩) (n + 1) c) := hc
  have hf2 : (w.drewN nq).frozen? ⟨p, 0, none⟩ = false := hf
  obtain ⟨W, hW⟩ : ∃ W, W = w.drewN nq := ⟨_, rfl⟩
  rw [← hW] at hc2 hf2 ⊢
  have HW := Lib.hid hW
  clear hW hc hf hx
  go_wp2_with fail
  have hi4 : IntKind.i64.wrap (n : Int) = (n : Int) := IntWalk.i64_in _ (by omega)
  refine wp_region_still_tail 11 hmx (by kernel_rfl) ?_
  simp only [List.take_succ_cons, List.take_zero, List.drop_succ_cons, List.drop_zero]
  repeat still_step
  refine wpStill_nil ?_
  change wpList _ _ _ _ _ W.drew
  clear hi1 hi4
  go_wp2
  go_ret
  exact ⟨rfl, nq + 1, by rw [HW.out]; rfl⟩
theorem bs567 (x : Int) (w : World) : (Instr.buildSlice 567 1 #[(0, .int .i64 x)]).run Tryz.prog w = .ok (.slice (some ⟨w.heap.size, 0, none⟩) 1 1) (w.alloc (.cells #[.int .i64 x] 3)) := by kernel_rfl
theorem ta3 (x : Int) (w : World) : (Instr.typeAssert (.iface 3 (.int .i64 x)) 20 3 false).run Tryz.prog w = .ok (.int .i64 x) w := by kernel_rfl
set_option maxRecDepth 100000 in
set_option maxHeartbeats 2000000 in
theorem pushM_h {w : World} {B p : Nat} {v : Value} {l : List Nat} (h : HpAt w B p v l) (x : Nat) (hl : l.length ≤ 20000) :
    Calls Tryz.prog 598 #[.pointer (some ⟨p, 0, none⟩), .iface 3 (.int .i64 x)] w fun e w' => (∃ u, e = .returned u) ∧ ∃ v', HpAt w' B p v' (l ++ [x]) ∧ HpTo w w' p v v' := by
  obtain ⟨i0, hi, hz0, hz1, hz2⟩ := info_parts info3'
  have hmk := bs567
  have hta := ta3
  have H := Lib.hid h
  have hc := h.c
  have hf := h.f
  have hpl : p < w.heap.size := World.block_lt_of_cell? _ _ hc
  have hne1 : w.heap.size ≠ p := by omega
  have hb63 : l.length + 1 ≤ maxLen := by unfold maxLen; omega
  have hb47 : (l.length + 1) * 8 ≤ 140737488355328 := by omega
  clear h
  go_enter Tryz.func598, Tryz.ntmps598
  go_wp2_with fail
  go_region_law ((refine step_append_grew rfl (.tmp 7) (.tmp 10) 567 rfl 3 i0 (.int .i64 0) 1 8 Tryz.underlying567 hi hz0 hz1 hz2 rfl (by decide) v l.length (encN .i64 l) rfl (own_below (own_base (own_drewN H.out.o 1)) (Bel.new _ _)) ⟨_, 0, none⟩ 1 1 [_] rfl rfl (news_new _ #[_] 3) ?_ hb63 hb47 ?_; (intro u hu; rw [List.mem_singleton.1 hu]; rfl); intro v3 w3 hr3 hg3 hn3; obtain ⟨g3, c3, hv3, hb3, hl3⟩ := own_start hr3 (Nat.succ_pos _); have hbn := Bel.new w.drew (.cells #[.int .i64 x] 3); have hcx := grown_cell hg3.1 ((hbn.cell (p := ⟨p, 0, none⟩) hpl).trans hc) (by simp; omega) H.out.ne; have hfx : w3.frozen? ⟨p, 0, none⟩ = false := (World.frozen?_of_block (hg3.1.block p (by simp; omega) (fun e => H.out.ne e.symm))).trans ((hbn.frozen (p := ⟨p, 0, none⟩) hpl).trans hf); have HR3 := Lib.hid hr3; have HG3 := Lib.hid hg3; subst hv3; clear hr3 hg3 hn3 hbn hb3))
  all_goals
    go_end0
    have hfr : ∀ q, (Value.slice (some ⟨g3, 0, none⟩) (l.length + 1) c3).ownBlock = some q → v.ownBlock = some q ∨ w.heap.size ≤ q := fun q e => by
      rcases HG3.out.2 q e with h | h
      · exact .inl h
      · exact .inr (by simp at h; omega)
    have hBw := H.out.hp
    refine ⟨⟨_, rfl⟩, _, ⟨World.cell?_setCell_same' _ _ _ (by rw [hcx]; rfl), by rw [World.frozen?_setCell]; exact hfx, ?_, ?_, hBw⟩, ?_⟩
    · rw [List.length_append, encN_append]
      refine ownsRow_setCell_other (own_from HR3.out (fun q e => ?_)) (fun e => ?_) _
      · rcases hfr q e with h | h
        · exact (H.out.o.lt q h).1
        · omega
      · rcases hfr p e with h | h
        · exact H.out.ne h
        · omega
    · intro e
      rcases hfr p e with h | h
      · exact H.out.ne h
      · omega
    · have hg := HG3.out.1
      refine ⟨hg.os, hg.tape, hg.output, ?_, fun k hk hkp hkv => ?_, hfr⟩
      · have := hg.size
        rw [World.size_setCell]; simp at this; omega
      · refine (heap_setCell_other _ _ _ _ hkp).trans ((hg.block k (by simp; omega) (fun e => hkv e.symm)).trans ?_)
        exact Below.heap_alloc _ _ _ hk
end Go.Proofs.YtgpicmiaanapkaaGreat
/- heap.up, heap.down, heap.Push, heap.Pop. -/
namespace Go.Proofs.YtgpicmiaanapkaaGreat
open Go.RowKit
set_option linter.unusedVariables false
theorem HpAt.drewN {W : World} {B p : Nat} {v : Value} {l : List Nat} (h : HpAt W B p v l) (n : Nat) : HpAt (W.drewN n) B p v l := ⟨h.c, h.f, own_drewN h.o n, h.ne, h.hp⟩
theorem HpAt.grown {W W' : World} {B p g n c : Nat} {l l' : List Nat} (h : HpAt W B p (.slice (some ⟨g, 0, none⟩) n c) l) (hg : W.grownBy W' (some g)) (ho : W'.ownsRow B 3 1 (.slice (some ⟨g, 0, none⟩) n c) l'.length (encN .i64 l')) : HpAt W' B p (.slice (some ⟨g, 0, none⟩) n c) l' := by
  have hl := World.block_lt_of_cell? _ _ h.c
  have hne : (some g : Option Nat) ≠ some p := h.ne
  exact ⟨grown_cell hg h.c hl hne, (World.frozen?_of_block (hg.block p hl (fun e => hne e.symm))).trans h.f, ho, h.ne, h.hp⟩
set_option maxRecDepth 100000 in
set_option maxHeartbeats 4000000 in
theorem up_h {w : World} {B p : Nat} {v : Value} {l : List Nat} (h : HpAt w B p v l) (j : Nat) (hj : j < l.length) (hl : l.length ≤ 20000) :
    Calls Tryz.prog 488 #[.iface 566 (.pointer (some ⟨p, 0, none⟩)), .int .i64 j] w fun e w' => (∃ u, e = .returned u) ∧ HpAt w' B p v (upL l j) ∧ HpTo w w' p v v := by
  obtain ⟨g, c, rfl, -, -⟩ := own_start h.o (by omega)
  have H := Lib.hid h
  clear h
  go_enter Tryz.func488, Tryz.ntmps488
  go_wp2_with fail
  go_loopw [1] (fun i wr => ∃ (m : Nat) (lm : List Nat), i = .int .i64 m ∧ m < l.length ∧ lm.length = l.length ∧ HpAt wr B p (.slice (some ⟨g, 0, none⟩) l.length c) lm ∧ HpTo w wr p (.slice (some ⟨g, 0, none⟩) l.length c) (.slice (some ⟨g, 0, none⟩) l.length c) ∧ upL lm m = upL l j) (fun i _ => (intOf i).toNat)
  case atStart => exact ⟨j, l, rfl, hj, rfl, H.out, HpTo.refl _ _ _, rfl⟩
  case round =>
    obtain ⟨m, lm, rfl, hm, hlm, hI, hT, hu⟩ := hrel
    rw [upL] at hu
    by_cases h0 : 0 < m
    · have hp := par_lt h0
      rw [dif_pos h0] at hu
      have hdiv := Lib.hid (show ((m : Int) - 1) / 2 = ((par m : Nat) : Int) from by unfold par; omega)
      have hb1 : (1 : Int) ≤ (m : Int) := by omega
      have hb2 : (m : Int) ≤ 20000 := by omega
      have HI := Lib.hid hI
      have HT := Lib.hid hT
      have hml := meth_less ⟨p, 0, none⟩ _ wr hI.c
      have hle := less_h (l := lm) (c := c) (by rw [hlm]; have := hI.o; rwa [hlm] at this) m (par m) (by omega) (by omega)
      rw [hlm] at hle
      by_cases hlt : lm.getD m 0 < lm.getD (par m) 0
      · rw [decide_eq_true hlt] at hle
        rw [if_pos hlt] at hu
        have HLE := Lib.hid hle
        have HU := Lib.hid hu
        have hsw := fun n => swap_h (w := wr.drewN n) (l := lm) (c := c) (own_drewN (by rw [hlm]; have := hI.o; rwa [hlm] at this) n) (par m) m (by omega) (by omega) (by omega)
        rw [hlm] at hsw
        have HSW := Lib.hid hsw
        have hms : ∀ n, (method 784 566 (.pointer (some ⟨p, 0, none⟩)) "Swap").run Tryz.prog (wr.drewN n) = .ok (599, .slice (some ⟨g, 0, none⟩) l.length c) (wr.drewN n) := fun n => meth_swap ⟨p, 0, none⟩ _ (wr.drewN n) hI.c
        have hne : ((par m : Int) == (m : Int)) = false := by simp; omega
        clear hI hT hle hu hsw hlt
        go_wp2_with fail
        rw [hdiv.out]
        refine HLE.out.mono ?_
        rintro e w1 ⟨rfl, n, rfl⟩
        go_wp2_with fail
        refine (HSW.out n).mono ?_
        rintro e w2 ⟨⟨u, rfl⟩, ho, hg⟩
        have HI2 := Lib.hid ((HI.out.drewN n).grown hg (by rw [swapL_length, hlm]; exact ho))
        have HT2 := Lib.hid (HT.out.trans ((HpTo.drewN wr p _ n).trans (HpTo.of_grown hg rfl)))
        clear ho hg hms
        go_wp2
        go_roundw
        case rel => exact ⟨par m, swapL lm (par m) m, rfl, by omega, by rw [swapL_length]; exact hlm, HI2.out, HT2.out, HU.out⟩
        case measure => simp [intOf]; omega
      · rw [decide_eq_false hlt] at hle
        rw [if_neg hlt] at hu
        subst hu
        have HLE := Lib.hid hle
        have hne : ((par m : Int) == (m : Int)) = false := by simp; omega
        clear hI hT hle hlt
        go_wp2_with fail
        rw [hdiv.out]
        refine HLE.out.mono ?_
        rintro e w1 ⟨rfl, n, rfl⟩
        go_wp2
        go_end0
        exact ⟨⟨_, rfl⟩, HI.out.drewN n, HT.out.trans (HpTo.drewN wr p _ n)⟩
    · obtain rfl : m = 0 := by omega
      rw [dif_neg h0] at hu
      subst hu
      have HI := Lib.hid hI
      have HT := Lib.hid hT
      clear hI hT
      go_wp2
      go_end0
      exact ⟨⟨_, rfl⟩, HI.out, HT.out⟩
theorem childL_a {l : List Nat} {i n : Nat} (h : 2 * i + 2 < n) (h2 : l.getD (2 * i + 2) 0 < l.getD (2 * i + 1) 0) : childL l i n = 2 * i + 2 := by unfold childL; rw [if_pos ⟨h, h2⟩]
theorem childL_b {l : List Nat} {i n : Nat} (h2 : ¬ (2 * i + 2 < n ∧ l.getD (2 * i + 2) 0 < l.getD (2 * i + 1) 0)) : childL l i n = 2 * i + 1 := by unfold childL; rw [if_neg h2]
theorem less_i {w : World} {B g c n : Nat} {l : List Nat} (h : w.ownsRow B 3 1 (.slice (some ⟨g, 0, none⟩) n c) n (encN .i64 l)) (hn : l.length = n) (i j : Nat) (x y : Int) (hx : x = (i : Int)) (hy : y = (j : Int)) (hi : i < n) (hj : j < n) (b : Bool) (hb : decide (l.getD i 0 < l.getD j 0) = b) :
    Calls Tryz.prog 596 #[.slice (some ⟨g, 0, none⟩) n c, .int .i64 x, .int .i64 y] w fun e w' => e = .returned (.bool b) ∧ ∃ n, w' = w.drewN n := by
  subst hn hx hy hb
  exact less_h h i j hi hj
theorem swap_i {w : World} {B g c n : Nat} {l : List Nat} (h : w.ownsRow B 3 1 (.slice (some ⟨g, 0, none⟩) n c) n (encN .i64 l)) (hn : l.length = n) (i j : Nat) (x y : Int) (hx : x = (i : Int)) (hy : y = (j : Int)) (hi : i < n) (hj : j < n) (hij : i ≠ j) :
    Calls Tryz.prog 599 #[.slice (some ⟨g, 0, none⟩) n c, .int .i64 x, .int .i64 y] w fun e w' => (∃ v, e = .returned v) ∧ w'.ownsRow B 3 1 (.slice (some ⟨g, 0, none⟩) n c) n (encN .i64 (swapL l i j)) ∧ w.grownBy w' (some g) := by
  subst hn hx hy
  exact swap_h h i j hi hj hij
set_option maxRecDepth 100000 in
set_option maxHeartbeats 8000000 in
theorem down_h {w : World} {B p : Nat} {v : Value} {l : List Nat} (h : HpAt w B p v l) (i n : Nat) (hn : n ≤ l.length) (h0 : 0 < l.length) (hi : i ≤ 20000) (hl : l.length ≤ 20000) :
    Calls Tryz.prog 485 #[.iface 566 (.pointer (some ⟨p, 0, none⟩)), .int .i64 i, .int .i64 n] w fun e w' => (∃ u, e = .returned u) ∧ HpAt w' B p v (downL l i n) ∧ HpTo w w' p v v := by
  obtain ⟨g, c, rfl, -, -⟩ := own_start h.o (by omega)
  have H := Lib.hid h
  have hl2 : l.length ≤ 9223372036854775807 := by omega
  have hni : (n : Int) ≤ 20000 := by omega
  clear h
  go_enter Tryz.func485, Tryz.ntmps485
  go_wp2_with fail
  go_loopw [7] (fun x wr => ∃ (m : Nat) (lm : List Nat), x = .int .i64 m ∧ m ≤ 20000 ∧ lm.length = l.length ∧ HpAt wr B p (.slice (some ⟨g, 0, none⟩) l.length c) lm ∧ HpTo w wr p (.slice (some ⟨g, 0, none⟩) l.length c) (.slice (some ⟨g, 0, none⟩) l.length c) ∧ downL lm m n = downL l i n) (fun x _ => n - (intOf x).toNat)
  case atStart => exact ⟨i, l, rfl, hi, rfl, H.out, HpTo.refl _ _ _, rfl⟩
  case round =>
    obtain ⟨m, lm, rfl, hm, hlm, hI, hT, hu⟩ := hrel
    rw [downL] at hu
    have hb0 : (0 : Int) ≤ (m : Int) := by omega
    have hb2 : (m : Int) ≤ 20000 := by omega
    have HI := Lib.hid hI
    have HT := Lib.hid hT
    by_cases h1 : 2 * m + 1 < n
    · rw [dif_pos h1] at hu
      have ho := hI.o
      rw [hlm] at ho
      have HO := Lib.hid ho
      have hk1 : (2 * (m : Int) + 1) < (n : Int) := by omega
      have hml := fun k => meth_less ⟨p, 0, none⟩ (.slice (some ⟨g, 0, none⟩) l.length c) (wr.drewN k) hI.c
      have hml0 := meth_less ⟨p, 0, none⟩ (.slice (some ⟨g, 0, none⟩) l.length c) wr hI.c
      have hms := fun k => meth_swap ⟨p, 0, none⟩ (.slice (some ⟨g, 0, none⟩) l.length c) (wr.drewN k) hI.c
      clear hI hT ho
      by_cases h2 : 2 * m + 2 < n
      · have hk2 : (2 * (m : Int) + 1 + 1) < (n : Int) := by omega
        by_cases h3 : lm.getD (2 * m + 2) 0 < lm.getD (2 * m + 1) 0
        · rw [childL_a h2 h3] at hu
          by_cases hc : lm.getD (2 * m + 2) 0 < lm.getD m 0
          · rw [if_pos hc] at hu
            have HU := Lib.hid hu
            clear hu
            have HL1 := Lib.hid (less_i HO.out hlm (2 * m + 2) (2 * m + 1) (2 * (m : Int) + 1 + 1) (2 * (m : Int) + 1) (by omega) (by omega) (by omega) (by omega) true (decide_eq_true h3))
            have HL2 := Lib.hid (fun k1 => less_i (own_drewN HO.out k1) hlm (2 * m + 2) m (2 * (m : Int) + 1 + 1) (m : Int) (by omega) rfl (by omega) (by omega) true (decide_eq_true hc))
            have HS := Lib.hid (fun k2 => swap_i (own_drewN HO.out k2) hlm m (2 * m + 2) (m : Int) (2 * (m : Int) + 1 + 1) rfl (by omega) (by omega) (by omega) (by omega))
            clear hc h3
            go_wp2_with fail
            refine HL1.out.mono ?_
            rintro e w1 ⟨rfl, k1, rfl⟩
            go_wp2_with fail
            refine (HL2.out k1).mono ?_
            rintro e w2 ⟨rfl, k2, rfl⟩
            go_wp2_with fail
            refine (HS.out (k1 + k2)).mono ?_
            rintro e w3 ⟨⟨u, rfl⟩, ho3, hg3⟩
            have HI3 := Lib.hid ((HI.out.drewN (k1 + k2)).grown hg3 (by rw [swapL_length, hlm]; exact ho3))
            have HT3 := Lib.hid (HT.out.trans ((HpTo.drewN wr p _ (k1 + k2)).trans (HpTo.of_grown hg3 rfl)))
            clear ho3 hg3 hms hml hml0
            go_wp2
            go_roundw
            case rel => exact ⟨2 * m + 2, swapL lm m (2 * m + 2), congrArg _ (by omega), by omega, by rw [swapL_length]; exact hlm, HI3.out, HT3.out, HU.out⟩
            case measure => simp [intOf]; omega
          · rw [if_neg hc] at hu
            subst hu
            have HL1 := Lib.hid (less_i HO.out hlm (2 * m + 2) (2 * m + 1) (2 * (m : Int) + 1 + 1) (2 * (m : Int) + 1) (by omega) (by omega) (by omega) (by omega) true (decide_eq_true h3))
            have HL2 := Lib.hid (fun k1 => less_i (own_drewN HO.out k1) hlm (2 * m + 2) m (2 * (m : Int) + 1 + 1) (m : Int) (by omega) rfl (by omega) (by omega) false (decide_eq_false hc))
            clear hc h3
            go_wp2_with fail
            refine HL1.out.mono ?_
            rintro e w1 ⟨rfl, k1, rfl⟩
            go_wp2_with fail
            refine (HL2.out k1).mono ?_
            rintro e w2 ⟨rfl, k2, rfl⟩
            clear hms hml hml0
            go_wp2
            go_ret
            exact ⟨⟨_, rfl⟩, (HI.out.drewN (k1 + k2)), HT.out.trans (HpTo.drewN wr p _ (k1 + k2))⟩
        · rw [childL_b (fun h => h3 h.2)] at hu
          by_cases hc : lm.getD (2 * m + 1) 0 < lm.getD m 0
          · rw [if_pos hc] at hu
            have HU := Lib.hid hu
            clear hu
            have HL1 := Lib.hid (less_i HO.out hlm (2 * m + 2) (2 * m + 1) (2 * (m : Int) + 1 + 1) (2 * (m : Int) + 1) (by omega) (by omega) (by omega) (by omega) false (decide_eq_false h3))
            have HL2 := Lib.hid (fun k1 => less_i (own_drewN HO.out k1) hlm (2 * m + 1) m (2 * (m : Int) + 1) (m : Int) (by omega) rfl (by omega) (by omega) true (decide_eq_true hc))
            have HS := Lib.hid (fun k2 => swap_i (own_drewN HO.out k2) hlm m (2 * m + 1) (m : Int) (2 * (m : Int) + 1) rfl (by omega) (by omega) (by omega) (by omega))
            clear hc h3
            go_wp2_with fail
            refine HL1.out.mono ?_
            rintro e w1 ⟨rfl, k1, rfl⟩
            go_wp2_with fail
            refine (HL2.out k1).mono ?_
            rintro e w2 ⟨rfl, k2, rfl⟩
            go_wp2_with fail
            refine (HS.out (k1 + k2)).mono ?_
            rintro e w3 ⟨⟨u, rfl⟩, ho3, hg3⟩
            have HI3 := Lib.hid ((HI.out.drewN (k1 + k2)).grown hg3 (by rw [swapL_length, hlm]; exact ho3))
            have HT3 := Lib.hid (HT.out.trans ((HpTo.drewN wr p _ (k1 + k2)).trans (HpTo.of_grown hg3 rfl)))
            clear ho3 hg3 hms hml hml0
            go_wp2
            go_roundw
            case rel => exact ⟨2 * m + 1, swapL lm m (2 * m + 1), congrArg _ (by omega), by omega, by rw [swapL_length]; exact hlm, HI3.out, HT3.out, HU.out⟩
            case measure => simp [intOf]; omega
          · rw [if_neg hc] at hu
            subst hu
            have HL1 := Lib.hid (less_i HO.out hlm (2 * m + 2) (2 * m + 1) (2 * (m : Int) + 1 + 1) (2 * (m : Int) + 1) (by omega) (by omega) (by omega) (by omega) false (decide_eq_false h3))
            have HL2 := Lib.hid (fun k1 => less_i (own_drewN HO.out k1) hlm (2 * m + 1) m (2 * (m : Int) + 1) (m : Int) (by omega) rfl (by omega) (by omega) false (decide_eq_false hc))
            clear hc h3
            go_wp2_with fail
            refine HL1.out.mono ?_
            rintro e w1 ⟨rfl, k1, rfl⟩
            go_wp2_with fail
            refine (HL2.out k1).mono ?_
            rintro e w2 ⟨rfl, k2, rfl⟩
            clear hms hml hml0
            go_wp2
            go_ret
            exact ⟨⟨_, rfl⟩, (HI.out.drewN (k1 + k2)), HT.out.trans (HpTo.drewN wr p _ (k1 + k2))⟩
      · have hk2 : ¬ (2 * (m : Int) + 1 + 1) < (n : Int) := by omega
        rw [childL_b (fun h => h2 h.1)] at hu
        by_cases hc : lm.getD (2 * m + 1) 0 < lm.getD m 0
        · rw [if_pos hc] at hu
          have HU := Lib.hid hu
          clear hu
          have HL2 := Lib.hid (less_i HO.out hlm (2 * m + 1) m (2 * (m : Int) + 1) (m : Int) (by omega) rfl (by omega) (by omega) true (decide_eq_true hc))
          have HS := Lib.hid (fun k2 => swap_i (own_drewN HO.out k2) hlm m (2 * m + 1) (m : Int) (2 * (m : Int) + 1) rfl (by omega) (by omega) (by omega) (by omega))
          clear hc
          go_wp2_with fail
          refine HL2.out.mono ?_
          rintro e w2 ⟨rfl, k2, rfl⟩
          go_wp2_with fail
          refine (HS.out k2).mono ?_
          rintro e w3 ⟨⟨u, rfl⟩, ho3, hg3⟩
          have HI3 := Lib.hid ((HI.out.drewN k2).grown hg3 (by rw [swapL_length, hlm]; exact ho3))
          have HT3 := Lib.hid (HT.out.trans ((HpTo.drewN wr p _ k2).trans (HpTo.of_grown hg3 rfl)))
          clear ho3 hg3 hms hml hml0
          go_wp2
          go_roundw
          case rel => exact ⟨2 * m + 1, swapL lm m (2 * m + 1), congrArg _ (by omega), by omega, by rw [swapL_length]; exact hlm, HI3.out, HT3.out, HU.out⟩
          case measure => simp [intOf]; omega
        · rw [if_neg hc] at hu
          subst hu
          have HL2 := Lib.hid (less_i HO.out hlm (2 * m + 1) m (2 * (m : Int) + 1) (m : Int) (by omega) rfl (by omega) (by omega) false (decide_eq_false hc))
          clear hc
          go_wp2_with fail
          refine HL2.out.mono ?_
          rintro e w2 ⟨rfl, k2, rfl⟩
          clear hms hml hml0
          go_wp2
          go_ret
          exact ⟨⟨_, rfl⟩, (HI.out.drewN k2), HT.out.trans (HpTo.drewN wr p _ k2)⟩
    · rw [dif_neg h1] at hu
      subst hu
      have hk1 : ¬ (2 * (m : Int) + 1) < (n : Int) := by omega
      clear hI hT
      go_wp2
      go_ret
      exact ⟨⟨_, rfl⟩, HI.out, HT.out⟩
end Go.Proofs.YtgpicmiaanapkaaGreat
/- heap.Push, heap.Pop. -/
namespace Go.Proofs.YtgpicmiaanapkaaGreat
open Go.RowKit
set_option linter.unusedVariables false
theorem swapL_self (l : List Nat) (i : Nat) : swapL l i i = l := by
  unfold swapL
  by_cases h : i < l.length
  · have e : l.getD i 0 = l[i] := by rw [List.getD_eq_getElem?_getD, List.getElem?_eq_getElem h]; rfl
    rw [e, List.set_set, List.set_getElem_self]
  · rw [List.set_eq_of_length_le (by simp; omega), List.set_eq_of_length_le (by omega)]
set_option maxRecDepth 100000 in
set_option maxHeartbeats 2000000 in
/-- A swap of an element with itself. -/
theorem swap_same {w : World} {B g c : Nat} {l : List Nat} (h : w.ownsRow B 3 1 (.slice (some ⟨g, 0, none⟩) l.length c) l.length (encN .i64 l)) (i : Nat) (hi : i < l.length) :
    Calls Tryz.prog 599 #[.slice (some ⟨g, 0, none⟩) l.length c, .int .i64 i, .int .i64 i] w fun e w' => (∃ v, e = .returned v) ∧ w'.ownsRow B 3 1 (.slice (some ⟨g, 0, none⟩) l.length c) l.length (encN .i64 l) ∧ w.grownBy w' (some g) := by
  have h1 := own_num h hi
  have f1 := h.frozenAt i
  have H := Lib.hid h
  have hii : (i : Int) < (l.length : Int) := by omega
  have hi0 : (0 : Int) ≤ (i : Int) := by omega
  obtain ⟨x, hx⟩ : ∃ x, x = l.getD i 0 := ⟨_, rfl⟩
  rw [← hx] at h1
  have HX := Lib.hid hx
  clear h hx
  go_enter Tryz.func599, Tryz.ntmps599
  go_wp2_with fail
  go_region
  go_end0
  have s1 := H.out.stored i (.int .i64 x)
  have s2 := s1.1.stored i (.int .i64 x)
  refine ⟨⟨_, rfl⟩, ?_, grownBy_trans (grownBy_trans s1.2 s2.2 (fun q e => .inl e)) (grown_drewN _ 1 (some g)) (fun q e => .inl e)⟩
  have h := own_drewN s2.1 1
  rw [encN_set, encN_set] at h
  have e : (l.set i x).set i x = l := by
    have := swapL_self l i
    unfold swapL at this
    rw [← HX.out] at this; exact this
  rw [e] at h
  exact h
theorem own_takeN {W : World} {B e g n c : Nat} {xs : List Value} (h : W.ownsRow B e 1 (.slice (some ⟨g, 0, none⟩) (n + 1) c) (n + 1) xs) : W.ownsRow B e 1 (.slice (some ⟨g, 0, none⟩) n c) n (xs.take n) := by
  obtain ⟨hl, h⟩ := h
  rcases h with ⟨hv, _⟩ | ⟨g', c', cur, hv, hb, hg, hn, hm, hcs, ht⟩
  · cases hv
  · cases hv
    refine ⟨by rw [List.length_take, hl]; omega, .inr ⟨g, c, cur, rfl, hb, hg, by omega, hm, hcs, ?_⟩⟩
    rw [← ht, List.take_take]
    congr 1
    omega
theorem encN_take (k : IntKind) (l : List Nat) (n : Nat) : (encN k l).take n = encN k (l.take n) := by simp [encN, List.map_take]
set_option maxRecDepth 100000 in
set_option maxHeartbeats 4000000 in
theorem pop_h {w : World} {B p : Nat} {v : Value} {l : List Nat} (h : HpAt w B p v l) (h0 : 0 < l.length) (hl : l.length ≤ 20000) :
    Calls Tryz.prog 436 #[.iface 566 (.pointer (some ⟨p, 0, none⟩))] w fun e w' => e = .returned (.iface 3 (.int .i64 (l.getD 0 0 : Nat))) ∧ ∃ v', HpAt w' B p v' (popL l) ∧ HpTo w w' p v v' := by
  obtain ⟨g, c, rfl, -, -⟩ := own_start h.o (by omega)
  obtain ⟨n, hn⟩ : ∃ n, l.length = n + 1 := ⟨l.length - 1, by omega⟩
  have H := Lib.hid h
  have hml := meth_len ⟨p, 0, none⟩ _ w h.c
  have hms := meth_swap ⟨p, 0, none⟩ _ w h.c
  have hmp := fun W => meth_pop ⟨p, 0, none⟩ W
  have hsw : Calls Tryz.prog 599 #[.slice (some ⟨g, 0, none⟩) l.length c, .int .i64 0, .int .i64 n] w fun e w' => (∃ v, e = .returned v) ∧ w'.ownsRow B 3 1 (.slice (some ⟨g, 0, none⟩) l.length c) l.length (encN .i64 (swapL l 0 n)) ∧ w.grownBy w' (some g) := by
    by_cases hz : n = 0
    · subst hz
      have := swap_same h.o 0 (by omega)
      rw [swapL_self]; exact this
    · exact swap_h h.o 0 n (by omega) (by omega) (by omega)
  obtain ⟨x, hx⟩ : ∃ x, x = l.getD 0 0 := ⟨_, rfl⟩
  rw [← hx]
  have hpl : popL l = (downL (swapL l 0 n) 0 n).take n := by unfold popL; rw [hn]; rfl
  have hla := popL_last h0
  rw [← hx] at hla
  clear hx
  have hD : (downL (swapL l 0 n) 0 n).length = n + 1 := by rw [downL_length, swapL_length, hn]
  rw [hn] at hml hms hsw hla
  simp only [Nat.add_sub_cancel] at hla
  have HSW := Lib.hid hsw
  have hnn : (n : Int) ≤ 20000 := by omega
  have Hn := Lib.hid hn
  have HPL := Lib.hid hpl
  have HLA := Lib.hid hla
  have HD := Lib.hid hD
  clear h hsw hn hpl hla hD
  go_enter Tryz.func436, Tryz.ntmps436
  go_wp2_with (go_at_call 435; refine (len_any _ _ _ _).mono ?_; rintro e w' ⟨rfl, rfl⟩)
  refine HSW.out.mono ?_
  rintro e w1 ⟨⟨u, rfl⟩, ho, hg⟩
  have h1 : HpAt w1 B p (.slice (some ⟨g, 0, none⟩) (n + 1) c) (swapL l 0 n) := by
    refine HpAt.grown (l := l) (by have := H.out; rwa [Hn.out] at this) hg ?_
    rw [swapL_length, Hn.out]
    exact ho
  have t1 : HpTo w w1 p (.slice (some ⟨g, 0, none⟩) (n + 1) c) (.slice (some ⟨g, 0, none⟩) (n + 1) c) := HpTo.of_grown hg rfl
  have H1 := Lib.hid h1
  have T1 := Lib.hid t1
  clear ho hg h1 t1 hms hml
  go_wp2_with fail
  go_at_call 485
  refine (down_h (i := 0) H1.out n (by rw [swapL_length, Hn.out]; omega) (by rw [swapL_length, Hn.out]; omega) (by omega) (by rw [swapL_length]; exact hl)).mono ?_
  rintro e w2 ⟨⟨u, rfl⟩, h2, t2⟩
  have HP := popM_h (l := downL (swapL l 0 n) 0 n) (c := c) (g := g) (p := p) (B := B) (w := w2) (by rw [HD.out]; exact h2) (by rw [HD.out]; omega)
  rw [HD.out] at HP
  simp only [Nat.add_sub_cancel] at HP
  rw [HLA.out] at HP
  have H2 := Lib.hid h2
  have T2 := Lib.hid t2
  have HPP := Lib.hid HP
  clear h2 t2 HP
  go_wp2_with fail
  refine HPP.out.mono ?_
  rintro e w3 ⟨rfl, k, rfl⟩
  go_wp2
  go_ret
  refine ⟨rfl, _, ⟨World.cell?_setCell_same' _ _ _ (by rw [show (w2.drewN k).cell? ⟨p, 0, none⟩ = _ from H2.out.c]; rfl), by rw [World.frozen?_setCell]; exact H2.out.f, ?_, H2.out.ne, H2.out.hp⟩, ?_⟩
  · have ho := H2.out.o
    rw [HD.out] at ho
    have h5 := own_takeN (own_drewN ho k)
    rw [encN_take, ← HPL.out] at h5
    have e5 : (popL l).length = n := by rw [popL_length, Hn.out]; rfl
    rw [e5]
    exact ownsRow_setCell_other (a := ⟨p, 0, none⟩) h5 (show (some g : Option Nat) ≠ some p from H2.out.ne) _
  · rw [Hn.out]
    exact T1.out.trans (T2.out.trans ((HpTo.drewN _ _ _ k).trans (HpTo.set _ _ _ _ _ (fun g h => .inl h))))
set_option maxRecDepth 100000 in
set_option maxHeartbeats 4000000 in
theorem push_h {w : World} {B p : Nat} {v : Value} {l : List Nat} (h : HpAt w B p v l) (x : Nat) (hl : l.length ≤ 19000) :
    Calls Tryz.prog 439 #[.iface 566 (.pointer (some ⟨p, 0, none⟩)), .iface 3 (.int .i64 x)] w fun e w' => (∃ u, e = .returned u) ∧ ∃ v', HpAt w' B p v' (pushL l x) ∧ HpTo w w' p v v' := by
  have H := Lib.hid h
  have hmp := meth_push ⟨p, 0, none⟩ w
  have HPU := Lib.hid (pushM_h h x (by omega))
  have hnn : (l.length : Int) ≤ 20000 := by omega
  clear h
  go_enter Tryz.func439, Tryz.ntmps439
  go_wp2_with fail
  refine HPU.out.mono ?_
  rintro e w1 ⟨⟨u, rfl⟩, v1, h1, t1⟩
  obtain ⟨g, c, hv1, -, -⟩ := own_start h1.o (by simp)
  rw [List.length_append, List.length_singleton] at hv1
  subst hv1
  have hml := meth_len ⟨p, 0, none⟩ _ w1 h1.c
  have H1 := Lib.hid h1
  have T1 := Lib.hid t1
  clear h1 t1
  go_wp2_with (go_at_call 435; refine (len_any _ _ _ _).mono ?_; rintro e w' ⟨rfl, rfl⟩)
  refine (up_h H1.out l.length (by simp) (by simp; omega)).mono ?_
  rintro e w2 ⟨⟨u, rfl⟩, h2, t2⟩
  have H2 := Lib.hid h2
  have T2 := Lib.hid t2
  clear h2 t2
  go_wp2
  go_end0
  exact ⟨⟨_, rfl⟩, _, H2.out, T1.out.trans T2.out⟩
end Go.Proofs.YtgpicmiaanapkaaGreat
/- slices.Repeat of a row of one. -/
namespace Go.Proofs.YtgpicmiaanapkaaGreat
open Go.RowKit
set_option linter.unusedVariables false
set_option maxRecDepth 100000 in
set_option maxHeartbeats 2000000 in
theorem mul64_one (n : Nat) (w : World) (hn : n < 4294967296) : Calls Tryz.prog 484 #[.int .u64 1, .int .u64 n] w fun e w' => e = .returned (.tuple #[.int .u64 0, .int .u64 n]) ∧ w = w' := by
  have b1 : bits BinOp.and IntKind.u64 1 4294967295 = 1 := by decide +kernel
  have b0 : bits BinOp.and IntKind.u64 0 4294967295 = 0 := by decide +kernel
  have bn : bits BinOp.and IntKind.u64 (n : Int) 4294967295 = (n : Int) := by
    have h := u64_and_nat n 4294967295 (by omega) (by omega)
    have e : n &&& 4294967295 = n := by
      have : (4294967295 : Nat) = 2 ^ 32 - 1 := by decide
      rw [this, Nat.and_two_pow_sub_one_eq_mod]
      exact Nat.mod_eq_of_lt (by omega)
    rw [e] at h
    exact h
  have w0 : IntKind.u64.wrap 0 = 0 := by decide +kernel
  have wn : IntKind.u64.wrap (n : Int) = (n : Int) := IntWalk.u64_in _ (by omega)
  have d0 : (n : Int) / 4294967296 = 0 := by omega
  go_enter Tryz.func484, Tryz.ntmps484
  go_wp2
  go_ret2
  simp
set_option maxRecDepth 100000 in
set_option maxHeartbeats 2000000 in
theorem mul_one_any (n : Nat) (w : World) (hn : n < 4294967296) : Calls Tryz.prog 433 #[.int .u64 1, .int .u64 n] w fun e w' => e = .returned (.tuple #[.int .u64 0, .int .u64 n]) ∧ w = w' := by
  have H := mul64_one n w hn
  have HH := Lib.hid H
  clear H
  go_enter Tryz.func433, Tryz.ntmps433
  go_wp2_with fail
  refine HH.out.mono ?_
  rintro e w' ⟨rfl, rfl⟩
  go_wp2
  go_ret2
  exact ⟨rfl, rfl⟩
def negs (m n : Nat) : List Value := List.replicate m (.int .i64 (-1)) ++ List.replicate (n - m) (.int .i64 0)
theorem negs_length {m n : Nat} (h : m ≤ n) : (negs m n).length = n := by simp [negs]; omega
theorem negs_splice {m k n : Nat} (h : m + k ≤ n) : splice (negs m n) m (List.replicate k (.int .i64 (-1))) = negs (m + k) n := by
  unfold splice negs
  rw [List.take_append_of_le_length (by simp), List.take_of_length_le (by simp), List.length_replicate, List.drop_append, List.drop_of_length_le (by simp), List.length_replicate, List.drop_replicate, List.nil_append, ← List.append_assoc, List.replicate_append_replicate]
  congr 2; omega
set_option maxRecDepth 100000 in
set_option maxHeartbeats 1000000 in
theorem repeat_any {w : World} {s : Nat} (h : w.cell? ⟨s, 0, none⟩ = some (.int .i64 (-1))) (n : Nat) (hn : n ≤ 16384) :
    Calls Tryz.prog 370 #[.slice (some ⟨s, 0, none⟩) 1 1, .int .i64 n] w fun e w' => ∃ v, e = .returned v ∧ w'.ownsRow w.heap.size 3 1 v n (List.replicate n (.int .i64 (-1))) ∧ Below w.heap.size w w' := by
  have wu : IntKind.u64.wrap (n : Int) = (n : Int) := IntWalk.u64_in _ (by omega)
  have wi : IntKind.i64.wrap (n : Int) = (n : Int) := IntWalk.i64_in _ (by omega)
  have hm := mul_one_any n w (by omega)
  have HM := Lib.hid hm
  have n1 : ¬ (n : Int) < 0 := by omega
  have n2 : ¬ (9223372036854775807 : Int) < (n : Int) := by omega
  clear hm
  go_enter Tryz.func370, Tryz.ntmps370
  go_wp2_with fail
  refine HM.out.mono ?_
  rintro e w' ⟨rfl, rfl⟩
  obtain ⟨i0, hi, hz0, hz1, hz2⟩ := info_parts info3'
  have hmk := fun w => run_make (P := Tryz.prog) w 227 3 i0 (.int .i64 0) Tryz.underlying227 hi hz0 .i64 .i64 n n (by omega) (by omega) (by rw [hz2]; omega) (by omega)
  simp only [hz1, Nat.mul_one, Int.toNat_natCast] at hmk
  have hsz3 : (Tryz.prog.info? 3).map (·.size) = some 1 := by kernel_rfl
  have hmc : madeCells (Value.int IntKind.i64 0).cells n = (negs 0 n).toArray := by
    unfold madeCells negs
    apply Array.ext
    · simp
    · intro i h1 h2
      simp at h1 h2 ⊢
      simp [Value.cells, Nat.mod_one]
  simp only [hmc] at hmk
  have hs := World.block_lt_of_cell? _ _ h
  obtain ⟨N0, hN0⟩ : ∃ N0, N0 = negs 0 n := ⟨_, rfl⟩
  rw [← hN0] at hmk
  have hlen : N0.length = n := by rw [hN0, negs_length (by omega)]
  obtain ⟨cs, hcs⟩ : ∃ cs : List Value, cs = List.replicate (min 1 n) (.int .i64 (-1)) := ⟨_, rfl⟩
  have hcl : cs.length = min 1 n := by rw [hcs]; simp
  have hg0 := heap_alloc_new w (.cells N0.toArray 3)
  have hb0 := Bel.new w (.cells N0.toArray 3)
  have hsrc : ∀ j v, cs[j]? = some v → (w.alloc (.cells N0.toArray 3)).cell? ((⟨s, 0, none⟩ : Addr).add j) = some v := by
    intro j v hj
    rw [hcs] at hj
    have hj' := (List.getElem?_eq_some_iff.1 hj)
    obtain ⟨hj1, hj2⟩ := hj'
    simp at hj1 hj2
    obtain rfl : j = 0 := by omega
    rw [← hj2]
    exact (hb0.cell (p := ⟨s, 0, none⟩) hs).trans h
  have h1c : ∀ v ∈ cs, v.oneCell' = true := by
    intro v hv
    rw [hcs] at hv
    rw [(List.mem_replicate.1 hv).2]; rfl
  have HN0 := Lib.hid hN0
  have HCS := Lib.hid hcs
  have hmn : min 1 n ≤ n := Nat.min_le_right _ _
  clear hmc hN0 hcs h
  go_wp2_with (((with_reducible refine wpList_copy_splice (o := ⟨some 33, .call { callee := .builtin .copy, args := #[.tmp 31, .tmp 32], argTypes := #[227, 227] }, _, _, _, none⟩) rfl (.tmp 31) (.tmp 32) 227 227 rfl 3 Tryz.underlying227 hsz3 (some ⟨w.heap.size, 0, none⟩) (some ⟨s, 0, none⟩) n n 1 1 ?_ ?_ w.heap.size 0 N0 3 hg0 cs ?_ ?_ ?_ h1c w.heap.size w hb0 (Nat.le_refl _) ?_); rfl; rfl; exact hcl; exact fun _ => ⟨rfl, _, rfl, hsrc⟩; (rw [hcl, hlen]; omega); intro w1 hg1 hb1))
  have hlo : min 1 n = 0 → n = 0 := by omega
  have hhi : min 1 n ≤ n := hmn
  have hst : (Exists fun (_ : w1.heap[w.heap.size]? = some (.cells (negs (min 1 n) n).toArray 3 (0, 0))) => True) := by
    refine ⟨?_, trivial⟩
    have := hg1.out
    rw [HN0.out, HCS.out, negs_splice (by omega), Nat.zero_add] at this
    exact this
  have HST := Lib.hid hst.1
  have HB := Lib.hid hb1
  clear hst hg1 hb1 hsrc h1c hg0 hb0 hmk hcl hlen
  obtain ⟨g, hg⟩ : ∃ g, g = w.heap.size := ⟨_, rfl⟩
  have HST' := HST
  rw [← hg] at HST' ⊢
  have HG := Lib.hid hg
  clear hg HST
  generalize min 1 n = m0 at *
  go_loopw [8] (fun i wr => ∃ m : Nat, i = .int .i64 m ∧ m ≤ n ∧ (m = 0 → n = 0) ∧ wr.heap[g]? = some (.cells (negs m n).toArray 3 (0, 0)) ∧ Below g w wr) (fun i _ => n - (intOf i).toNat)
  case atStart => exact ⟨m0, rfl, hhi, hlo, HST'.out, by rw [HG.out]; exact HB.out⟩
  case round =>
    obtain ⟨m, rfl, hm1, hm2, hg1, hb1⟩ := hrel
    by_cases hc : m < n
    · obtain ⟨k, hk⟩ : ∃ k, k = min m (n - m) := ⟨_, rfl⟩
      have hk1 : m + k ≤ n := by omega
      have hk2 : 0 < k := by omega
      have hkn : k = Nat.min m (n - m) := hk
      have hcn : (m : Int) < (n : Int) := by omega
      have hcn1 : (m : Int) ≤ (n : Int) := by omega
      have hm0 : (0 : Int) ≤ (m : Int) := by omega
      obtain ⟨L, hL⟩ : ∃ L, L = negs m n := ⟨_, rfl⟩
      rw [← hL] at hg1
      have hll : L.length = n := by rw [hL, negs_length (by omega)]
      obtain ⟨cs, hcs⟩ : ∃ cs : List Value, cs = List.replicate k (.int .i64 (-1)) := ⟨_, rfl⟩
      have hcl : cs.length = k := by rw [hcs]; simp
      have hsrc : ∀ j v, cs[j]? = some v → (wr).cell? ((⟨g, 0, none⟩ : Addr).add j) = some v := by
        intro j v hj
        rw [hcs] at hj
        obtain ⟨hj1, hj2⟩ := (List.getElem?_eq_some_iff.1 hj)
        simp at hj1 hj2
        rw [← hj2]
        have : (⟨g, 0, none⟩ : Addr).add j = ⟨g, j, none⟩ := by unfold Addr.add; simp [eq_comm]
        rw [this]
        simp only [World.cell?, hg1]
        have h6 : L[j]? = some (.int .i64 (-1)) := by
          rw [hL]; unfold negs
          rw [List.getElem?_append_left (by simp; omega), List.getElem?_replicate, if_pos (by omega)]
        simp [h6]
      have h1c : ∀ v ∈ cs, v.oneCell' = true := by
        intro v hv
        rw [hcs] at hv
        rw [(List.mem_replicate.1 hv).2]; rfl
      have hfin : splice L m cs = negs (m + k) n := by rw [hL, hcs, negs_splice hk1]
      have HFIN := Lib.hid hfin
      have HKN := Lib.hid hkn
      have hnm : ¬ n = m := by omega
      have hgd : wr.drew.heap[g]? = some (.cells L.toArray 3 (0, 0)) := hg1
      have hbd : Below g w wr.drew := hb1.trans ⟨rfl, rfl, rfl, Nat.le_refl _, fun _ _ => rfl⟩
      have hsrcd : ∀ j v, cs[j]? = some v → (wr.drew).cell? ((⟨g, 0, none⟩ : Addr).add j) = some v := hsrc
      clear hk hL hcs hkn hfin hsrc hg1 hb1
      go_wp2_with fail
      go_region_law (refine step_copy_splice rfl (.tmp 41) (.tmp 44) 227 227 rfl 3 Tryz.underlying227 hsz3 (some ⟨g, m, none⟩) (some ⟨g, 0, none⟩) (n - m) (n - m) m n (by simp [Act.eval, Act.put]) (by simp [Act.eval, Act.put]) g m L 3 hgd cs (hcl.trans HKN.out) (fun _ => ⟨rfl, _, rfl, hsrcd⟩) (by rw [hcl, hll]; exact hk1) h1c g w hbd (Nat.le_refl _) ?_; intro w4 hg4 hb4)
      have hw : IntKind.i64.wrap ((m : Int) + (k : Int)) = ((m + k : Nat) : Int) := by rw [show (m : Int) + (k : Int) = ((m + k : Nat) : Int) from by omega]; exact IntWalk.i64_in _ (by omega)
      rw [hw]
      have h4 := hg4.out
      rw [HFIN.out] at h4
      have H4 := Lib.hid h4
      clear h4 hg4
      simp [Act.put]
      go_wp2
      go_roundw
      case rel => exact ⟨m + k, rfl, hk1, fun h => absurd h (by omega), H4.out, hb4⟩
      case measure => simp [intOf]; omega
    · obtain rfl : m = n := by omega
      have H1 := Lib.hid hg1
      have HB1 := Lib.hid hb1
      clear hg1 hb1
      go_wp2
      go_ret
      refine ⟨_, rfl, ⟨by simp, .inr ⟨g, m, _, rfl, by rw [HG.out]; exact Nat.le_refl _, H1.out, Nat.le_refl _, by unfold maxLen; omega, by simp [negs_length], ?_⟩⟩, by have := HB1.out; rwa [HG.out] at this⟩
      simp [negs]
end Go.Proofs.YtgpicmiaanapkaaGreat
/- Control stays in its procedure: plain laws. -/
namespace Go.Proofs.YtgpicmiaanapkaaGreat
open Go.RowKit
theorem encRes_all {l : List (Nat × Nat)} (h : (encRes l).2.2 = 0) : ∀ k, k < l.length → errAt l k = 0 := by
  have h16 : ¬ 16384 < l.length := fun e => by have := encRes_short h; omega
  intro k
  induction k using Nat.strongRecOn with
  | ind k ih =>
    intro hk
    by_cases he : errAt l k = 0
    · exact he
    · have := encRes_bad h16 hk he (fun j hj => ih j hj (by omega))
      rw [this] at h
      exact absurd h he
theorem endsK_not {K : Nat} (h3 : K ≠ 3) (h4 : K ≠ 4) (h8 : K ≠ 8) : endsK K = false := by simp [endsK, h3, h4, h8]
theorem isOp_ok {o a : Nat} (h : checkN o a = 0) : isOp o = true := by
  unfold checkN at h
  cases hi : isOp o
  · rw [hi] at h; simp at h
  · rfl
section
variable {code : List (Nat × Nat)} {js ats : List Nat} (h : FindOk code js ats)
include h
theorem FindOk.tl : Tiles code code.length (psTo code code.length) (ofTo code code.length) := tiles h.h3.2 _
theorem FindOk.tg : Tgts (ofTo code code.length) js js.length (aimTo (ofTo code code.length) js (psTo code code.length).length js.length) := tgts (fun x hx => h.tl.lt x (by rw [← h.tl.ol]; exact hx)) _ h.hg
theorem FindOk.op (i : Nat) (hi : i < code.length) : isOp (code.getD i (0, 0)).1 = true := isOp_ok (encRes_all h.he i hi)
theorem FindOk.in_proc {r x : Nat} (hr : r < (psTo code code.length).length) (hx : insideN ((psTo code code.length).getD r (0, 0, 0)) x = true) :
    x < code.length ∧ (ofTo code code.length).getD x 0 = r ∧ beginsN (psTo code code.length) (ofTo code code.length) x = false := by
  unfold insideN at hx
  rw [Bool.and_eq_true, decide_eq_true_eq, decide_eq_true_eq] at hx
  have hb := (h.tl.bd r hr).2
  have ho := h.tl.mid r hr x (by omega) hx.2
  refine ⟨by omega, ho, ?_⟩
  unfold beginsN
  rw [ho]
  have : ((psTo code code.length).getD r (0, 0, 0)).1 ≠ x := by omega
  rw [beq_eq_false_iff_ne.2 this, Bool.and_false]
/-- A jump's target, of a goto or a branch. -/
theorem FindOk.target (i : Nat) (hi : i < code.length) (hk : kindOf (code.getD i (0, 0)).1 = 3 ∨ kindOf (code.getD i (0, 0)).1 = 2) :
    (code.getD i (0, 0)).2 < code.length ∧ (ofTo code code.length).getD (code.getD i (0, 0)).2 0 = (ofTo code code.length).getD i 0 ∧ beginsN (psTo code code.length) (ofTo code code.length) (code.getD i (0, 0)).2 = false := by
  have hf := h.hall i hi
  refine h.in_proc (h.tl.lt i hi) ?_
  unfold faultAt faultN faultK at hf
  cases hx : insideN ((psTo code code.length).getD ((ofTo code code.length).getD i 0) (0, 0, 0)) (code.getD i (0, 0)).2
  · rw [hx] at hf
    rw [if_neg (by omega), if_neg (by omega), if_pos ⟨hk, rfl⟩] at hf
    cases hf
  · rfl
/-- What goes on goes on in its procedure. -/
theorem FindOk.goes (i : Nat) (hi : i < code.length) (hk : kindOf (code.getD i (0, 0)).1 ≠ 3 ∧ kindOf (code.getD i (0, 0)).1 ≠ 4 ∧ kindOf (code.getD i (0, 0)).1 ≠ 7 ∧ kindOf (code.getD i (0, 0)).1 ≠ 8) :
    i + 1 < code.length ∧ (ofTo code code.length).getD (i + 1) 0 = (ofTo code code.length).getD i 0 := by
  have hf := h.hall i hi
  have hr := h.tl.lt i hi
  have hl := h.tl.lo i hi
  have hb := (h.tl.bd _ hr).2
  have hne : i + 1 ≠ ((psTo code code.length).getD ((ofTo code code.length).getD i 0) (0, 0, 0)).2.1 := by
    intro he
    unfold faultAt faultN faultK at hf
    split at hf
    · cases hf
    · rw [if_neg hk.2.2.1] at hf
      split at hf
      · cases hf
      · rw [if_pos ⟨he, endsK_not hk.1 hk.2.1 hk.2.2.2⟩] at hf
        cases hf
  have := h.tl.mid _ hr (i + 1) (by omega) (by omega)
  exact ⟨by omega, this⟩
theorem FindOk.legal {x y : Nat} (hy : y ∈ (aimTo (ofTo code code.length) js (psTo code code.length).length js.length).getD ((ofTo code code.length).getD x 0) []) :
    y < code.length ∧ (ofTo code code.length).getD y 0 = (ofTo code code.length).getD x 0 ∧ beginsN (psTo code code.length) (ofTo code code.length) y = false := by
  obtain ⟨i, hi, he, ho⟩ := h.tg.of_mem _ _ hy
  have := h.hg i hi
  simp only [aimOk, Bool.and_eq_true, decide_eq_true_eq] at this
  obtain ⟨-, h1, h2⟩ := this
  rw [← he] at h1 h2
  have hl := h.in_proc (h.tl.lt y (by rw [← h.tl.ol]; exact h1)) h2
  exact ⟨hl.1, ho, hl.2.2⟩
theorem FindOk.jumps (i : Nat) (hi : i < js.length) : js.getD i 0 < code.length ∧ js.getD i 0 ∈ (aimTo (ofTo code code.length) js (psTo code code.length).length js.length).getD ((ofTo code code.length).getD (js.getD i 0) 0) [] ∧
    beginsN (psTo code code.length) (ofTo code code.length) (js.getD i 0) = false := by
  have hm := h.tg.mem i hi
  have := h.hg i hi
  simp only [aimOk, Bool.and_eq_true, decide_eq_true_eq] at this
  have hx : js.getD i 0 < code.length := by rw [← h.tl.ol]; exact this.2.1
  exact ⟨hx, hm, (h.legal hm).2.2⟩
end
/-- What comes next lies in the code. -/
theorem FindOk.next_lt {code : List (Nat × Nat)} {js : List Nat} (h : FindOk code js []) {i t : Nat} (hi : i < code.length) (ht : t ∈ nextN code js i) : t < code.length := by
  unfold nextN opAt argAt at ht
  split at ht
  · rename_i hk
    have := (h.goes i hi (by omega)).1
    rw [List.mem_singleton.1 ht]; exact this
  · split at ht
    · rename_i hk
      have h1 := (h.goes i hi (by omega)).1
      have h2 := (h.target i hi (.inr hk)).1
      split at ht
      · rw [List.mem_singleton.1 ht]; exact h1
      · simp only [List.mem_cons, List.not_mem_nil, or_false] at ht
        rcases ht with rfl | rfl
        · exact Nat.lt_of_le_of_lt (Nat.min_le_left _ _) h1
        · exact Nat.max_lt.2 ⟨h1, h2⟩
    · split at ht
      · rename_i hk
        rw [List.mem_singleton.1 ht]; exact (h.target i hi (.inl hk)).1
      · split at ht
        · unfold tgtsAt at ht
          split at ht
          · rename_i hr
            have hl := h.tl.lt i hi
            have e : (ofN (ofTo code code.length) i).toNat = (ofTo code code.length).getD i 0 := by
              unfold ofN at hr ⊢
              split
              · simp
              · rename_i hq
                rw [if_neg hq] at hr
                omega
            rw [e] at ht
            exact (h.legal ht).1
          · cases ht
        · cases ht
end Go.Proofs.YtgpicmiaanapkaaGreat
/- The longest piece: what it holds; where blocks begin: plain. -/
namespace Go.Proofs.YtgpicmiaanapkaaGreat
set_option linter.unusedVariables false
/-- May an operation stand within a piece? Is it a comparison? -/
def inRow (o : Nat) : Bool := o == 1 || o == 8 || o == 10 || o == 11 || decide (36 ≤ o)
def isBr (o : Nat) : Bool := decide (13 ≤ o) && decide (o ≤ 28)
theorem take_code (s : LS) (o a : Nat) : ((s.take o a).1 = 0 → inRow o = true) ∧ (2 ≤ (s.take o a).1 → isBr o = true) := by
  have hb : ∀ p : Bool × LS, (LS.both p).1 ≤ 1 := fun p => by unfold LS.both; split <;> simp
  have h2 : ∀ br, (br = false → (s.two o br).1 ≤ 1) ∧ (br = true → (s.two o br).1 ≠ 0) := fun br => by
    unfold LS.two
    constructor
    · intro e
      subst e
      split
      · simp
      · rw [if_neg (by simp)]; split <;> simp
    · intro e
      subst e
      split
      · simp
      · rw [if_pos rfl]; split <;> simp
  unfold LS.take
  split
  · simp
  split
  · rename_i hk
    refine ⟨fun e => absurd e ((h2 true).2 rfl), fun _ => ?_⟩
    have := kind_branch hk
    unfold isBr
    simp; omega
  split
  · rename_i h1
    subst h1
    exact ⟨fun _ => rfl, fun h => by simp at h⟩
  split
  · rename_i h8
    subst h8
    exact ⟨fun _ => rfl, fun h => by have := hb (s.push a); omega⟩
  split
  · rename_i h1
    refine ⟨fun _ => ?_, fun h => by have := hb (s.one o); omega⟩
    simp only [isOne, Bool.or_eq_true, Bool.and_eq_true, beq_iff_eq, decide_eq_true_eq] at h1
    simp only [inRow, Bool.or_eq_true, beq_iff_eq, decide_eq_true_eq]
    omega
  split
  · rename_i h1
    refine ⟨fun _ => ?_, fun h => by have := (h2 false).1 rfl; omega⟩
    simp only [inRow, Bool.or_eq_true, beq_iff_eq, decide_eq_true_eq]
    omega
  · simp
/-- What a piece of a stretch is like: how long, its kind, what stands in it. -/
def GoodB (st : List (Nat × Nat)) (B : Nat × Nat × Nat) : Prop :=
  (B.1 = 1 ∧ B.2.1 = 1) ∨ (2 ≤ B.1 ∧ B.1 ≤ st.length ∧ 2 ≤ B.2.1 ∧ B.2.1 ≤ 4 ∧ ∀ j, j < B.1 → inRow (st.getD j (0, 0)).1 = true ∨ (isBr (st.getD j (0, 0)).1 = true ∧ j + 1 = B.1))
theorem goL_ok (st : List (Nat × Nat)) : ∀ (r : List (Nat × Nat)) (k : Nat) (s : LS) (best : Nat × Nat × Nat), r = st.drop k → (∀ j, j < k → inRow (st.getD j (0, 0)).1 = true) → GoodB st best → GoodB st (goL r k s best)
  | [], k, s, best, _, _, hg => hg
  | i :: r, k, s, best, hr, hj, hg => by
    have hk : k < st.length := by
      rcases Nat.lt_or_ge k st.length with h | h
      · exact h
      · rw [List.drop_of_length_le h] at hr; cases hr
    have hd := List.drop_eq_getElem_cons hk
    rw [← hr] at hd
    injection hd with hi hr2
    have hgi : st.getD k (0, 0) = i := by rw [List.getD_eq_getElem?_getD, List.getElem?_eq_getElem hk, hi]; rfl
    obtain ⟨t0, t2⟩ := take_code s i.1 i.2
    rw [goL_cons]
    split
    · exact hg
    rename_i c1
    split
    · rename_i c0
      split
      · rename_i hk0
        have hbr := t2 (by omega)
        have hall : ∀ j, j < k + 1 → inRow (st.getD j (0, 0)).1 = true ∨ (isBr (st.getD j (0, 0)).1 = true ∧ j + 1 = k + 1) := fun j hjk => by
          by_cases e : j = k
          · subst e; rw [hgi]; exact .inr ⟨hbr, rfl⟩
          · exact .inl (hj j (by omega))
        split
        · exact .inr ⟨by simp only; omega, by simp only; omega, by simp, by simp, hall⟩
        · exact .inr ⟨by simp only; omega, by simp only; omega, by simp, by simp, hall⟩
      · exact hg
    · rename_i c0
      have h0 : (s.take i.1 i.2).1 = 0 := by simpa using c0
      have hj2 : ∀ j, j < k + 1 → inRow (st.getD j (0, 0)).1 = true := fun j hjk => by
        by_cases e : j = k
        · subst e; rw [hgi]; exact t0 h0
        · exact hj j (by omega)
      refine goL_ok st r (k + 1) _ _ hr2 hj2 ?_
      split
      · rename_i hk0
        exact .inr ⟨by simp only; omega, by simp only; omega, by simp, by simp, fun j hjk => .inl (hj2 j hjk)⟩
      · split
        · rename_i hk0
          exact .inr ⟨by simp only; omega, by simp only; omega, by simp, by simp, fun j hjk => .inl (hj2 j hjk)⟩
        · exact hg
/-- A piece of code, as the law asks of it: at a, long, of a kind. -/
structure PieceOk (code : List (Nat × Nat)) (lead : Nat → Bool) (a : Nat) (p : Nat × Nat × Nat × Nat) : Prop where
  at_ : p.1 = a
  pos : 1 ≤ p.2.1
  le : a + p.2.1 ≤ code.length
  kd : 1 ≤ p.2.2.1 ∧ p.2.2.1 ≤ 4
  one : p.2.2.1 = 1 ↔ p.2.1 = 1
  ops : 1 < p.2.1 → ∀ j, a ≤ j → j < a + p.2.1 → inRow (code.getD j (0, 0)).1 = true ∨ (isBr (code.getD j (0, 0)).1 = true ∧ j + 1 = a + p.2.1)
  ld : ∀ j, a < j → j < a + p.2.1 → lead j = false
theorem long_piece {code : List (Nat × Nat)} {lead : Nat → Bool} {a e : Nat} (h1 : a < e) (h2 : e ≤ code.length) (hc : checkN (code.getD a (0, 0)).1 (code.getD a (0, 0)).2 = 0) (hl : ∀ j, a < j → j < e → lead j = false) :
    PieceOk code lead a (longRes code a e).1 ∧ (longRes code a e).2 = 0 := by
  have hst : ((code.drop a).take (e - a)).length = e - a := by rw [List.length_take, List.length_drop]; omega
  have hsg : ∀ k, k < e - a → ((code.drop a).take (e - a)).getD k (0, 0) = code.getD (a + k) (0, 0) := fun k hk => by
    rw [List.getD_eq_getElem?_getD, List.getElem?_take, if_pos hk, List.getElem?_drop, ← List.getD_eq_getElem?_getD]
  have hE : longRes code a e = ((a, goL ((code.drop a).take (e - a)) 0 ⟨fun _ => 0, 0⟩ (1, 1, 0)), 0) := by
    unfold longRes; rw [if_neg (by omega), if_neg (by simp; exact hc)]
  have hg := goL_ok ((code.drop a).take (e - a)) _ 0 ⟨fun _ => 0, 0⟩ (1, 1, 0) rfl (fun j hj => absurd hj (Nat.not_lt_zero j)) (.inl ⟨rfl, rfl⟩)
  rw [List.drop_zero] at hg
  rw [hE]
  refine ⟨?_, rfl⟩
  generalize goL ((code.drop a).take (e - a)) 0 ⟨fun _ => 0, 0⟩ (1, 1, 0) = B at *
  obtain ⟨L, K, V⟩ := B
  rcases hg with ⟨g1, g2⟩ | ⟨g1, g2, g3, g4, g5⟩
  · simp only at g1 g2
    subst g1 g2
    exact ⟨rfl, Nat.le_refl _, by simp only; omega, by simp, by simp, fun h => absurd h (by simp), fun j hj1 hj2 => by simp only at hj2; omega⟩
  · simp only at g1 g2 g3 g4 g5
    rw [hst] at g2
    refine ⟨rfl, by simp only; omega, by simp only; omega, by simp only; omega, by simp only; omega, fun _ j hj1 hj2 => ?_, fun j hj1 hj2 => hl j hj1 (by simp only at hj2; omega)⟩
    simp only at hj2 ⊢
    have := g5 (j - a) (by omega)
    rw [hsg _ (by omega), show a + (j - a) = j from by omega] at this
    rcases this with h | ⟨h, h'⟩
    · exact .inl h
    · exact .inr ⟨h, by omega⟩
theorem one_piece {code : List (Nat × Nat)} {lead : Nat → Bool} {a : Nat} (h : a < code.length) : PieceOk code lead a (a, 1, 1, 0) :=
  ⟨rfl, Nat.le_refl _, by simp only; omega, by simp, by simp, fun h => absurd h (by simp), fun j hj1 hj2 => by simp only at hj2; omega⟩
/-- Pieces one behind the other, from one place to another. -/
inductive Pieces (code : List (Nat × Nat)) (lead : Nat → Bool) : Nat → List (Nat × Nat × Nat × Nat) → Nat → Prop
  | nil (a : Nat) : Pieces code lead a [] a
  | snoc (a b : Nat) (l : List (Nat × Nat × Nat × Nat)) (p : Nat × Nat × Nat × Nat) (h : Pieces code lead a l b) (hp : PieceOk code lead b p) : Pieces code lead a (l ++ [p]) (b + p.2.1)
end Go.Proofs.YtgpicmiaanapkaaGreat
/- A sum of bytes, the runs in which two lists differ, what they mend: plain. -/
namespace Go.Proofs.YtgpicmiaanapkaaGreat
set_option linter.unusedVariables false
theorem ext_getD {l m : List Nat} (hl : l.length = m.length) (h : ∀ j, j < l.length → l.getD j 0 = m.getD j 0) : l = m := by
  refine List.ext_getElem hl fun j h1 h2 => ?_
  have := h j h1
  rw [List.getD_eq_getElem?_getD, List.getD_eq_getElem?_getD, List.getElem?_eq_getElem h1, List.getElem?_eq_getElem h2] at this
  exact this
/-- The two sums of bytes. -/
def sumTo : List Nat → Nat × Nat → Nat × Nat
  | [], s => s
  | x :: l, s => sumTo l ((s.1 + x) % 65521, (s.2 + (s.1 + x) % 65521) % 65521)
def sumN (l : List Nat) : Nat := (sumTo l (1, 0)).2 * 65536 + (sumTo l (1, 0)).1
theorem sumTo_snoc (x : Nat) : ∀ (l : List Nat) (s : Nat × Nat), sumTo (l ++ [x]) s = (((sumTo l s).1 + x) % 65521, ((sumTo l s).2 + ((sumTo l s).1 + x) % 65521) % 65521)
  | [], s => rfl
  | y :: l, s => by rw [List.cons_append]; exact sumTo_snoc x l _
theorem sumTo_low : ∀ (l : List Nat) (s : Nat × Nat), (sumTo l s).1 % 65521 = (s.1 + l.sum) % 65521
  | [], s => by simp [sumTo]
  | x :: l, s => by
    have := sumTo_low l ((s.1 + x) % 65521, (s.2 + (s.1 + x) % 65521) % 65521)
    rw [sumTo, this, List.sum_cons]
    simp only
    omega
theorem sumTo_lt : ∀ (l : List Nat) (s : Nat × Nat), s.1 < 65521 → s.2 < 65521 → (sumTo l s).1 < 65521 ∧ (sumTo l s).2 < 65521
  | [], s, h1, h2 => ⟨h1, h2⟩
  | x :: l, s, h1, h2 => sumTo_lt l _ (Nat.mod_lt _ (by decide)) (Nat.mod_lt _ (by decide))
theorem sumN_lt (l : List Nat) : sumN l < 4294967296 := by
  have := sumTo_lt l (1, 0) (by decide) (by decide)
  unfold sumN; omega
theorem sumN_low (l : List Nat) : sumN l % 65536 = (1 + l.sum) % 65521 := by
  have h := sumTo_lt l (1, 0) (by decide) (by decide)
  have h2 := sumTo_low l (1, 0)
  rw [Nat.mod_eq_of_lt h.1] at h2
  unfold sumN
  rw [h2] at *
  omega
theorem sum_set : ∀ (l : List Nat) (k x : Nat), k < l.length → (l.set k x).sum + l.getD k 0 = l.sum + x
  | [], k, x, h => by simp at h
  | y :: l, 0, x, h => by simp; omega
  | y :: l, k + 1, x, h => by
    have := sum_set l k x (by simpa using h)
    simp only [List.set_cons_succ, List.sum_cons, List.getD_cons_succ]
    omega
/-- One byte that is another gives another sum. -/
theorem sumN_set {l : List Nat} {k x : Nat} (hk : k < l.length) (hx : x < 256) (ho : l.getD k 0 < 256) (hne : x ≠ l.getD k 0) : sumN (l.set k x) ≠ sumN l := by
  intro e
  have h1 := sumN_low (l.set k x)
  have h2 := sumN_low l
  have h3 := sum_set l k x hk
  rw [e, h2] at h1
  omega

/-- The runs of the first places: those that are closed, and the one that is open. -/
def runStep (a b : List Nat) (k : Nat) (s : List (Nat × List Nat) × Option (Nat × List Nat)) : List (Nat × List Nat) × Option (Nat × List Nat) :=
  if a.getD k 0 = b.getD k 0 then (match s.2 with | none => s | some r => (s.1 ++ [r], none))
  else match s.2 with | none => (s.1, some (k, [b.getD k 0])) | some r => (s.1, some (r.1, r.2 ++ [b.getD k 0]))
def runsTo (a b : List Nat) : Nat → List (Nat × List Nat) × Option (Nat × List Nat)
  | 0 => ([], none)
  | k + 1 => runStep a b k (runsTo a b k)
def closeR (s : List (Nat × List Nat) × Option (Nat × List Nat)) : List (Nat × List Nat) := match s.2 with | none => s.1 | some r => s.1 ++ [r]
def runsN (a b : List Nat) : List (Nat × List Nat) := closeR (runsTo a b a.length)
/-- Bytes laid over others. -/
def layAt (l : List Nat) (r : Nat × List Nat) : List Nat := l.take r.1 ++ r.2 ++ l.drop (r.1 + r.2.length)
def mendN (l : List Nat) (rs : List (Nat × List Nat)) : List Nat := rs.foldl layAt l
/-- Runs that may be: none empty, rising, within n. -/
def mendOk (n : Nat) : Nat → List (Nat × List Nat) → Bool
  | _, [] => true
  | last, r :: rs => decide (r.2.length ≠ 0) && (decide (last ≤ r.1) && (decide (r.1 + r.2.length ≤ n) && mendOk n (r.1 + r.2.length) rs))
def endR (last : Nat) (rs : List (Nat × List Nat)) : Nat := rs.foldl (fun _ r => r.1 + r.2.length) last
theorem mendOk_snoc (n : Nat) (r : Nat × List Nat) : ∀ (rs : List (Nat × List Nat)) (last : Nat), mendOk n last (rs ++ [r]) = (mendOk n last rs && (decide (r.2.length ≠ 0) && (decide (endR last rs ≤ r.1) && decide (r.1 + r.2.length ≤ n))))
  | [], last => by
    rw [Bool.eq_iff_iff]
    simp only [List.nil_append, mendOk, Bool.and_eq_true, decide_eq_true_eq]
    rw [show endR last [] = last from rfl]
    exact ⟨fun ⟨a, b, c, d⟩ => ⟨d, a, b, c⟩, fun ⟨d, a, b, c⟩ => ⟨a, b, c, d⟩⟩
  | q :: rs, last => by
    have := mendOk_snoc n r rs (q.1 + q.2.length)
    rw [List.cons_append, mendOk, mendOk, this, Bool.eq_iff_iff]
    simp only [Bool.and_eq_true, decide_eq_true_eq]
    rw [show endR last (q :: rs) = endR (q.1 + q.2.length) rs from rfl]
    exact ⟨fun ⟨a, b, c, d, e⟩ => ⟨⟨a, b, c, d⟩, e⟩, fun ⟨⟨a, b, c, d⟩, e⟩ => ⟨a, b, c, d, e⟩⟩
theorem endR_snoc (r : Nat × List Nat) (rs : List (Nat × List Nat)) (last : Nat) : endR last (rs ++ [r]) = r.1 + r.2.length := by simp [endR]
theorem layAt_length {l : List Nat} {r : Nat × List Nat} (h : r.1 + r.2.length ≤ l.length) : (layAt l r).length = l.length := by
  simp only [layAt, List.length_append, List.length_take, List.length_drop]; omega
theorem layAt_getD {l : List Nat} {r : Nat × List Nat} (h : r.1 + r.2.length ≤ l.length) (j : Nat) :
    (layAt l r).getD j 0 = if j < r.1 then l.getD j 0 else if j < r.1 + r.2.length then r.2.getD (j - r.1) 0 else l.getD j 0 := by
  unfold layAt
  simp only [List.getD_eq_getElem?_getD]
  have h1 : (l.take r.1).length = r.1 := by rw [List.length_take]; omega
  by_cases c1 : j < r.1
  · rw [if_pos c1, List.append_assoc, List.getElem?_append_left (by omega), List.getElem?_take, if_pos c1]
  · rw [if_neg c1]
    by_cases c2 : j < r.1 + r.2.length
    · rw [if_pos c2, List.append_assoc, List.getElem?_append_right (by omega), h1, List.getElem?_append_left (by omega)]
    · rw [if_neg c2, List.getElem?_append_right (by simp only [List.length_append]; omega), List.getElem?_drop]
      congr 2
      simp only [List.length_append, h1]; omega
theorem mendN_snoc (l : List Nat) (rs : List (Nat × List Nat)) (r : Nat × List Nat) : mendN l (rs ++ [r]) = layAt (mendN l rs) r := by simp [mendN]
/-- What holds of the runs of the first k places. -/
structure RunsI (a b : List Nat) (k : Nat) (s : List (Nat × List Nat) × Option (Nat × List Nat)) (c : Nat) : Prop where
  ok : mendOk a.length 0 s.1 = true
  en : endR 0 s.1 ≤ c
  le : c ≤ k
  ln : (mendN a s.1).length = a.length
  lo : ∀ j, j < c → (mendN a s.1).getD j 0 = b.getD j 0
  hi : ∀ j, c ≤ j → (mendN a s.1).getD j 0 = a.getD j 0
  none : s.2 = none → c = k
  some : ∀ r, s.2 = some r → r.1 = c ∧ r.1 + r.2.length = k ∧ 0 < r.2.length ∧ ∀ j, j < r.2.length → r.2.getD j 0 = b.getD (r.1 + j) 0
theorem RunsI.close {a b : List Nat} {k c : Nat} {s : List (Nat × List Nat) × Option (Nat × List Nat)} (h : RunsI a b k s c) (hk : k ≤ a.length) {r : Nat × List Nat} (hr : s.2 = .some r) :
    RunsI a b k (s.1 ++ [r], .none) k := by
  obtain ⟨h1, h2, h3, h4⟩ := h.some r hr
  have hl : r.1 + r.2.length ≤ (mendN a s.1).length := by rw [h.ln]; omega
  refine ⟨?_, ?_, Nat.le_refl _, ?_, fun j hj => ?_, fun j hj => ?_, fun _ => rfl, fun q e => by cases e⟩
  · rw [mendOk_snoc, h.ok]
    have := h.en
    simp only [Bool.true_and, Bool.and_eq_true, decide_eq_true_eq]
    omega
  · rw [endR_snoc]; omega
  · rw [mendN_snoc, layAt_length hl, h.ln]
  · rw [mendN_snoc, layAt_getD hl]
    by_cases c1 : j < r.1
    · rw [if_pos c1]; exact h.lo j (by omega)
    · rw [if_neg c1, if_pos (by omega), h4 _ (by omega), show r.1 + (j - r.1) = j from by omega]
  · rw [mendN_snoc, layAt_getD hl, if_neg (by omega), if_neg (by omega)]
    exact h.hi j (by omega)
theorem runsI (a b : List Nat) : ∀ k, k ≤ a.length → ∃ c, RunsI a b k (runsTo a b k) c
  | 0, _ => ⟨0, rfl, Nat.le_refl _, Nat.le_refl _, rfl, fun j hj => absurd hj (Nat.not_lt_zero j), fun _ _ => rfl, fun _ => rfl, fun r e => by cases e⟩
  | k + 1, hk => by
    obtain ⟨c, h⟩ := runsI a b k (by omega)
    unfold runsTo runStep
    by_cases he : a.getD k 0 = b.getD k 0
    · rw [if_pos he]
      cases hs : (runsTo a b k).2 with
      | none =>
        obtain rfl := h.none hs
        simp only
        refine ⟨c + 1, h.ok, by have := h.en; omega, Nat.le_refl _, h.ln, fun j hj => ?_, fun j hj => h.hi j (by omega), fun _ => rfl, fun r e => by rw [hs] at e; cases e⟩
        by_cases c1 : j < c
        · exact h.lo j c1
        · obtain rfl : j = c := by omega
          rw [h.hi _ (Nat.le_refl _), he]
      | some r =>
        have h2 := h.close (by omega) hs
        simp only
        refine ⟨k + 1, h2.ok, by have := h2.en; omega, Nat.le_refl _, h2.ln, fun j hj => ?_, fun j hj => h2.hi j (by omega), fun _ => rfl, fun q e => by cases e⟩
        by_cases c1 : j < k
        · exact h2.lo j c1
        · obtain rfl : j = k := by omega
          rw [h2.hi _ (Nat.le_refl _), he]
    · rw [if_neg he]
      cases hs : (runsTo a b k).2 with
      | none =>
        obtain rfl := h.none hs
        simp only
        refine ⟨c, h.ok, h.en, by omega, h.ln, h.lo, h.hi, (fun e => by cases e), fun r e => ?_⟩
        cases e
        refine ⟨rfl, rfl, by simp, fun j hj => ?_⟩
        obtain rfl : j = 0 := by simpa using hj
        rfl
      | some r =>
        obtain ⟨h1, h2, h3, h4⟩ := h.some r hs
        simp only
        refine ⟨c, h.ok, h.en, by have := h.le; omega, h.ln, h.lo, h.hi, (fun e => by cases e), fun q e => ?_⟩
        cases e
        refine ⟨h1, by simp only [List.length_append, List.length_cons, List.length_nil]; omega, by simp, fun j hj => ?_⟩
        simp only [List.length_append, List.length_cons, List.length_nil] at hj
        simp only
        rw [List.getD_eq_getElem?_getD]
        by_cases c1 : j < r.2.length
        · rw [List.getElem?_append_left c1, ← List.getD_eq_getElem?_getD]; exact h4 j c1
        · obtain rfl : j = r.2.length := by omega
          rw [List.getElem?_append_right (Nat.le_refl _), Nat.sub_self, h2]
          rfl
/-- What lies between two lists leads from the one to the other. -/
theorem mend_runs {a b : List Nat} (h : a.length = b.length) : mendOk a.length 0 (runsN a b) = true ∧ mendN a (runsN a b) = b := by
  obtain ⟨c, hc⟩ := runsI a b a.length (Nat.le_refl _)
  unfold runsN closeR
  cases hs : (runsTo a b a.length).2 with
  | none =>
    obtain rfl := hc.none hs
    exact ⟨hc.ok, ext_getD (by rw [hc.ln, h]) fun j hj => hc.lo j (by rw [← hc.ln]; exact hj)⟩
  | some r =>
    have h2 := hc.close (Nat.le_refl _) hs
    exact ⟨h2.ok, ext_getD (by rw [h2.ln, h]) fun j hj => h2.lo j (by rw [← h2.ln]; exact hj)⟩
/-- A list differs nowhere from itself. -/
theorem runsTo_self (a : List Nat) : ∀ k, runsTo a a k = ([], none)
  | 0 => rfl
  | k + 1 => by unfold runsTo runStep; rw [runsTo_self a k, if_pos rfl]
theorem runsN_self (a : List Nat) : runsN a a = [] := by unfold runsN; rw [runsTo_self]; rfl
end Go.Proofs.YtgpicmiaanapkaaGreat
/- little's Put of bytes, Sum. -/
namespace Go.Proofs.YtgpicmiaanapkaaGreat
open Go.RowKit
set_option linter.unusedVariables false
set_option maxRecDepth 100000 in
set_option maxHeartbeats 400000 in
theorem width8_any (w : World) : Calls Tryz.prog 317 #[] w fun e w' => e = .returned (.int .i64 1) ∧ w = w' := by
  have hx : bits BinOp.xor .u8 IntKind.u8.max 0 = 255 := by kernel_rfl
  go_enter Tryz.func317, Tryz.ntmps317
  go_wp2
  refine wp_loop_rounds 2 ?_
  rw [rounds_succ]
  go_wp2
  rw [rounds_succ]
  go_wp2
  go_ret
  exact ⟨rfl, rfl⟩
set_option maxRecDepth 100000 in
set_option maxHeartbeats 1000000 in
theorem lay8_any (v : Value) (n : Nat) (xs : List Value) (x : Nat) (hx : x < 256) (w : World) (hown : w.ownsRow 0 5 1 v n xs) (hn : n + 1 ≤ 140737488355328) :
    Calls Tryz.prog 208 #[v, .int .u8 x] w fun e w' => ∃ v', e = .returned v' ∧ w'.ownsRow 0 5 1 v' (n + 1) (xs ++ [.int .u8 x]) ∧ Grew w w' v v' := by
  obtain ⟨i0, hi, hz0, hz1, hz2⟩ := info_parts info5
  go_enter Tryz.func208, Tryz.ntmps208
  go_wp2_with fail
  refine (width8_any _).mono ?_
  rintro e w1 ⟨rfl, rfl⟩
  go_wp2_with fail
  go_loopw [0, 7] (fun u i wr => ∃ k : Nat, k ≤ 1 ∧ i = .int .i64 k ∧ wr.ownsRow 0 5 1 u (n + k) (xs ++ [Value.int .u8 x].take k) ∧ Grew w wr v u) (fun _ i _ => 1 - (intOf i).toNat)
  case atStart => exact ⟨0, by omega, rfl, by simpa using hown, Grew.refl _ _⟩
  case round =>
    obtain ⟨k, hk, rfl, hr, hg⟩ := hrel
    by_cases hlt : k < 1
    · obtain rfl : k = 0 := by omega
      simp only [Nat.add_zero, List.take_zero, List.append_nil] at hr
      go_wp2_with ((with_reducible refine wpList_append1 (o := ⟨some 18, .call { callee := .builtin .append, args := #[.tmp 10, .tmp 17], argTypes := #[24, 24] }, _, _, _, none⟩) rfl _ _ 24 rfl 5 i0 (.int .u8 0) 1 1 Tryz.underlying24 hi hz0 hz1 hz2 ?_ ?_ _ _ _ hr _ _ ?_ ?_ ?_ ?_ ?_ ?_ ?_); rfl; decide; rfl; rfl; rfl; (simp [Value.oneCell']); (unfold maxLen; omega); omega; intro g c w1 hr1 hg1 hl1)
      go_roundw
      case rel => exact ⟨1, by omega, by go_num, by simpa using hr1, hg.trans hg1⟩
      case measure => simp [intOf]
    · have : k = 1 := by omega
      subst this
      go_wp2
      go_ret
      exact ⟨_, rfl, by simpa using hr, hg⟩
set_option maxRecDepth 100000 in
set_option maxHeartbeats 1000000 in
theorem put8_any (a : Option Addr) (cap : Nat) (l : List Nat) (hl : ∀ i ∈ l, i < 256) (w : World) (hr : Reads w 1 (.slice a l.length cap) l.length (encN .u8 l)) (hn : l.length + 4 ≤ 140737488355328) :
    Calls Tryz.prog 102 #[.slice a l.length cap] w fun e w' => ∃ v', e = .returned v' ∧ w'.ownsRow 0 5 1 v' l.length (encN .u8 l) ∧ Grew w w' (.slice none 0 0) v' := by
  obtain ⟨a', cap', hv, hlen, hnc, hm, hnil, hp⟩ := hr
  simp only [Value.slice.injEq, true_and] at hv
  obtain ⟨rfl, rfl⟩ := hv
  have hcell : ∀ k, k < l.length → ∃ b off, a = some ⟨b, off, none⟩ ∧ b < w.heap.size ∧ w.cell? ⟨b, off + k, none⟩ = some (.int .u8 (l.getD k 0 : Nat)) := by
    intro k hk
    obtain ⟨b, off, e, hlt, hc⟩ := hp (by omega)
    exact ⟨b, off, e, hlt, by rw [hc k (by rw [encN_length]; exact hk), encN_at _ l k hk]⟩
  have Hcell := Lib.hid hcell
  clear hp hnil hcell hlen
  go_enter Tryz.func102, Tryz.ntmps102
  go_wp2_with fail
  go_loopw [3, 8] (fun u i wr => ∃ k : Nat, k ≤ l.length ∧ i = .int .i64 k ∧ wr.ownsRow 0 5 1 u k (encN .u8 (l.take k)) ∧ Grew w wr (.slice none 0 0) u) (fun _ i _ => l.length - (intOf i).toNat)
  case atStart => exact ⟨0, by omega, rfl, World.ownsRow_nil _ _ _ _, Grew.refl _ _⟩
  case round =>
    obtain ⟨k, hk, rfl, hr, hg⟩ := hrel
    by_cases hlt : k < l.length
    · obtain ⟨b, off, rfl, hbl, hc⟩ := Hcell.out k hlt
      have hc2 : wr.cell? ⟨b, off + k, none⟩ = some (.int .u8 (l.getD k 0 : Nat)) := ((Grew.bel hg).cell (p := ⟨b, off + k, none⟩) hbl).trans hc
      have hx : l.getD k 0 < 256 := by
        rw [List.getD_eq_getElem?_getD, List.getElem?_eq_getElem hlt]; exact hl _ (List.getElem_mem hlt)
      have hs : encN .u8 (l.take (k + 1)) = encN .u8 (l.take k) ++ [.int .u8 (l.getD k 0 : Nat)] := by
        rw [List.take_add_one, List.getElem?_eq_getElem hlt, encN_append, List.getD_eq_getElem?_getD, List.getElem?_eq_getElem hlt]; rfl
      have Hs := Lib.hid hs
      clear hs hc
      generalize l.getD k 0 = x at hc2 hx Hs
      have h60 := lay8_any u3 k (encN .u8 (l.take k)) x hx wr hr (by omega)
      go_wp2_with fail
      refine h60.mono ?_
      rintro e w1 ⟨v', rfl, hr1, hg1⟩
      clear h60
      go_wp2
      go_roundw
      case rel => exact ⟨k + 1, by omega, by go_num, by rw [Hs.out]; exact hr1, hg.trans hg1⟩
      case measure => simp [intOf]; omega
    · have : k = l.length := by omega
      subst this
      rw [List.take_length] at hr
      go_wp2
      go_ret
      exact ⟨_, rfl, hr, hg⟩
theorem sumTo_take {l : List Nat} {k : Nat} (hk : k < l.length) : sumTo (l.take (k + 1)) (1, 0) = (((sumTo (l.take k) (1, 0)).1 + l.getD k 0) % 65521, ((sumTo (l.take k) (1, 0)).2 + ((sumTo (l.take k) (1, 0)).1 + l.getD k 0) % 65521) % 65521) := by
  rw [List.take_add_one, List.getElem?_eq_getElem hk, List.getD_eq_getElem?_getD, List.getElem?_eq_getElem hk]
  exact sumTo_snoc _ _ _
set_option maxRecDepth 100000 in
set_option maxHeartbeats 1000000 in
theorem sum_bytes (v : Value) (l : List Nat) (w : World) (hv : Bytes w v l) :
    Calls Tryz.prog 162 #[v] w fun e w' => e = .returned (.int .u32 (sumN l)) ∧ w = w' := by
  obtain ⟨a, cap, rfl, hlc, hcm, hnil, hp⟩ := hv.opened
  have hm : l.length ≤ 9223372036854775807 := by unfold maxLen at hcm; omega
  have hlt := hv.lt
  have Hp := Lib.hid hp
  have Hl := Lib.hid hlt
  have HS := Lib.hid (show sumN l = (sumTo l (1, 0)).2 * 65536 + (sumTo l (1, 0)).1 from rfl)
  clear hp hv hlt hnil
  go_enter Tryz.func162, Tryz.ntmps162
  go_wp2_with fail
  go_loop [3, 4, 9] (fun lo hi i => ∃ (k x y : Nat), k ≤ l.length ∧ i = .int .i64 k ∧ lo = .int .u32 x ∧ hi = .int .u32 y ∧ x < 65521 ∧ y < 65521 ∧ sumTo (l.take k) (1, 0) = (x, y)) (fun _ _ i => l.length - (intOf i).toNat)
  case atStart => exact ⟨0, 1, 0, by omega, rfl, rfl, rfl, by decide, by decide, rfl⟩
  case round =>
    obtain ⟨k, x, y, hk, rfl, rfl, rfl, hx, hy, hs⟩ := hrel
    have Hs := Lib.hid hs
    clear hs
    by_cases hlt : k < l.length
    · obtain ⟨b, off, rfl, hbl, hc⟩ := Hp.out (by omega)
      have hcc := hc k hlt
      have hz := Hl.out k
      have Hn := Lib.hid (sumTo_take hlt)
      generalize l.getD k 0 = z at *
      clear hc
      have hki : (k : Int) < (l.length : Int) := by omega
      have hk0 : (0 : Int) ≤ (k : Int) := by omega
      go_wp2_with fail
      go_round
      case rel => exact ⟨k + 1, (x + z) % 65521, (y + (x + z) % 65521) % 65521, by omega, by go_num, by go_num, by go_num, Nat.mod_lt _ (by decide), Nat.mod_lt _ (by decide), by rw [Hn.out, Hs.out]⟩
      case measure => simp [intOf]; omega
    · obtain rfl : k = l.length := by omega
      have hsh : bits BinOp.xor .u32 0 0 = 0 := by kernel_rfl
      go_wp2
      go_ret
      refine ⟨?_, rfl⟩
      rw [HS.out]
      have h2 := Hs.out
      rw [List.take_length] at h2
      rw [h2]
      go_num
end Go.Proofs.YtgpicmiaanapkaaGreat
/- States as bytes and back: plain. -/
namespace Go.Proofs.YtgpicmiaanapkaaGreat
set_option linter.unusedVariables false
/-- A number in so many bytes, the lowest first; and back. -/
def leW : Nat → Nat → List Nat
  | 0, _ => []
  | w + 1, x => x % 256 :: leW w (x / 256)
def deW : List Nat → Nat
  | [] => 0
  | b :: l => b + 256 * deW l
theorem leW_length : ∀ (w x : Nat), (leW w x).length = w
  | 0, _ => rfl
  | w + 1, x => by rw [leW, List.length_cons, leW_length w]
theorem leW4 (x : Nat) : leW 4 x = le4 x := by
  simp only [leW, le4]
  rw [Nat.div_div_eq_div_mul, Nat.div_div_eq_div_mul]
theorem leW_lt : ∀ (w x : Nat), ∀ y ∈ leW w x, y < 256
  | 0, _, y, h => by cases h
  | w + 1, x, y, h => by
    rcases List.mem_cons.1 h with rfl | h
    · exact Nat.mod_lt _ (by decide)
    · exact leW_lt w _ y h
theorem deW_leW : ∀ (w x : Nat), x < 256 ^ w → deW (leW w x) = x
  | 0, x, h => by simp at h; subst h; rfl
  | w + 1, x, h => by
    rw [leW, deW, deW_leW w (x / 256) (by rw [Nat.pow_succ] at h; exact Nat.div_lt_of_lt_mul (by rw [Nat.mul_comm]; exact h))]
    omega
theorem leW_deW : ∀ (l : List Nat), (∀ y ∈ l, y < 256) → leW l.length (deW l) = l
  | [], _ => rfl
  | b :: l, h => by
    have hb := h b (List.mem_cons_self ..)
    rw [List.length_cons, deW, leW, show (b + 256 * deW l) % 256 = b from by omega, show (b + 256 * deW l) / 256 = deW l from by omega,
      leW_deW l (fun y hy => h y (List.mem_cons_of_mem _ hy))]
theorem deW_lt : ∀ (l : List Nat), (∀ y ∈ l, y < 256) → deW l < 256 ^ l.length
  | [], _ => by simp [deW]
  | b :: l, h => by
    have hb := h b (List.mem_cons_self ..)
    have := deW_lt l (fun y hy => h y (List.mem_cons_of_mem _ hy))
    rw [deW, List.length_cons, Nat.pow_succ]
    omega
/-- The number of w bytes at a place. -/
def numAt (w : Nat) (b : List Nat) (at_ : Nat) : Nat := deW ((b.drop at_).take w)
theorem numAt_mid (w x : Nat) (p q : List Nat) (n : Nat) (hn : p.length = n) (hx : x < 256 ^ w) : numAt w (p ++ (leW w x ++ q)) n = x := by
  unfold numAt
  subst hn
  rw [List.drop_left, List.take_left' (leW_length w x), deW_leW w x hx]
/-- A state. -/
structure St where
  life : Nat
  pc : Nat
  sp : Nat
  ops : List Nat
  data : List Nat
  value : Nat
  fault : Nat
/-- Numbers in their ranges. -/
structure St.Small (t : St) : Prop where
  l : t.life < 256
  p : t.pc < 4294967296
  s : t.sp < 4294967296
  o : ∀ x ∈ t.ops, x < 4294967296
  d : ∀ x ∈ t.data, x < 256
  v : t.value < 4294967296
  f : t.fault < 256
def runB (r : Nat × List Nat) : List Nat := leW 4 r.1 ++ (leW 4 r.2.length ++ r.2)
/-- A state's own bytes. -/
def bodyN (s : St) (base : List Nat) : List Nat :=
  [s.life, s.fault] ++ (leW 2 s.ops.length ++ (leW 4 s.pc ++ (leW 4 s.sp ++ (leW 4 s.value ++ (leW 4 (runsN base s.data).length ++ (s.ops.flatMap (leW 4) ++ (runsN base s.data).flatMap runB))))))
def headN (dig delta mark sum : Nat) : List Nat := [83, 65, 86, 33] ++ (leW 4 1 ++ (leW 8 dig ++ (leW 4 delta ++ (leW 4 mark ++ leW 4 sum))))
theorem headN_length (dig delta mark sum : Nat) : (headN dig delta mark sum).length = 28 := by simp [headN, leW_length]
def fileN (dig delta mark : Nat) (base : List Nat) (s : St) : List Nat := headN dig delta mark (sumN (headN dig delta mark 0 ++ bodyN s base)) ++ bodyN s base
def cleanN (b : List Nat) : List Nat := b.take 24 ++ ([0, 0, 0, 0] ++ b.drop 28)
/-- What Look says: the place and the error. -/
def lookN (b : List Nat) : Nat × Nat :=
  if b.length < 48 then (b.length, 200) else if b.take 4 ≠ [83, 65, 86, 33] then (0, 200) else if numAt 4 b 4 ≠ 1 then (4, 200)
  else if 1 < numAt 4 b 16 then (16, 200) else if numAt 4 b 16 = 0 ∧ numAt 4 b 20 ≠ 0 then (20, 200) else if numAt 4 b 24 ≠ sumN (cleanN b) then (24, 200) else (0, 0)
/-- Words of bytes. -/
def wordsN : List Nat → List Nat
  | a :: b :: c :: d :: l => deW [a, b, c, d] :: wordsN l
  | _ => []
theorem wordsN_cons (x : Nat) (hx : x < 4294967296) (l : List Nat) : wordsN (leW 4 x ++ l) = x :: wordsN l := by
  have h := deW_leW 4 x (by simpa using hx)
  simp only [leW] at h ⊢
  simp only [List.cons_append, List.nil_append, wordsN, h]
theorem wordsN_flat : ∀ (l : List Nat), (∀ x ∈ l, x < 4294967296) → wordsN (l.flatMap (leW 4)) = l
  | [], _ => rfl
  | x :: l, h => by
    rw [List.flatMap_cons, wordsN_cons x (h x (List.mem_cons_self ..)), wordsN_flat l (fun y hy => h y (List.mem_cons_of_mem _ hy))]
theorem flat4_length : ∀ (l : List Nat), (l.flatMap (leW 4)).length = 4 * l.length
  | [] => rfl
  | x :: l => by rw [List.flatMap_cons, List.length_append, leW_length, flat4_length l, List.length_cons]; omega
/-- The runs that stand from a place on: n of them; none where the bytes end too early. -/
def rdRuns (b : List Nat) : Nat → Nat → List (Nat × List Nat) → Option (List (Nat × List Nat))
  | 0, _, rs => some rs
  | n + 1, at_, rs =>
    if at_ + 8 ≤ b.length ∧ numAt 4 b (at_ + 4) ≤ b.length - at_ - 8 then
      rdRuns b n (at_ + 8 + numAt 4 b (at_ + 4)) (rs ++ [(numAt 4 b at_, (b.drop (at_ + 8)).take (numAt 4 b (at_ + 4)))])
    else none
theorem rdRuns_flat (q : List Nat) : ∀ (rs : List (Nat × List Nat)) (p : List Nat) (done : List (Nat × List Nat)), (∀ r ∈ rs, r.1 < 4294967296 ∧ r.2.length < 4294967296) →
    rdRuns (p ++ (rs.flatMap runB ++ q)) rs.length p.length done = some (done ++ rs)
  | [], p, done, _ => by simp [rdRuns]
  | r :: rs, p, done, h => by
    obtain ⟨h1, h2⟩ := h r (List.mem_cons_self ..)
    have ih := rdRuns_flat q rs (p ++ runB r) (done ++ [r]) (fun x hx => h x (List.mem_cons_of_mem _ hx))
    have e : p ++ ((r :: rs).flatMap runB ++ q) = p ++ (leW 4 r.1 ++ (leW 4 r.2.length ++ (r.2 ++ (rs.flatMap runB ++ q)))) := by
      rw [List.flatMap_cons, runB]; simp only [List.append_assoc]
    have e2 : (p ++ runB r) ++ (rs.flatMap runB ++ q) = p ++ ((r :: rs).flatMap runB ++ q) := by
      rw [List.flatMap_cons]; simp only [List.append_assoc]
    have n1 := numAt_mid 4 r.1 p (leW 4 r.2.length ++ (r.2 ++ (rs.flatMap runB ++ q))) p.length rfl (by simpa using h1)
    have n2 : numAt 4 (p ++ (leW 4 r.1 ++ (leW 4 r.2.length ++ (r.2 ++ (rs.flatMap runB ++ q))))) (p.length + 4) = r.2.length := by
      rw [← List.append_assoc]
      exact numAt_mid 4 r.2.length (p ++ leW 4 r.1) _ _ (by rw [List.length_append, leW_length]) (by simpa using h2)
    have n3 : ((p ++ (leW 4 r.1 ++ (leW 4 r.2.length ++ (r.2 ++ (rs.flatMap runB ++ q))))).drop (p.length + 8)).take r.2.length = r.2 := by
      rw [← List.append_assoc, ← List.append_assoc, List.drop_left' (by simp [leW_length]), List.take_left]
    rw [e2] at ih
    have hl : (p ++ runB r).length = p.length + 8 + r.2.length := by simp [runB, leW_length]; omega
    rw [List.length_cons, rdRuns, e, n2, n1, n3, ← e, if_pos ⟨by rw [e]; simp [leW_length]; omega, by rw [e]; simp [leW_length]; omega⟩, ← hl, ih, List.append_assoc]
    rfl
/-- What taken answers, but for whether the state fits: a state, or the place and the error. -/
def takenN (b : List Nat) (dig delta mark : Nat) (base : List Nat) : Except (Nat × Nat) St :=
  if (lookN b).2 ≠ 0 then .error (lookN b)
  else if numAt 8 b 8 ≠ dig then .error (8, 201)
  else if (numAt 4 b 16 = 1) ≠ (delta = 1) then .error (16, 202)
  else if numAt 4 b 20 ≠ mark then .error (20, 202)
  else if b.length < 48 + 4 * numAt 2 b 30 then .error (28, 200)
  else match rdRuns b (numAt 4 b 44) (48 + 4 * numAt 2 b 30) [] with
    | none => .error (28, 200)
    | some rs =>
      if mendOk base.length 0 rs = false then .error (28, 200)
      else
        if fileN dig delta mark base ⟨b.getD 28 0, numAt 4 b 32, numAt 4 b 36, wordsN ((b.drop 48).take (4 * numAt 2 b 30)), mendN base rs, numAt 4 b 40, b.getD 29 0⟩ = b then
          .ok ⟨b.getD 28 0, numAt 4 b 32, numAt 4 b 36, wordsN ((b.drop 48).take (4 * numAt 2 b 30)), mendN base rs, numAt 4 b 40, b.getD 29 0⟩
        else .error (28, 200)
theorem bodyN_ge (s : St) (base : List Nat) : 20 ≤ (bodyN s base).length := by
  simp [bodyN, leW_length]; omega
theorem clean_head (dig delta mark sum : Nat) (q : List Nat) : cleanN (headN dig delta mark sum ++ q) = headN dig delta mark 0 ++ q := by
  have e : ∀ t, headN dig delta mark t ++ q = ([83, 65, 86, 33] ++ (leW 4 1 ++ (leW 8 dig ++ (leW 4 delta ++ leW 4 mark)))) ++ (leW 4 t ++ q) := fun t => by
    simp only [headN, List.append_assoc]
  have hl : ([83, 65, 86, 33] ++ (leW 4 1 ++ (leW 8 dig ++ (leW 4 delta ++ leW 4 mark)))).length = 24 := by simp [leW_length]
  unfold cleanN
  rw [List.drop_left' (headN_length ..), e sum, List.take_left' hl, e 0]
  rfl
theorem fileN_length (dig delta mark : Nat) (base : List Nat) (s : St) : (fileN dig delta mark base s).length = 28 + (bodyN s base).length := by
  rw [fileN, List.length_append, headN_length]
/-- The numbers in the head of a save. -/
theorem head_nums (dig delta mark sum : Nat) (hd : dig < 18446744073709551616) (h1 : delta < 4294967296) (hm : mark < 4294967296) (hs : sum < 4294967296) (q : List Nat) :
    (headN dig delta mark sum ++ q).take 4 = [83, 65, 86, 33] ∧ numAt 4 (headN dig delta mark sum ++ q) 4 = 1 ∧ numAt 8 (headN dig delta mark sum ++ q) 8 = dig ∧
    numAt 4 (headN dig delta mark sum ++ q) 16 = delta ∧ numAt 4 (headN dig delta mark sum ++ q) 20 = mark ∧ numAt 4 (headN dig delta mark sum ++ q) 24 = sum := by
  have e : headN dig delta mark sum ++ q = [83, 65, 86, 33] ++ (leW 4 1 ++ (leW 8 dig ++ (leW 4 delta ++ (leW 4 mark ++ (leW 4 sum ++ q))))) := by simp only [headN, List.append_assoc]
  rw [e]
  refine ⟨List.take_left' rfl, numAt_mid 4 1 _ _ _ rfl (by decide), ?_, ?_, ?_, ?_⟩
  · rw [← List.append_assoc]; exact numAt_mid 8 dig _ _ _ (by simp [leW_length]) (by simpa using hd)
  · rw [← List.append_assoc, ← List.append_assoc]; exact numAt_mid 4 delta _ _ _ (by simp [leW_length]) (by simpa using h1)
  · rw [← List.append_assoc, ← List.append_assoc, ← List.append_assoc]; exact numAt_mid 4 mark _ _ _ (by simp [leW_length]) (by simpa using hm)
  · rw [← List.append_assoc, ← List.append_assoc, ← List.append_assoc, ← List.append_assoc]; exact numAt_mid 4 sum _ _ _ (by simp [leW_length]) (by simpa using hs)
theorem look_file (dig delta mark : Nat) (base : List Nat) (s : St) (hd : dig < 18446744073709551616) (h1 : delta ≤ 1) (hm : mark < 4294967296) (h0 : delta = 0 → mark = 0) : lookN (fileN dig delta mark base s) = (0, 0) := by
  have hb := bodyN_ge s base
  have hc := clean_head dig delta mark (sumN (headN dig delta mark 0 ++ bodyN s base)) (bodyN s base)
  have hl := fileN_length dig delta mark base s
  obtain ⟨n1, n2, n3, n4, n5, n6⟩ := head_nums dig delta mark (sumN (headN dig delta mark 0 ++ bodyN s base)) hd (by omega) hm (sumN_lt _) (bodyN s base)
  unfold fileN at hl ⊢
  unfold lookN
  rw [if_neg (by omega), n1, if_neg (by simp), n2, if_neg (by simp), n4, if_neg (by omega), n5, if_neg (fun h => h.2 (h0 h.1)), n6, hc, if_neg (by simp)]
/-- The numbers in a state's own bytes. -/
theorem body_nums (s : St) (hs : s.Small) (base p : List Nat) (hp : p.length = 28) (ho : s.ops.length < 65536) (hr : (runsN base s.data).length < 4294967296) :
    (p ++ bodyN s base).getD 28 0 = s.life ∧ (p ++ bodyN s base).getD 29 0 = s.fault ∧ numAt 2 (p ++ bodyN s base) 30 = s.ops.length ∧ numAt 4 (p ++ bodyN s base) 32 = s.pc ∧ numAt 4 (p ++ bodyN s base) 36 = s.sp ∧
    numAt 4 (p ++ bodyN s base) 40 = s.value ∧ numAt 4 (p ++ bodyN s base) 44 = (runsN base s.data).length ∧ ((p ++ bodyN s base).drop 48).take (4 * s.ops.length) = s.ops.flatMap (leW 4) := by
  unfold bodyN
  refine ⟨?_, ?_, ?_, ?_, ?_, ?_, ?_, ?_⟩
  · rw [List.getD_eq_getElem?_getD, List.getElem?_append_right (by omega), hp]; rfl
  · rw [List.getD_eq_getElem?_getD, List.getElem?_append_right (by omega), hp]; rfl
  · rw [← List.append_assoc]; exact numAt_mid 2 _ _ _ _ (by simp [hp]) (by simpa using ho)
  · rw [← List.append_assoc, ← List.append_assoc]; exact numAt_mid 4 _ _ _ _ (by simp [leW_length, hp]) (by simpa using hs.p)
  · rw [← List.append_assoc, ← List.append_assoc, ← List.append_assoc]; exact numAt_mid 4 _ _ _ _ (by simp [leW_length, hp]) (by simpa using hs.s)
  · rw [← List.append_assoc, ← List.append_assoc, ← List.append_assoc, ← List.append_assoc]; exact numAt_mid 4 _ _ _ _ (by simp [leW_length, hp]) (by simpa using hs.v)
  · rw [← List.append_assoc, ← List.append_assoc, ← List.append_assoc, ← List.append_assoc, ← List.append_assoc]; exact numAt_mid 4 _ _ _ _ (by simp [leW_length, hp]) (by simpa using hr)
  · rw [← List.append_assoc, ← List.append_assoc, ← List.append_assoc, ← List.append_assoc, ← List.append_assoc, ← List.append_assoc, List.drop_left' (by simp [leW_length, hp]), List.take_left' (flat4_length _)]
theorem runs_small {a b : List Nat} (hl : a.length = b.length) (hn : a.length ≤ 65536) : (runsN a b).length ≤ 65536 ∧ ∀ r ∈ runsN a b, r.1 < 4294967296 ∧ r.2.length < 4294967296 := by
  have h := (mend_runs hl).1
  have key : ∀ (rs : List (Nat × List Nat)) (last : Nat), last ≤ a.length → mendOk a.length last rs = true → last + rs.length ≤ a.length ∧ ∀ r ∈ rs, r.1 < 4294967296 ∧ r.2.length < 4294967296 := by
    intro rs
    induction rs with
    | nil => intro last hl _; exact ⟨by simpa using hl, fun r hr => by cases hr⟩
    | cons q rs ih =>
      intro last hlast hq
      simp only [mendOk, Bool.and_eq_true, decide_eq_true_eq] at hq
      obtain ⟨q1, q2, q3, q4⟩ := hq
      obtain ⟨i1, i2⟩ := ih (q.1 + q.2.length) q3 q4
      refine ⟨by rw [List.length_cons]; omega, fun r hr => ?_⟩
      rcases List.mem_cons.1 hr with rfl | hr
      · omega
      · exact i2 r hr
  obtain ⟨k1, k2⟩ := key _ 0 (Nat.zero_le _) h
  exact ⟨by omega, k2⟩
/-- What was saved is read as it. -/
theorem taken_file (dig delta mark : Nat) (base : List Nat) (s : St) (hd : dig < 18446744073709551616) (h1 : delta ≤ 1) (hm : mark < 4294967296) (h0 : delta = 0 → mark = 0) (hs : s.Small) (ho : s.ops.length < 65536)
    (hl : base.length = s.data.length) (hn : base.length ≤ 65536) : takenN (fileN dig delta mark base s) dig delta mark base = .ok s := by
  obtain ⟨hr, hr2⟩ := runs_small hl hn
  have hlook := look_file dig delta mark base s hd h1 hm h0
  obtain ⟨n1, n2, n3, n4, n5, n6⟩ := head_nums dig delta mark (sumN (headN dig delta mark 0 ++ bodyN s base)) hd (by omega) hm (sumN_lt _) (bodyN s base)
  obtain ⟨m1, m2, m3, m4, m5, m6, m7, m8⟩ := body_nums s hs base (headN dig delta mark (sumN (headN dig delta mark 0 ++ bodyN s base))) (headN_length ..) ho (by omega)
  obtain ⟨r1, r2⟩ := mend_runs hl
  have hrd : rdRuns (fileN dig delta mark base s) (runsN base s.data).length (48 + 4 * s.ops.length) [] = some (runsN base s.data) := by
    have e : fileN dig delta mark base s = (headN dig delta mark (sumN (headN dig delta mark 0 ++ bodyN s base)) ++ ([s.life, s.fault] ++ (leW 2 s.ops.length ++ (leW 4 s.pc ++ (leW 4 s.sp ++ (leW 4 s.value ++ (leW 4 (runsN base s.data).length ++ s.ops.flatMap (leW 4)))))))) ++ ((runsN base s.data).flatMap runB ++ []) := by
      simp only [fileN, bodyN, List.append_assoc, List.append_nil]
    have h2 := rdRuns_flat [] (runsN base s.data) (headN dig delta mark (sumN (headN dig delta mark 0 ++ bodyN s base)) ++ ([s.life, s.fault] ++ (leW 2 s.ops.length ++ (leW 4 s.pc ++ (leW 4 s.sp ++ (leW 4 s.value ++ (leW 4 (runsN base s.data).length ++ s.ops.flatMap (leW 4)))))))) [] hr2
    rw [← e] at h2
    have e3 : (headN dig delta mark (sumN (headN dig delta mark 0 ++ bodyN s base)) ++ ([s.life, s.fault] ++ (leW 2 s.ops.length ++ (leW 4 s.pc ++ (leW 4 s.sp ++ (leW 4 s.value ++ (leW 4 (runsN base s.data).length ++ s.ops.flatMap (leW 4)))))))).length = 48 + 4 * s.ops.length := by
      simp only [List.length_append, headN_length, leW_length, flat4_length, List.length_cons, List.length_nil]; omega
    rw [e3] at h2
    exact h2
  have hlen : ¬ (fileN dig delta mark base s).length < 48 + 4 * s.ops.length := by
    rw [fileN_length]
    simp only [bodyN, List.length_append, leW_length, flat4_length, List.length_cons, List.length_nil]; omega
  have hst : (⟨s.life, s.pc, s.sp, s.ops, s.data, s.value, s.fault⟩ : St) = s := rfl
  unfold takenN
  rw [hlook, if_neg (by simp)]
  rw [← fileN] at n1 n2 n3 n4 n5 n6 m1 m2 m3 m4 m5 m6 m7 m8
  rw [n3, if_neg (by simp), n4, if_neg (by simp), n5, if_neg (by simp), m3, if_neg hlen, m7, hrd]
  simp only
  rw [r1, if_neg (by simp), m1, m2, m4, m5, m6, m8, wordsN_flat _ hs.o, r2, hst, if_pos rfl]
/-- Where Look takes bytes, it takes none with one byte turned. -/
theorem look_turned {b : List Nat} (hb : ∀ x ∈ b, x < 256) (h : (lookN b).2 = 0) {k x : Nat} (hk : k < b.length) (hx : x < 256) (hne : x ≠ b.getD k 0) : (lookN (b.set k x)).2 ≠ 0 := by
  intro h2
  have key : ∀ c : List Nat, (lookN c).2 = 0 → 48 ≤ c.length ∧ numAt 4 c 24 = sumN (cleanN c) := by
    intro c hc
    unfold lookN at hc
    split at hc
    · simp at hc
    split at hc
    · simp at hc
    split at hc
    · simp at hc
    split at hc
    · simp at hc
    split at hc
    · simp at hc
    split at hc
    · simp at hc
    · rename_i g1 _ _ _ _ g2
      exact ⟨by omega, by simpa using g2⟩
  obtain ⟨l1, e1⟩ := key b h
  obtain ⟨l2, e2⟩ := key _ h2
  have hgk : b.getD k 0 < 256 := by
    rw [List.getD_eq_getElem?_getD, List.getElem?_eq_getElem hk]; exact hb _ (List.getElem_mem _)
  by_cases c1 : 24 ≤ k ∧ k < 28
  · have ec : cleanN (b.set k x) = cleanN b := by
      unfold cleanN
      rw [List.take_set_of_le (by omega), List.drop_set_of_lt (by omega)]
    rw [ec, ← e1] at e2
    have hw : ∀ c : List Nat, (∀ y ∈ c, y < 256) → 48 ≤ c.length → leW 4 (numAt 4 c 24) = (c.drop 24).take 4 := fun c hc hl => by
      have := leW_deW ((c.drop 24).take 4) (fun y hy => hc y (List.mem_of_mem_drop (List.mem_of_mem_take hy)))
      rw [show ((c.drop 24).take 4).length = 4 from by simp; omega] at this
      exact this
    have hw1 := hw b hb l1
    have hw2 := hw (b.set k x) (fun y hy => by
      rcases List.mem_or_eq_of_mem_set hy with h | h
      · exact hb y h
      · rw [h]; exact hx) l2
    rw [e2, hw1] at hw2
    have := congrArg (fun l => l.getD (k - 24) 0) hw2
    simp only [List.getD_eq_getElem?_getD, List.getElem?_take, List.getElem?_drop] at this
    rw [show 24 + (k - 24) = k from by omega, List.getElem?_set_self (by omega), if_pos (by omega), if_pos (by omega)] at this
    rw [List.getD_eq_getElem?_getD] at hne
    exact hne this.symm
  · have hn : numAt 4 (b.set k x) 24 = numAt 4 b 24 := by
      unfold numAt
      congr 1
      refine List.ext_getElem? fun j => ?_
      rw [List.getElem?_take, List.getElem?_take]
      by_cases hj : j < 4
      · rw [if_pos hj, if_pos hj, List.getElem?_drop, List.getElem?_drop, List.getElem?_set_ne (by omega)]
      · rw [if_neg hj, if_neg hj]
    rw [hn, e1] at e2
    have ec : ∃ k', k' < (cleanN b).length ∧ (cleanN b).getD k' 0 = b.getD k 0 ∧ cleanN (b.set k x) = (cleanN b).set k' x := by
      have l24 : (b.take 24).length = 24 := by rw [List.length_take]; omega
      by_cases c2 : k < 24
      · refine ⟨k, by simp [cleanN]; omega, ?_, ?_⟩
        · unfold cleanN
          rw [List.getD_eq_getElem?_getD, List.getElem?_append_left (by omega), List.getElem?_take, if_pos c2, ← List.getD_eq_getElem?_getD]
        · unfold cleanN
          rw [List.drop_set_of_lt (by omega), List.set_append_left _ _ (by omega), List.take_set]
      · refine ⟨k, by simp [cleanN]; omega, ?_, ?_⟩
        · unfold cleanN
          rw [List.getD_eq_getElem?_getD, List.getElem?_append_right (by omega), l24, List.getElem?_append_right (by simp; omega), List.getElem?_drop, List.getD_eq_getElem?_getD]
          congr 2
          simp; omega
        · unfold cleanN
          rw [List.take_set_of_le (by omega), List.set_append_right _ _ (by omega), l24, List.set_append_right _ _ (by simp; omega), List.drop_set, if_neg (by omega)]
          congr 3
    obtain ⟨k', k1, k2, k3⟩ := ec
    rw [k3] at e2
    exact sumN_set k1 hx (by rw [k2]; exact hgk) (by rw [k2]; exact hne) e2.symm
end Go.Proofs.YtgpicmiaanapkaaGreat
/- An image's canonical bytes: plain. -/
namespace Go.Proofs.YtgpicmiaanapkaaGreat
set_option linter.unusedVariables false
def byN (s : ByteArray) : List Nat := s.data.toList.map (·.toNat)
def nameB (n : ByteArray × Nat) : List Nat := le4 n.2 ++ ([n.1.size % 256] ++ byN n.1)
def namesB (lx : List (ByteArray × Nat)) : List Nat := lx.flatMap nameB
/-- Bytes with a word laid over them. -/
def withN (b : List Nat) (at_ x : Nat) : List Nat := b.take at_ ++ (le4 x ++ b.drop (at_ + 4))
theorem withN_length {b : List Nat} {at_ x : Nat} (h : at_ + 4 ≤ b.length) : (withN b at_ x).length = b.length := by
  simp only [withN, List.length_append, List.length_take, List.length_drop, le4_length]; omega
def partsI (m : Img) : List (List Nat) := [encode m.code, le4s m.js, m.data, namesB m.lx]
/-- Spans one behind the other. -/
def spansL : Nat → List Nat → List (Nat × Nat)
  | _, [] => []
  | a, n :: l => (a, n) :: spansL (a + n) l
def headI (m : Img) : List Nat := [80, 69, 78, 33] ++ le4s [1, 0, m.code.length]
def rawI (m : Img) : List Nat := headI m ++ ((spansL 64 ((partsI m).map List.length)).flatMap (fun s => le4s [s.1, s.2]) ++ (le4s [m.zero, m.stack, 0, 0] ++ (partsI m).flatMap id))
def sealedN (b : List Nat) : List Nat := withN (withN b 8 0) 8 (sumN (withN b 8 0))
def imgB (m : Img) : List Nat := sealedN (rawI m)
def digN (m : Img) : Nat := sumN (imgB m) * 4294967296 + (imgB m).length
end Go.Proofs.YtgpicmiaanapkaaGreat
