import Derived.Test.YtgpicmiaanapkaaGreatFoldCoversZ6
import Derived.Scope
import Derived.Deep.RegionHeld3
import Derived.Test.YtgpicmiaanapkaaGreatFoldCoversZ4
import Derived.Test.YtgpicmiaanapkaaGreatFoldCoversZ5
import Derived.Deep.DrawnRows
import Derived.Test.YtgpicmiaanapkaaGreatFoldCoversZ2
/- (*graph).walk. -/
namespace Go.Proofs.YtgpicmiaanapkaaGreat
open Go.RowKit
set_option linter.unusedVariables false
attribute [local go_sem ↓ high] run_mx3
theorem cells421 {W : World} {q : Nat} {a b c d e f : Value} {t : TypeId} (h : W.heap[q]? = some (.cells #[a, b, c, d, e, f] t (0, 0))) : W.cell? ⟨q, 0, none⟩ = some a ∧ W.cell? ⟨q, 1, none⟩ = some b ∧ W.cell? ⟨q, 2, none⟩ = some c ∧ W.cell? ⟨q, 3, none⟩ = some d ∧ W.cell? ⟨q, 4, none⟩ = some e ∧ W.cell? ⟨q, 5, none⟩ = some f ∧ ∀ k, W.frozen? ⟨q, k, none⟩ = false := by
  refine ⟨by simp [World.cell?, h], by simp [World.cell?, h], by simp [World.cell?, h], by simp [World.cell?, h], by simp [World.cell?, h], by simp [World.cell?, h], fun k => by simp [World.frozen?, h]⟩
theorem row_of_alloc {w1 w5 : World} {o : Obj} (h : Below (w1.alloc o).drew.heap.size (w1.alloc o).drew w5) : w5.heap[w1.heap.size]? = some o :=
  (h.block w1.heap.size (by simp)).trans (heap_alloc_new w1 o)
theorem six {W : World} {q : Nat} {a b c d e f a' b' c' d' e' f' : Value} (h3 : W.cell? ⟨q, 3, none⟩ = some d) (h4 : W.cell? ⟨q, 4, none⟩ = some e) (h5 : W.cell? ⟨q, 5, none⟩ = some f) :
    let W6 := (((((W.setCell ⟨q, 0, none⟩ a').setCell ⟨q, 1, none⟩ b').setCell ⟨q, 2, none⟩ c').setCell ⟨q, 3, none⟩ d').setCell ⟨q, 4, none⟩ e').setCell ⟨q, 5, none⟩ f'
    W6.cell? ⟨q, 3, none⟩ = some d' ∧ W6.cell? ⟨q, 4, none⟩ = some e' ∧ W6.cell? ⟨q, 5, none⟩ = some f' := by
  refine ⟨by simp [go_sem, h3], by simp [go_sem, h4], by simp [go_sem, h5]⟩
theorem sixN (W : World) (a b c d e f : Value) (t : TypeId) : (W.alloc (.cells #[a, b, c, d, e, f] t)).cell? ⟨W.heap.size, 3, none⟩ = some d ∧ (W.alloc (.cells #[a, b, c, d, e, f] t)).cell? ⟨W.heap.size, 4, none⟩ = some e ∧ (W.alloc (.cells #[a, b, c, d, e, f] t)).cell? ⟨W.heap.size, 5, none⟩ = some f :=
  ⟨by simp [go_sem], by simp [go_sem], by simp [go_sem]⟩
theorem HpTo.grown {w wr w1 : World} {p g : Nat} {v v' : Value} {l : List Nat} (hg : w.grownBy wr (some g)) (hh : HpAt wr w.heap.size p v l) (ht : HpTo wr w1 p v v') : w.grownBy w1 (some g) :=
  ⟨ht.os.trans hg.os, ht.tape.trans hg.tape, ht.output.trans hg.output, Nat.le_trans hg.size ht.size, fun k hk hne => (ht.block k (Nat.lt_of_lt_of_le hk hg.size) (by have := hh.hp; omega) (fun e => by have := (hh.o.lt k e).1; omega)).trans (hg.block k hk hne)⟩
theorem next_len {code : List (Nat × Nat)} {js : List Nat} (h : FindOk code js []) (i : Nat) : (nextN code js i).length ≤ 16384 := by
  unfold nextN
  split
  · simp
  · split
    · split <;> simp
    · split
      · simp
      · split
        · unfold tgtsAt
          split
          · exact h.rows _
          · simp
        · simp
theorem bs567n (x : Int) (w : World) : (Instr.buildSlice 567 1 #[(0, .int .i64 x)]).run Tryz.prog w = .ok (.slice (some ⟨w.heap.size, 0, none⟩) 1 1) (w.alloc (.cells #[.int .i64 x] 3)) := bs567 x w
set_option maxRecDepth 100000 in
set_option maxHeartbeats 4000000 in
theorem walk_any {w0 w : World} {B gg bb : Nat} {uc uj : Value} {code : List (Nat × Nat)} {js : List Nat} (hG : GraphAt w0 B gg bb uc uj code js) (hb : Below w0.heap.size w0 w) (hok : FindOk code js [])
    (hlt : ∀ k, (code.getD k (0, 0)).1 < 256 ∧ (code.getD k (0, 0)).2 < 4294967296) {g c : Nat} {D : List Int} (hD : w.ownsRow w0.heap.size 3 1 (.slice (some ⟨g, 0, none⟩) code.length c) code.length (encZ D)) (hDb : Deps D) (a : Nat) (ha : a < code.length) :
    Calls Tryz.prog 372 #[.pointer (some ⟨gg, 0, none⟩), .int .i64 a, .slice (some ⟨g, 0, none⟩) code.length c] w fun e w' =>
      ∃ D', e = .returned (.tuple #[.int .i64 (walkN code js (code.length + 1) (D.set a 0) [a] 0).2.1, .int .i64 (walkN code js (code.length + 1) (D.set a 0) [a] 0).2.2.1, .int .i64 (walkN code js (code.length + 1) (D.set a 0) [a] 0).2.2.2]) ∧
      w'.ownsRow w0.heap.size 3 1 (.slice (some ⟨g, 0, none⟩) code.length c) code.length (encZ D') ∧ Deps D' ∧ w.grownBy w' (some g) ∧ ((walkN code js (code.length + 1) (D.set a 0) [a] 0).2.2.2 = 0 → D' = (walkN code js (code.length + 1) (D.set a 0) [a] 0).1) := by
  obtain ⟨R, hR⟩ : ∃ R, R = walkN code js (code.length + 1) (D.set a 0) [a] 0 := ⟨_, rfl⟩
  rw [← hR]
  have hDl := own_ilen hD
  have hcl := encRes_short hok.he
  have hgl : g < w.heap.size := (hD.lt g rfl).2
  have hgb : w0.heap.size ≤ g := (hD.lt g rfl).1
  have HR := Lib.hid hR
  have H := Lib.hid hD
  have hai : (a : Int) < (code.length : Int) := by omega
  have ha0 : (0 : Int) ≤ (a : Int) := by omega
  have hbs := bs567n
  have hne : w.heap.size ≠ g := by omega
  have hne2 : w.heap.size + 1 ≠ g := by omega
  have hc1 : ∃ u, w.cell? ⟨g, a, none⟩ = some u := ⟨_, own_int hD ha⟩
  obtain ⟨u0, hu0⟩ := hc1
  have hf0 := hD.frozenAt a
  clear hD hR
  go_enter Tryz.func372, Tryz.ntmps372
  go_wp2_with fail
  refine wp_scope_straight ?_
  go_wp2_with fail
  refine wp_label ?_
  have f1 := (H.out.stored a (.int .i64 0))
  rw [encZ_set] at f1
  have F1 := Lib.hid (own_below (own_below f1.1 (Bel.new _ (.cells #[.int .i64 a] 3))) (Bel.new _ (.cells #[.slice (some ⟨w.heap.size, 0, none⟩) 1 1] 567)))
  have F2 : HpAt (((w.setCell ⟨g, a, none⟩ (.int .i64 0)).alloc (.cells #[.int .i64 a] 3)).alloc (.cells #[.slice (some ⟨w.heap.size, 0, none⟩) 1 1] 567)) w.heap.size (w.heap.size + 1) (.slice (some ⟨w.heap.size, 0, none⟩) 1 1) [a] := by
    refine ⟨by simp [go_sem], by simp [go_sem], ⟨rfl, .inr ⟨w.heap.size, 1, #[.int .i64 a], rfl, Nat.le_refl _, ?_, Nat.le_refl _, by decide, rfl, rfl⟩⟩, ?_, by omega⟩
    · rw [Below.heap_alloc _ _ _ (by simp)]
      have := heap_alloc_new (w.setCell ⟨g, a, none⟩ (.int .i64 0)) (.cells #[.int .i64 a] 3)
      simpa using this
    · intro e; simp only [Value.ownBlock, Option.some.injEq] at e; omega
  have F3 := Lib.hid (grownBy_trans (grownBy_trans f1.2 (World.grownBy_alloc _ (.cells #[.int .i64 a] 3) none) (fun k e => by cases e)) (World.grownBy_alloc _ (.cells #[.slice (some ⟨w.heap.size, 0, none⟩) 1 1] 567) none) (fun k e => by cases e))
  have HF2 := Lib.hid F2
  clear F2 f1 H
  generalize (((w.setCell ⟨g, a, none⟩ (.int .i64 0)).alloc (.cells #[.int .i64 a] 3)).alloc (.cells #[.slice (some ⟨w.heap.size, 0, none⟩) 1 1] 567)) = W1 at *
  have hD0 : Deps (D.set a 0) := hDb.set a (by decide) (by decide)
  have hn0 : neg (D.set a 0) ≤ code.length := by
    have := neg_le (D.set a 0); rw [List.length_set, hDl] at this; exact this
  have hd0 : 0 ≤ (D.set a 0).getD a (-1) := by rw [getD_setZ, if_pos ⟨rfl, by omega⟩]; decide
  generalize D.set a 0 = D0 at *
  clear hu0 hf0 hDb
  go_wp2_with fail
  go_loopw [10, 12] (fun xm xe wr => ∃ (f : Nat) (m : Int) (Dm : List Int) (l : List Nat) (v : Value), xm = .int .i64 m ∧ xe = .int .i64 0 ∧ wr.ownsRow w0.heap.size 3 1 (.slice (some ⟨g, 0, none⟩) code.length c) code.length (encZ Dm) ∧
    HpAt wr w.heap.size (w.heap.size + 1) v l ∧ w.grownBy wr (some g) ∧ IsHeap l ∧ Deps Dm ∧ (∀ i ∈ l, i < code.length ∧ 0 ≤ Dm.getD i (-1)) ∧ l.length + neg Dm ≤ f ∧ f ≤ code.length + 1 ∧ walkN code js f Dm l m = R) (fun _ _ w' => musl w' (w.heap.size + 1) g code.length)
  case atStart => exact ⟨code.length + 1, 0, D0, [a], _, rfl, rfl, F1.out, HF2.out, F3.out, fun k hk0 hk => by simp at hk; omega, hD0, fun i hi => by rw [List.mem_singleton.1 hi]; exact ⟨ha, hd0⟩, by simp; omega, Nat.le_refl _, HR.out.symm⟩
  case round =>
    obtain ⟨f, m, Dm, l, v, rfl, rfl, hown, hhp, hgr, hheap, hdep, hin, hf1, hf2, hw⟩ := hrel
    obtain ⟨hva, hvc, hv, -⟩ := own_sl hhp.o
    subst hv
    have hpc := hhp.c
    have HOWN := Lib.hid hown
    have HHP := Lib.hid hhp
    have HGR := Lib.hid hgr
    have HW := Lib.hid hw
    by_cases hl0 : l.length = 0
    · have hle : l = [] := List.eq_nil_of_length_eq_zero hl0
      subst hle
      have hRm : R = (Dm, m, 0, 0) := by
        rw [← HW.out]; cases f <;> simp [walkN]
      have HRM := Lib.hid hRm
      clear hown hhp hgr hw hRm HR hn0 hd0 hD0
      go_wp2_with (go_at_call 435; refine (len_any _ _ _ _).mono ?_; rintro e w' ⟨rfl, rfl⟩)
      try simp only [Exit.noGoto]
      go_ret3
      rw [HRM.out]
      exact ⟨Dm, rfl, HOWN.out, hdep, HGR.out, fun _ => rfl⟩
    · obtain ⟨f, rfl⟩ : ∃ f', f = f' + 1 := ⟨f - 1, by omega⟩
      have hlen : l.length ≤ 16385 := by omega
      have hl1 : 0 < l.length := by omega
      have hmin : minN l = l.getD 0 0 := by
        refine minN_unique (l := l) ?_ (fun y hy => popL_least hheap hy)
        have e : l.getD 0 0 = l[0] := by rw [List.getD_eq_getElem?_getD, List.getElem?_eq_getElem hl1]; rfl
        rw [e]; exact List.getElem_mem _
      have hpop := popL_perm hl1
      have hph := popL_heap hheap hl1
      have hne0 : l ≠ [] := fun e => hl0 (by rw [e]; rfl)
      have hmem := minN_mem hne0
      obtain ⟨x, hx⟩ : ∃ x, x = l.getD 0 0 := ⟨_, rfl⟩
      have hPop := pop_h hhp hl1 (by omega)
      rw [← hx] at hPop hmin hpop
      rw [hmin] at hmem
      have hxi := hin x hmem
      have hperm : (l.erase x).Perm (popL l) := by
        have := (hpop.symm.erase x); rwa [List.erase_cons_head] at this
      have hpin : ∀ i ∈ popL l, i ∈ l := fun i hi => hpop.mem_iff.1 (List.mem_cons_of_mem _ hi)
      have hwx := hw
      unfold walkN at hwx
      rw [if_neg hne0, hmin] at hwx
      have hpl : (popL l).length = l.length - 1 := popL_length l
      obtain ⟨d, hd⟩ : ∃ d, d = Dm.getD x (-1) := ⟨_, rfl⟩
      have hdx := hdep x
      rw [← hd] at hdx hxi hwx
      have HPOP := Lib.hid hPop
      have HWX := Lib.hid hwx
      have HPERM := Lib.hid hperm
      have HD := Lib.hid hd
      have hgt : (0 : Int) < (l.length : Int) := by omega
      have hmi := fun W => (rfl : (Instr.makeInterface 566 (.pointer (some ⟨w.heap.size + 1, 0, none⟩))).run Tryz.prog W = (Instr.makeInterface 566 (.pointer (some ⟨w.heap.size + 1, 0, none⟩))).run Tryz.prog W)
      have hta := ta3
      clear hown hhp hgr hw HR hn0 hd0 hD0 hPop hwx hperm hpop hmin hmem hheap HW hd hx hmi
      go_wp2_with (go_at_call 435; refine (len_any _ _ _ _).mono ?_; rintro e w' ⟨rfl, rfl⟩)
      refine HPOP.out.mono ?_
      rintro e w1 ⟨rfl, v1, hh1, ht1⟩
      have hbw : Below w0.heap.size w0 wr := hb.trans (grown_belowB HGR.out hb.size hgb)
      have hb1 : Below w0.heap.size w0 w1 := hbw.trans (ht1.below hbw.size (by have := hb.size; omega) (fun q e => by have := HHP.out.o.lt q e; have := hb.size; omega))
      have ho1 := ht1.own HHP.out HOWN.out hgl
      have hg1 : w.grownBy w1 (some g) := HpTo.grown HGR.out HHP.out ht1
      have HG1 := Lib.hid (hG.below hb1)
      have HH1 := Lib.hid hh1
      have HT1 := Lib.hid ht1
      have HO1 := Lib.hid ho1
      have HB1 := Lib.hid hb1
      have HGR1 := Lib.hid hg1
      clear hh1 ht1 ho1 hb1 hg1 hbw
      have hcx : w1.cell? ⟨g, x, none⟩ = some (.int .i64 d) := by rw [HD.out]; exact own_int HO1.out hxi.1
      have HS0 := Lib.hid (show w1.drew.cell? ⟨g, x, none⟩ = some (.int .i64 d) ∧ Below w1.heap.size w1 w1.drew from ⟨hcx, (Below.refl _ _).drew⟩)
      have HINF := Lib.hid (fun (W : World) (hS : W.cell? ⟨g, x, none⟩ = some (.int .i64 d) ∧ Below w1.heap.size w1 W) => (show Calls Tryz.prog 437 #[.pointer (some ⟨gg, 0, none⟩), .int .i64 x] W fun e w' => e = .returned (rowVal (opAt code x)) ∧ (w'.cell? ⟨g, x, none⟩ = some (.int .i64 d) ∧ Below w1.heap.size w1 w') ∧ Below W.heap.size W w' from
        (ginfo_any (HG1.out.below hS.2) x hxi.1 (hlt x).1).mono fun e w' h => ⟨h.1, ⟨(h.2.cell (p := ⟨g, x, none⟩) (World.block_lt_of_cell? _ _ hS.1)).trans hS.1, Bel.tr hS.2 h.2⟩, h.2⟩))
      have HK := Lib.hid (fun (W : World) (o : Obj) (hS : W.cell? ⟨g, x, none⟩ = some (.int .i64 d) ∧ Below w1.heap.size w1 W) => (show (W.alloc o).cell? ⟨g, x, none⟩ = some (.int .i64 d) ∧ Below w1.heap.size w1 (W.alloc o) from ⟨cell_al hS.1 o, Bel.al hS.2 o⟩))
      have HKa := Lib.hid (fun (o : Obj) => (show (w1.alloc o).drew.cell? ⟨g, x, none⟩ = some (.int .i64 d) ∧ Below w1.heap.size w1 (w1.alloc o).drew from ⟨cell_al hcx o, (Bel.new w1 o).drew⟩))
      have hxl : g < w1.heap.size := by have := HGR1.out.size; omega
      have HK2 := Lib.hid (fun (W : World) (k : Nat) (u : Value) (hS : W.cell? ⟨g, x, none⟩ = some (.int .i64 d) ∧ Below w1.heap.size w1 W) => (show (W.setCell ⟨w1.heap.size, k, none⟩ u).cell? ⟨g, x, none⟩ = some (.int .i64 d) ∧ Below w1.heap.size w1 (W.setCell ⟨w1.heap.size, k, none⟩ u) from
        ⟨(World.cell?_setCell_other _ _ _ _ (by first | (simp; done) | (simp; omega))).trans hS.1, hS.2.trans ⟨rfl, rfl, rfl, by rw [World.size_setCell]; exact Nat.le_refl _, fun j hj => Below.heap_setCell _ _ _ _ (by simp; omega)⟩⟩))
      unfold rowVal rowCells at HINF
      have htg := takes_le (opAt code x)
      unfold depFault at HWX
      generalize kindOf (opAt code x) = K at *
      generalize opAt code x = o at *
      generalize wordOf o = wd at *
      generalize widthOf o = wi at *
      generalize mostOf o = mo at *
      generalize takesOf o = ta at *
      generalize givesOf o = gi at *
      have hxn : (x : Int) < (code.length : Int) := by omega
      have hx0 : (0 : Int) ≤ (x : Int) := by omega
      clear hcx
      have hz := zero26
      unfold zeroRow at hz
      go_wp2_with fail
      go_region_held3 (fun w' => w'.cell? ⟨g, x, none⟩ = some (.int .i64 d) ∧ Below w1.heap.size w1 w')
        (first | (with_reducible assumption) | (with_reducible exact HS0.out) | (with_reducible exact HKa.out _) | (with_reducible exact HK.out _ _ (by assumption)) | (with_reducible exact HK2.out _ 5 _ (HK2.out _ 4 _ (HK2.out _ 3 _ (HK2.out _ 2 _ (HK2.out _ 1 _ (HK2.out _ 0 _ (by assumption))))))))
        (first | (go_at_call 437; refine (HINF.out _ ?_).mono ?_; assumption; rintro e w5 ⟨rfl, hS5, hb5⟩; with_reducible have hrow := row_of_alloc hb5; have hcs := cells421 hrow; clear hrow; obtain ⟨hq0, hq1, hq2, hq3, hq4, hq5, hfr⟩ := hcs; have hf0 := hfr 0; have hf1 := hfr 1; have hf2 := hfr 2; have hf3 := hfr 3; have hf4 := hfr 4; have hf5 := hfr 5; clear hfr hb5) | (go_at_call 437; refine (HINF.out _ ?_).mono ?_; assumption; rintro e w5 ⟨rfl, hS5, hb5⟩; clear hb5) | fail)
      all_goals
        first
        | (have h6 := six (a := .int .i64 0) (b := .int .i64 0) (c := .int .i64 0) (a' := .string ⟨wd.toArray⟩) (b' := .int .i64 wi) (c' := .int .u32 mo) (d' := .int .i64 ta) (e' := .int .i64 gi) (f' := .int .u8 K) hq3 hq4 hq5
           have hb6 := (HK2.out _ 5 (.int .u8 K) (HK2.out _ 4 (.int .i64 gi) (HK2.out _ 3 (.int .i64 ta) (HK2.out _ 2 (.int .u32 mo) (HK2.out _ 1 (.int .i64 wi) (HK2.out _ 0 (.string ⟨wd.toArray⟩) hS5)))))).2
           clear hq0 hq1 hq2 hq3 hq4 hq5 hf0 hf1 hf2 hf3 hf4 hf5
           generalize ((((((w5.setCell { block := w1.heap.size, off := 0 } (Value.string { data := wd.toArray })).setCell { block := w1.heap.size, off := 1 } (Value.int IntKind.i64 ↑wi)).setCell { block := w1.heap.size, off := 2 } (Value.int IntKind.u32 ↑mo)).setCell { block := w1.heap.size, off := 3 } (Value.int IntKind.i64 ↑ta)).setCell { block := w1.heap.size, off := 4 } (Value.int IntKind.i64 ↑gi)).setCell { block := w1.heap.size, off := 5 } (Value.int IntKind.u8 ↑K)) = W6 at *
           obtain ⟨q, hq⟩ : ∃ q, q = w1.heap.size := ⟨_, rfl⟩
           have hqge : w1.heap.size ≤ q := by omega
           rw [← hq] at h6 ⊢
           have HQ := Lib.hid hq
           clear hq)
        | (have h6 := sixN w5 (.string ⟨wd.toArray⟩) (.int .i64 wi) (.int .u32 mo) (.int .i64 ta) (.int .i64 gi) (.int .u8 K) 421
           have hb6 := (HK.out _ (.cells #[.string ⟨wd.toArray⟩, .int .i64 wi, .int .u32 mo, .int .i64 ta, .int .i64 gi, .int .u8 K] 421) hS5).2
           generalize (w5.alloc (Obj.cells #[Value.string { data := wd.toArray }, Value.int IntKind.i64 ↑wi, Value.int IntKind.u32 ↑mo, Value.int IntKind.i64 ↑ta, Value.int IntKind.i64 ↑gi, Value.int IntKind.u8 ↑K] 421)) = W6 at *
           obtain ⟨q, hq⟩ : ∃ q, q = w5.heap.size := ⟨_, rfl⟩
           have hqge : w1.heap.size ≤ q := by have := hS5.2.size; omega
           rw [← hq] at h6 ⊢
           have HQ := Lib.hid hq
           clear hq)
        obtain ⟨hc3, hc4, hc5⟩ := h6
        have HB6 := Lib.hid hb6
        clear hS5 hb6
        have HO6 := Lib.hid (own_below HO1.out HB6.out)
        have HGR6 := Lib.hid (HGR1.out.trans (below_grownBy HB6.out (some g)))
        have HH6 := Lib.hid (HH1.out.below HB6.out)
        have HG6 := Lib.hid (HG1.out.below HB6.out)
        by_cases c1 : d < (ta : Int)
        · have hRe : R = (Dm, 0, x, 140) := by rw [← HWX.out, if_pos c1]; rfl
          have HRE := Lib.hid hRe
          clear hRe
          go_wp2_with fail
          try simp only [Exit.noGoto]
          go_ret3
          rw [HRE.out]
          exact ⟨Dm, rfl, HO6.out, hdep, HGR6.out, fun h => absurd h (by simp)⟩
        · by_cases c2 : (64 : Int) < d - ta + gi
          · have hRe : R = (Dm, 0, x, 141) := by rw [← HWX.out, if_neg c1, if_pos c2]; rfl
            have HRE := Lib.hid hRe
            clear hRe
            go_wp2_with fail
            try simp only [Exit.noGoto]
            go_ret3
            rw [HRE.out]
            exact ⟨Dm, rfl, HO6.out, hdep, HGR6.out, fun h => absurd h (by simp)⟩
          · by_cases c3 : K = 7 ∧ d ≠ 1
            · have hRe : R = (Dm, 0, x, 143) := by rw [← HWX.out, if_neg c1, if_neg c2, if_pos c3]; rfl
              have HRE := Lib.hid hRe
              obtain ⟨rfl, hd1⟩ := c3
              clear hRe
              go_wp2_with fail
              try simp only [Exit.noGoto]
              go_ret3
              rw [HRE.out]
              exact ⟨Dm, rfl, HO6.out, hdep, HGR6.out, fun h => absurd h (by simp)⟩
            · obtain ⟨nn, hnn⟩ : ∃ nn : Int, nn = d - ta + gi := ⟨_, rfl⟩
              obtain ⟨L, hL⟩ : ∃ L, L = nextN code js x := ⟨_, rfl⟩
              have hwl := HWX.out
              rw [if_neg c1, if_neg c2, if_neg c3, if_neg (by decide), ← hnn, ← hL] at hwl
              have HN := Lib.hid (next_any HG6.out hok x hxi.1 hlt)
              rw [← hL] at HN
              have hLt : ∀ t ∈ L, t < code.length := fun t ht => hok.next_lt hxi.1 (by rw [← hL]; exact ht)
              have hLlen : L.length ≤ 16384 := by rw [hL]; exact next_len hok x
              obtain ⟨MM, hMM⟩ : ∃ MM, MM = markN nn L Dm (l.erase x) := ⟨_, rfl⟩
              rw [← hMM] at hwl
              have HMM := Lib.hid hMM
              clear hMM
              have HWL := Lib.hid hwl
              have HL := Lib.hid hL
              have HNN := Lib.hid hnn
              have hnb : 0 ≤ nn ∧ nn ≤ 64 := by omega
              have hc3 : (K ≠ 7 ∧ ((K : Int) == 7) = false ∧ ¬ (K : Int) = 7) ∨ (K = 7 ∧ d = 1) := by
                by_cases h7 : K = 7
                · exact .inr ⟨h7, by omega⟩
                · exact .inl ⟨h7, by simp; omega, by omega⟩
              clear hwl hL c3
              rcases hc3 with ⟨hK, hK2, hK3⟩ | ⟨rfl, rfl⟩
              all_goals
                go_wp2_with fail
                refine HN.out.mono ?_
                rintro e w7 ⟨vL, rfl, hoL, hb7⟩
                obtain ⟨va, vc, rfl, -, -, hvs⟩ := own_sl hoL
                have HOL := Lib.hid hoL
                have HB7 := Lib.hid hb7
                have HO7 := Lib.hid (own_below HO6.out hb7)
                have HGR7 := Lib.hid (HGR6.out.trans (below_grownBy hb7 (some g)))
                have HH7 := Lib.hid (HH6.out.below hb7)
                have HVS := Lib.hid hvs
                clear hoL hb7 hvs hc3 hc4 hc5
                go_wp2_with fail
                go_loopw [12, 71] (fun xe xi w8 => ∃ (k : Nat) (D1 : List Int) (l1 : List Nat) (v1 : Value) (Q : List Nat), xe = .int .i64 0 ∧ xi = .int .i64 k ∧ k ≤ L.length ∧ w8.ownsRow w0.heap.size 3 1 (.slice (some ⟨g, 0, none⟩) code.length c) code.length (encZ D1) ∧
                  HpAt w8 w.heap.size (w.heap.size + 1) v1 l1 ∧ w.grownBy w8 (some g) ∧ IsHeap l1 ∧ Deps D1 ∧ (∀ i ∈ l1, i < code.length ∧ 0 ≤ D1.getD i (-1)) ∧ l1.length + neg D1 + 1 = l.length + neg Dm ∧
                  Q.Perm l1 ∧ markN nn (L.drop k) D1 Q = MM ∧ (∀ lq, va = some ⟨lq, 0, none⟩ → 0 < L.length → lq < w8.heap.size ∧ v1.ownBlock ≠ some lq ∧ ∀ j, j < (encN .u32 L).length → w8.cell? ⟨lq, j, none⟩ = (encN .u32 L)[j]?)) (fun _ xi _ => L.length - (intOf xi).toNat)
                case atStart => exact ⟨0, Dm, popL l, v1, l.erase x, rfl, rfl, Nat.zero_le _, HO7.out, HH7.out, HGR7.out, hph, hdep, fun i hi => hin i (hpin i hi), by omega, HPERM.out, by rw [List.drop_zero]; exact HMM.out.symm, fun lq e hL0 => by
                    obtain ⟨lq', e', h1, h2⟩ := HVS.out hL0
                    rw [e] at e'
                    cases e'
                    have h3 := (HOL.out.lt lq (by rw [e]; rfl)).1
                    exact ⟨h1, fun e2 => by have := HH1.out.o.lt lq e2; have := HB6.out.size; omega, h2⟩⟩
                case round =>
                  obtain ⟨k, D1, l1, v1', Q, rfl, rfl, hk, ho8, hh8, hg8, hp8, hd8, hi8, hm8, hq8, hmk, hlc⟩ := hrel
                  have HO8 := Lib.hid ho8
                  have HH8 := Lib.hid hh8
                  have HG8 := Lib.hid hg8
                  have HLC := Lib.hid hlc
                  have HMK := Lib.hid hmk
                  by_cases hkl : k < L.length
                  · obtain ⟨t, ht⟩ : ∃ t, t = L.getD k 0 := ⟨_, rfl⟩
                    have htm : t ∈ L := by
                      have e : L.getD k 0 = L[k] := by rw [List.getD_eq_getElem?_getD, List.getElem?_eq_getElem hkl]; rfl
                      rw [ht, e]; exact List.getElem_mem _
                    have htc := hLt t htm
                    have hdr : L.drop k = t :: L.drop (k + 1) := by
                      rw [List.drop_eq_getElem_cons hkl, ht, List.getD_eq_getElem?_getD, List.getElem?_eq_getElem hkl]; rfl
                    rw [hdr] at hmk
                    unfold markN at hmk
                    obtain ⟨lq, hva, -⟩ := HVS.out (by omega)
                    subst hva
                    have hlq := HLC.out lq rfl (by omega)
                    have hct : wr.cell? ⟨lq, k, none⟩ = some (.int .u32 t) := by
                      rw [hlq.2.2 k (by rw [encN_length]; exact hkl), ht]; exact encN_at .u32 L k hkl
                    have hcy := own_int ho8 htc
                    have hfy := ho8.frozenAt t
                    obtain ⟨y, hy⟩ : ∃ y, y = D1.getD t (-1) := ⟨_, rfl⟩
                    rw [← hy] at hcy hmk
                    have hyb := hd8 t
                    rw [← hy] at hyb
                    have HY := Lib.hid hy
                    have HT := Lib.hid ht
                    have hkk : (k : Int) < (L.length : Int) := by omega
                    have hk0 : (0 : Int) ≤ (k : Int) := by omega
                    have htt : (t : Int) < (code.length : Int) := by omega
                    have ht0 : (0 : Int) ≤ (t : Int) := by omega
                    have ht32 : (t : Int) ≤ 16384 := by omega
                    clear ho8 hh8 hg8 hlc hy ht
                    by_cases ha1 : 0 ≤ y ∧ y ≠ nn
                    · rw [if_pos ha1] at hmk
                      have hRe : R = (Dm, 0, x, 142) := by rw [← HWL.out, ← hmk]
                      have HRE := Lib.hid hRe
                      have hyn := ha1.2
                      rw [HNN.out] at hyn
                      have hy0 := ha1.1
                      clear hRe hmk
                      go_wp2_with fail
                      try simp only [Exit.noGoto]
                      go_ret3
                      rw [HRE.out]
                      exact ⟨D1, rfl, HO8.out, hd8, HG8.out, fun h => absurd h (by simp)⟩
                    · rw [if_neg ha1] at hmk
                      by_cases hy0 : y < 0
                      · rw [if_pos hy0] at hmk
                        have HMK2 := Lib.hid hmk
                        have hyn : ¬ 0 ≤ y := by omega
                        have hlqo := (HOL.out.lt lq rfl).1
                        have hpw := World.block_lt_of_cell? _ _ HH1.out.c
                        have hw6 := HB6.out.size
                        have HLQ := Lib.hid (show w1.heap.size ≤ lq ∧ w.heap.size + 1 < w1.heap.size from ⟨by omega, hpw⟩)
                        have hs9 := HO8.out.stored t (.int .i64 nn)
                        rw [encZ_set] at hs9
                        have hh9 := HH8.out.setOther g t hgl (.int .i64 nn)
                        have hpu := push_h hh9 t (by omega)
                        have HS9 := Lib.hid hs9
                        have HH9 := Lib.hid hh9
                        have HY0 := Lib.hid hy0
                        rw [HNN.out] at hpu
                        have HPU := Lib.hid hpu
                        clear hmk hs9 hh9 hpu hlqo hpw hw6
                        go_wp2_with fail
                        refine HPU.out.mono ?_
                        rintro e w9 ⟨⟨u, rfl⟩, v2, h9, t9⟩
                        rw [← HNN.out] at t9
                        have H9 := Lib.hid h9
                        have T9 := Lib.hid t9
                        clear h9 t9
                        go_wp2_with fail
                        go_roundw
                        case rel =>
                          have hpl9 := pushL_perm l1 t
                          have hns := neg_set (D := D1) (t := t) (x := nn) (by rw [own_ilen HO8.out]; exact htc) (by rw [← HY.out]; exact HY0.out) hnb.1
                          refine ⟨k + 1, D1.set t nn, pushL l1 t, v2, t :: Q, rfl, by go_num, by omega, T9.out.own HH9.out HS9.out.1 hgl, H9.out, HpTo.grown (HG8.out.trans HS9.out.2) HH9.out T9.out, pushL_heap hp8 t, hd8.set t (by omega) hnb.2, fun i hi => ?_, ?_, (hq8.cons t).trans hpl9.symm, HMK2.out, fun lq' e h0 => ?_⟩
                          · rw [getD_setZ]
                            rcases List.mem_cons.1 (hpl9.mem_iff.1 hi) with rfl | hi
                            · exact ⟨htc, by rw [if_pos ⟨rfl, by rw [own_ilen HO8.out]; exact htc⟩]; exact hnb.1⟩
                            · refine ⟨(hi8 i hi).1, ?_⟩
                              split
                              · exact hnb.1
                              · exact (hi8 i hi).2
                          · have := hpl9.length_eq
                            rw [List.length_cons] at this
                            omega
                          · cases e
                            have hz := HLC.out lq rfl h0
                            have hlz := HLQ.out
                            have hsz := T9.out.size
                            rw [World.size_setCell] at hsz
                            refine ⟨by omega, fun e2 => ?_, fun j hj => ?_⟩
                            · rcases T9.out.fresh lq e2 with h5 | h5
                              · exact hz.2.1 h5
                              · rw [World.size_setCell] at h5; omega
                            · rw [T9.out.cell (l := l1) (B := w.heap.size) (by rw [World.size_setCell]; exact hz.1) (by omega) hz.2.1 j]
                              rw [World.cell?_setCell_other _ _ _ _ (by first | (simp; done) | (simp; omega))]
                              exact hz.2.2 j hj
                        case measure => simp [intOf]; omega
                      · rw [if_neg hy0] at hmk
                        have HMK2 := Lib.hid hmk
                        have hyn : y = nn := by omega
                        rw [HNN.out] at hyn
                        have hy1 : 0 ≤ y := by omega
                        clear hmk
                        go_wp2_with fail
                        go_roundw
                        case rel => exact ⟨k + 1, D1, l1, v1', Q, rfl, by go_num, by omega, HO8.out, HH8.out, HG8.out, hp8, hd8, hi8, hm8, hq8, HMK2.out, HLC.out⟩
                        case measure => simp [intOf]; omega
                  · obtain rfl : k = L.length := by omega
                    clear ho8 hh8 hg8 hlc hmk
                    go_wp2_with fail
                    go_roundw
                    case rel =>
                      refine ⟨f, _, D1, l1, v1', rfl, rfl, HO8.out, HH8.out, HG8.out, hp8, hd8, hi8, by omega, by omega, ?_⟩
                      have h1 := HMK.out
                      rw [List.drop_of_length_le (Nat.le_refl _)] at h1
                      have h2 := HWL.out
                      rw [← h1, HNN.out] at h2
                      rw [← walkN_perm code js f D1 _ hq8]
                      exact h2
                    case measure =>
                      rw [musl_at HH8.out HO8.out, musl_at HHP.out HOWN.out]
                      omega
end Go.Proofs.YtgpicmiaanapkaaGreat
/- The depths of all procedures: plain. -/
namespace Go.Proofs.YtgpicmiaanapkaaGreat
set_option linter.unusedVariables false
/-- The procedures' beginnings, one behind the other; what is kept: depths, the most of each, where it failed, the error. -/
def depthsN (code : List (Nat × Nat)) (js : List Nat) : List Nat → List Int → List Int → List Int × List Int × Nat × Nat
  | [], D, ms => (D, ms, 0, 0)
  | a :: qs, D, ms =>
    if (walkN code js (code.length + 1) (D.set a 0) [a] 0).2.2.2 ≠ 0 then
      ([], [], (walkN code js (code.length + 1) (D.set a 0) [a] 0).2.2.1, (walkN code js (code.length + 1) (D.set a 0) [a] 0).2.2.2)
    else depthsN code js qs (walkN code js (code.length + 1) (D.set a 0) [a] 0).1 (ms ++ [(walkN code js (code.length + 1) (D.set a 0) [a] 0).2.1])
/-- What flow.Depths answers of a code that Find takes. -/
def flowN (code : List (Nat × Nat)) (js : List Nat) : List Int × List Int × Nat × Nat :=
  depthsN code js ((psTo code code.length).map (·.1)) (List.replicate code.length (-1)) []
theorem deps_none (n : Nat) : Deps (List.replicate n (-1)) := by
  intro t
  rw [List.getD_eq_getElem?_getD, List.getElem?_replicate]
  split <;> simp
theorem encZ_none (n : Nat) : encZ (List.replicate n (-1)) = List.replicate n (.int .i64 (-1)) := by simp [encZ]
end Go.Proofs.YtgpicmiaanapkaaGreat
/- The depths that the walk finds hang together: plain. -/
namespace Go.Proofs.YtgpicmiaanapkaaGreat
set_option linter.unusedVariables false
theorem FindOk.next_of {code : List (Nat × Nat)} {js : List Nat} (h : FindOk code js []) {i t : Nat} (hi : i < code.length) (ht : t ∈ nextN code js i) : t < code.length ∧ (ofTo code code.length).getD t 0 = (ofTo code code.length).getD i 0 := by
  unfold nextN opAt argAt at ht
  split at ht
  · rename_i hk
    have := h.goes i hi (by omega)
    rw [List.mem_singleton.1 ht]; exact this
  · split at ht
    · rename_i hk
      have h1 := h.goes i hi (by omega)
      have h2 := h.target i hi (.inr hk)
      have h3 : t = i + 1 ∨ t = (code.getD i (0, 0)).2 := by
        split at ht
        · exact .inl (List.mem_singleton.1 ht)
        · simp only [List.mem_cons, List.not_mem_nil, or_false] at ht
          omega
      rcases h3 with rfl | rfl
      · exact h1
      · exact ⟨h2.1, h2.2.1⟩
    · split at ht
      · rename_i hk
        have h2 := h.target i hi (.inl hk)
        rw [List.mem_singleton.1 ht]; exact ⟨h2.1, h2.2.1⟩
      · split at ht
        · unfold tgtsAt at ht
          split at ht
          · rename_i hr
            have e : (ofN (ofTo code code.length) i).toNat = (ofTo code code.length).getD i 0 := by
              unfold ofN at hr ⊢
              split
              · simp
              · rename_i hq
                rw [if_neg hq] at hr
                omega
            rw [e] at ht
            have := h.legal ht
            exact ⟨this.1, this.2.1⟩
          · cases ht
        · cases ht
/-- The depth behind an instruction. -/
def behN (code : List (Nat × Nat)) (D : List Int) (i : Nat) : Int := D.getD i (-1) - takesOf (opAt code i) + givesOf (opAt code i)
/-- An instruction whose depth is right, with those behind it; no deeper than M. -/
structure Closed (code : List (Nat × Nat)) (js : List Nat) (D : List Int) (i : Nat) (M : Int) : Prop where
  f : depFault (opAt code i) (D.getD i (-1)) = 0
  nx : ∀ t ∈ nextN code js i, D.getD t (-1) = behN code D i
  m1 : D.getD i (-1) ≤ M
  m2 : behN code D i ≤ M
/-- D' has what D has. -/
def Ext (D D' : List Int) : Prop := D'.length = D.length ∧ ∀ x, 0 ≤ D.getD x (-1) → D'.getD x (-1) = D.getD x (-1)
theorem Ext.refl (D : List Int) : Ext D D := ⟨rfl, fun _ _ => rfl⟩
theorem Ext.trans {D D1 D2 : List Int} (h : Ext D D1) (h2 : Ext D1 D2) : Ext D D2 :=
  ⟨h2.1.trans h.1, fun x hx => (h2.2 x (by rw [h.2 x hx]; exact hx)).trans (h.2 x hx)⟩
theorem depFault_zero {o : Nat} {d : Int} (h : depFault o d = 0) : (takesOf o : Int) ≤ d ∧ d - takesOf o + givesOf o ≤ 64 ∧ (kindOf o = 7 → d = 1) := by
  unfold depFault at h
  split at h
  · cases h
  split at h
  · cases h
  split at h
  · cases h
  · rename_i h1 h2 h3
    exact ⟨by omega, by omega, fun e => by omega⟩
theorem Closed.ext {code : List (Nat × Nat)} {js : List Nat} {D D' : List Int} {i : Nat} {M M' : Int} (h : Closed code js D i M) (hi : 0 ≤ D.getD i (-1)) (he : Ext D D') (hM : M ≤ M') : Closed code js D' i M' := by
  have e := he.2 i hi
  have hf := depFault_zero h.f
  have eb : behN code D' i = behN code D i := by unfold behN; rw [e]
  refine ⟨by rw [e]; exact h.f, fun t ht => ?_, by rw [e]; have := h.m1; omega, by rw [eb]; have := h.m2; omega⟩
  rw [eb, ← h.nx t ht]
  refine he.2 t ?_
  rw [h.nx t ht]
  unfold behN
  omega
theorem markN_spec {n : Int} (hn : 0 ≤ n) : ∀ (ts : List Nat) (D : List Int) (P : List Nat) (D' : List Int) (P' : List Nat), markN n ts D P = some (D', P') → (∀ t ∈ ts, t < D.length) →
    Ext D D' ∧ (∀ t ∈ ts, D'.getD t (-1) = n) ∧ (∀ x, D.getD x (-1) < 0 → 0 ≤ D'.getD x (-1) → x ∈ P' ∧ x ∈ ts) ∧ (∀ x ∈ P, x ∈ P') ∧ (∀ x ∈ P', x ∈ P ∨ x ∈ ts) ∧ P'.length + neg D' = P.length + neg D
  | [], D, P, D', P', h, _ => by
    cases h
    exact ⟨Ext.refl _, fun t ht => (by cases ht), fun x h1 h2 => by omega, fun x hx => hx, fun x hx => .inl hx, rfl⟩
  | t :: ts, D, P, D', P', h, hl => by
    unfold markN at h
    have ht := hl t (List.mem_cons_self ..)
    split at h
    · cases h
    rename_i h1
    split at h
    · rename_i h2
      obtain ⟨e1, e2, e3, e4, e5, e6⟩ := markN_spec hn ts (D.set t n) (t :: P) D' P' h (fun x hx => by rw [List.length_set]; exact hl x (List.mem_cons_of_mem _ hx))
      have hsn : (D.set t n).getD t (-1) = n := by rw [getD_setZ, if_pos ⟨rfl, ht⟩]
      have hse : Ext D (D.set t n) := ⟨by simp, fun x hx => by rw [getD_setZ, if_neg (fun e => by rw [e.1] at hx; omega)]⟩
      have hDt : D'.getD t (-1) = n := (e1.2 t (by rw [hsn]; exact hn)).trans hsn
      refine ⟨hse.trans e1, fun x hx => ?_, fun x hx1 hx2 => ?_, fun x hx => e4 x (List.mem_cons_of_mem _ hx), fun x hx => ?_, ?_⟩
      · rcases List.mem_cons.1 hx with rfl | hx
        · exact hDt
        · exact e2 x hx
      · by_cases e : x = t
        · subst e; exact ⟨e4 x (List.mem_cons_self ..), List.mem_cons_self ..⟩
        · have := e3 x (by rw [getD_setZ, if_neg (fun h => e h.1)]; exact hx1) hx2
          exact ⟨this.1, List.mem_cons_of_mem _ this.2⟩
      · rcases e5 x hx with h5 | h5
        · rcases List.mem_cons.1 h5 with rfl | h5
          · exact .inr (List.mem_cons_self ..)
          · exact .inl h5
        · exact .inr (List.mem_cons_of_mem _ h5)
      · have := neg_set ht h2 hn
        rw [e6, List.length_cons]; omega
    · rename_i h2
      obtain ⟨e1, e2, e3, e4, e5, e6⟩ := markN_spec hn ts D P D' P' h (fun x hx => hl x (List.mem_cons_of_mem _ hx))
      have hDt : D.getD t (-1) = n := by omega
      refine ⟨e1, fun x hx => ?_, fun x hx1 hx2 => ?_, e4, fun x hx => ?_, e6⟩
      · rcases List.mem_cons.1 hx with rfl | hx
        · rw [e1.2 x (by omega)]; exact hDt
        · exact e2 x hx
      · have := e3 x hx1 hx2
        exact ⟨this.1, List.mem_cons_of_mem _ this.2⟩
      · rcases e5 x hx with h5 | h5
        · exact .inl h5
        · exact .inr (List.mem_cons_of_mem _ h5)
theorem walkN_spec {code : List (Nat × Nat)} {js : List Nat} (Q : Nat → Prop) (hQ : ∀ i t, i < code.length → Q i → t ∈ nextN code js i → t < code.length ∧ Q t) :
    ∀ (f : Nat) (D : List Int) (P : List Nat) (m : Int), P.length + neg D < f → D.length = code.length → (∀ i ∈ P, i < code.length ∧ Q i ∧ 0 ≤ D.getD i (-1)) → (walkN code js f D P m).2.2.2 = 0 →
    Ext D (walkN code js f D P m).1 ∧ m ≤ (walkN code js f D P m).2.1 ∧
    (∀ i, (i ∈ P ∨ (D.getD i (-1) < 0 ∧ 0 ≤ (walkN code js f D P m).1.getD i (-1))) → Q i ∧ Closed code js (walkN code js f D P m).1 i (walkN code js f D P m).2.1)
  | 0, D, P, m, hf, _, _, _ => by omega
  | f + 1, D, P, m, hf, hl, hP, he => by
    by_cases hp : P = []
    · subst hp
      have hw : walkN code js (f + 1) D [] m = (D, m, 0, 0) := by unfold walkN; rw [if_pos rfl]
      rw [hw]
      exact ⟨Ext.refl _, Int.le_refl _, fun i hi => by
        rcases hi with hi | ⟨h1, h2⟩
        · cases hi
        · simp only at h2; omega⟩
    · have hmem := minN_mem hp
      obtain ⟨p1, p2, p3⟩ := hP _ hmem
      have hunf : walkN code js (f + 1) D P m = if depFault (opAt code (minN P)) (D.getD (minN P) (-1)) ≠ 0 then (D, 0, minN P, depFault (opAt code (minN P)) (D.getD (minN P) (-1))) else
        match markN (behN code D (minN P)) (nextN code js (minN P)) D (P.erase (minN P)) with
        | none => (D, 0, minN P, 142)
        | some (D', P') => walkN code js f D' P' (max (max m (D.getD (minN P) (-1))) (behN code D (minN P))) := by
        rw [walkN, if_neg hp]; rfl
      rw [hunf] at he ⊢
      generalize hx : minN P = x at *
      by_cases hfa : depFault (opAt code x) (D.getD x (-1)) = 0
      · rw [if_neg (by simpa using hfa)] at he ⊢
        obtain ⟨f1, f2, f3⟩ := depFault_zero hfa
        have hb0 : 0 ≤ behN code D x := by unfold behN; omega
        have hnl : ∀ t ∈ nextN code js x, t < D.length := fun t ht => by rw [hl]; exact (hQ x t p1 p2 ht).1
        cases hmk : markN (behN code D x) (nextN code js x) D (P.erase x) with
        | none => rw [hmk] at he; simp at he
        | some DP =>
          obtain ⟨D1, P1⟩ := DP
          rw [hmk] at he
          simp only at he ⊢
          obtain ⟨e1, e2, e3, e4, e5, e6⟩ := markN_spec hb0 _ _ _ _ _ hmk hnl
          have hel := List.length_erase_of_mem hmem
          have hpos := List.length_pos_of_mem hmem
          have hP1 : ∀ i ∈ P1, i < code.length ∧ Q i ∧ 0 ≤ D1.getD i (-1) := fun i hi => by
            rcases e5 i hi with h5 | h5
            · obtain ⟨q1, q2, q3⟩ := hP i (List.mem_of_mem_erase h5)
              exact ⟨q1, q2, by rw [e1.2 i q3]; exact q3⟩
            · obtain ⟨q1, q2⟩ := hQ x i p1 p2 h5
              exact ⟨q1, q2, by rw [e2 i h5]; exact hb0⟩
          obtain ⟨r1, r2, r3⟩ := walkN_spec Q hQ f D1 P1 (max (max m (D.getD x (-1))) (behN code D x)) (by omega) (e1.1.trans hl) hP1 he
          refine ⟨e1.trans r1, by omega, fun i hi => ?_⟩
          by_cases hix : i = x
          · subst hix
            refine ⟨p2, ?_⟩
            have hc : Closed code js D1 i (max (max m (D.getD i (-1))) (behN code D i)) := by
              have ed := e1.2 i p3
              have eb : behN code D1 i = behN code D i := by unfold behN; rw [ed]
              refine ⟨by rw [ed]; exact hfa, fun t ht => by rw [e2 t ht, eb], by rw [ed]; omega, by rw [eb]; omega⟩
            exact hc.ext (by rw [e1.2 i p3]; exact p3) r1 r2
          · refine r3 i ?_
            rcases hi with hi | ⟨h1, h2⟩
            · exact .inl (e4 i ((List.mem_erase_of_ne hix).2 hi))
            · by_cases h3 : 0 ≤ D1.getD i (-1)
              · exact .inl (e3 i h1 h3).1
              · exact .inr ⟨by omega, h2⟩
      · rw [if_pos hfa] at he
        exact absurd he hfa
/-- The depths hang together. -/
structure FlowOk (code : List (Nat × Nat)) (js : List Nat) (D ms : List Int) : Prop where
  dl : D.length = code.length
  ml : ms.length = (psTo code code.length).length
  beg : ∀ j, j < ms.length → D.getD ((psTo code code.length).getD j (0, 0, 0)).1 (-1) = 0
  m0 : ∀ j, j < ms.length → 0 ≤ ms.getD j 0
  cl : ∀ i, i < code.length → 0 ≤ D.getD i (-1) → Closed code js D i (ms.getD ((ofTo code code.length).getD i 0) 0)
theorem depthsN_spec {code : List (Nat × Nat)} {js : List Nat} (h : FindOk code js []) : ∀ (qs : List Nat) (D ms : List Int), D.length = code.length →
    (∀ j, j < qs.length → qs.getD j 0 = ((psTo code code.length).getD (ms.length + j) (0, 0, 0)).1) → ms.length + qs.length = (psTo code code.length).length →
    (∀ j, j < ms.length → D.getD ((psTo code code.length).getD j (0, 0, 0)).1 (-1) = 0) → (∀ j, j < ms.length → 0 ≤ ms.getD j 0) →
    (∀ i, i < code.length → 0 ≤ D.getD i (-1) → (ofTo code code.length).getD i 0 < ms.length ∧ Closed code js D i (ms.getD ((ofTo code code.length).getD i 0) 0)) →
    (depthsN code js qs D ms).2.2.2 = 0 → FlowOk code js (depthsN code js qs D ms).1 (depthsN code js qs D ms).2.1
  | [], D, ms, hl, _, hml, hb, hm, hc, _ => ⟨hl, (show ms.length = _ from by simpa using hml), hb, hm, fun i hi h0 => (hc i hi h0).2⟩
  | a :: qs, D, ms, hl, hq, hml, hb, hm, hc, he => by
    unfold depthsN at he ⊢
    have ha : a = ((psTo code code.length).getD ms.length (0, 0, 0)).1 := hq 0 (by simp)
    rw [List.length_cons] at hml
    have hr : ms.length < (psTo code code.length).length := by omega
    have hbd := h.tl.bd ms.length hr
    have hal : a < code.length := by rw [ha]; omega
    have hoa : (ofTo code code.length).getD a 0 = ms.length := by rw [ha]; exact h.tl.mid ms.length hr _ (Nat.le_refl _) hbd.1
    have hDa : D.getD a (-1) < 0 := by
      by_cases h1 : 0 ≤ D.getD a (-1)
      · have := (hc a hal h1).1; omega
      · omega
    split at he
    · rename_i hw; exact absurd he hw
    rename_i hw
    have hw0 : (walkN code js (code.length + 1) (D.set a 0) [a] 0).2.2.2 = 0 := by simpa using hw
    rw [if_neg hw]
    have hsa : (D.set a 0).getD a (-1) = 0 := by rw [getD_setZ, if_pos ⟨rfl, by omega⟩]
    have hneg := neg_set (D := D) (t := a) (x := 0) (by omega) hDa (Int.le_refl _)
    have hnl := neg_le D
    obtain ⟨r1, r2, r3⟩ := walkN_spec (code := code) (js := js) (fun i => (ofTo code code.length).getD i 0 = ms.length) (fun i t hi hQ ht => by
        have := h.next_of hi ht
        exact ⟨this.1, this.2.trans hQ⟩) (code.length + 1) (D.set a 0) [a] 0 (by simp; omega) (by rw [List.length_set]; exact hl)
        (fun i hi => by
          rw [List.mem_singleton.1 hi]
          exact ⟨hal, hoa, by rw [hsa]; exact Int.le_refl _⟩) hw0
    generalize walkN code js (code.length + 1) (D.set a 0) [a] 0 = R at *
    have hse : Ext D (D.set a 0) := ⟨by simp, fun x hx => by rw [getD_setZ, if_neg (fun e => by rw [e.1] at hx; omega)]⟩
    have hE := hse.trans r1
    have hget : ∀ j, (ms ++ [R.2.1]).getD j 0 = if j < ms.length then ms.getD j 0 else if j = ms.length then R.2.1 else 0 := fun j => getD_snoc ms R.2.1 0 j
    refine depthsN_spec h qs R.1 (ms ++ [R.2.1]) (hE.1.trans hl) (fun j hj => ?_) (by simp; omega) (fun j hj => ?_) (fun j hj => ?_) (fun i hi h0 => ?_) he
    · have := hq (j + 1) (by simp; omega)
      simp only [List.getD_cons_succ] at this
      rw [this]; congr 2; simp; omega
    · simp only [List.length_append, List.length_cons, List.length_nil] at hj
      by_cases e : j = ms.length
      · subst e; rw [← ha, r1.2 a (by rw [hsa]; exact Int.le_refl _), hsa]
      · have hb1 := hb j (by omega)
        rw [hE.2 _ (by rw [hb1]; exact Int.le_refl _), hb1]
    · simp only [List.length_append, List.length_cons, List.length_nil] at hj
      rw [hget]
      split
      · exact hm j (by assumption)
      · rw [if_pos (by omega)]; exact r2
    · by_cases h1 : 0 ≤ D.getD i (-1)
      · obtain ⟨c1, c2⟩ := hc i hi h1
        refine ⟨by rw [List.length_append]; omega, ?_⟩
        rw [hget, if_pos c1]
        exact c2.ext h1 hE (Int.le_refl _)
      · have h2 : i ∈ [a] ∨ ((D.set a 0).getD i (-1) < 0 ∧ 0 ≤ R.1.getD i (-1)) := by
          by_cases e : i = a
          · subst e; exact .inl (List.mem_singleton.2 rfl)
          · exact .inr ⟨by rw [getD_setZ, if_neg (fun h => e h.1)]; omega, h0⟩
        obtain ⟨q1, q2⟩ := r3 i h2
        refine ⟨by rw [q1]; simp, ?_⟩
        rw [q1, hget, if_neg (Nat.lt_irrefl _), if_pos rfl]
        exact q2
theorem flowN_spec {code : List (Nat × Nat)} {js : List Nat} (h : FindOk code js []) (he : (flowN code js).2.2.2 = 0) : FlowOk code js (flowN code js).1 (flowN code js).2.1 := by
  unfold flowN at he ⊢
  refine depthsN_spec h _ _ [] (by simp) (fun j hj => ?_) (by simp) (fun j hj => by simp at hj) (fun j hj => by simp at hj) (fun i hi h0 => ?_) he
  · rw [List.length_map] at hj
    rw [List.getD_eq_getElem?_getD, List.getElem?_map, List.getElem?_eq_getElem hj, List.getD_eq_getElem?_getD, List.length_nil, Nat.zero_add, List.getElem?_eq_getElem hj]
    rfl
  · exfalso
    rw [List.getD_eq_getElem?_getD, List.getElem?_replicate, if_pos hi] at h0
    simp at h0
end Go.Proofs.YtgpicmiaanapkaaGreat
/- flow's depths of all procedures. -/
namespace Go.Proofs.YtgpicmiaanapkaaGreat
open Go.RowKit
set_option linter.unusedVariables false
attribute [local go_sem] Oper.semAt_some
/-- What the rounds over the procedures keep. -/
structure DpsI (w : World) (code : List (Nat × Nat)) (js : List Nat) (R : List Int × List Int × Nat × Nat) (S B b gg : Nat) (vp : Value) (n : Nat) (A : World) : Prop where
  bel : Below w.heap.size w A
  box : A.cell? ⟨w.heap.size, 0, none⟩ = some (.pointer (some ⟨gg, 0, none⟩))
  kn : KnP B (S + 2) b vp (psTo code code.length) A
  r2 : A.cell? ⟨w.heap.size + 1, 0, none⟩ = some (.slice none 0 0)
  r3 : A.cell? ⟨w.heap.size + 2, 0, none⟩ = some (.slice none 0 0)
  r4 : A.cell? ⟨w.heap.size + 3, 0, none⟩ = some (.int .i64 0)
  r5 : A.cell? ⟨w.heap.size + 4, 0, none⟩ = some (.int .i64 0)
  f2 : A.frozen? ⟨w.heap.size + 1, 0, none⟩ = false
  f3 : A.frozen? ⟨w.heap.size + 2, 0, none⟩ = false
  f4 : A.frozen? ⟨w.heap.size + 3, 0, none⟩ = false
  f5 : A.frozen? ⟨w.heap.size + 4, 0, none⟩ = false
  lt : S + 2 < A.heap.size
  st : ∃ (D ms : List Int) (g c : Nat) (vm : Value), A.cell? ⟨S, 0, none⟩ = some (.slice (some ⟨g, 0, none⟩) code.length c) ∧ A.cell? ⟨S + 1, 0, none⟩ = some vm ∧ A.frozen? ⟨S + 1, 0, none⟩ = false ∧
    A.ownsRow w.heap.size 3 1 (.slice (some ⟨g, 0, none⟩) code.length c) code.length (encZ D) ∧ A.ownsRow w.heap.size 3 1 vm ms.length (encZ ms) ∧ Deps D ∧ ms.length = n ∧
    depthsN code js (((psTo code code.length).map (·.1)).drop n) D ms = R ∧ w.heap.size + 5 < g ∧ g < S ∧ (∀ q, vm.ownBlock = some q → S + 2 < q)
theorem DpsI.calm {w A C : World} {code : List (Nat × Nat)} {js : List Nat} {R : List Int × List Int × Nat × Nat} {S B b gg : Nat} {vp : Value} {n : Nat} (h : DpsI w code js R S B b gg vp n A) {m : Nat} (hm : w.heap.size ≤ m) (k : Calm m A C) : DpsI w code js R S B b gg vp n C := by
  obtain ⟨D, ms, g, c, vm, s1, s2, s3, s4, s5, s6, s7, s8, s9, s10, s11⟩ := h.st
  exact ⟨Calm.below h.bel ⟨k.os, k.tape, k.output, k.size, k.cells, fun i hi => k.block i (by omega)⟩, k.cell h.box, ⟨k.cell h.kn.1, k.cell h.kn.2.1, k.own h.kn.2.2⟩, k.cell h.r2, k.cell h.r3, k.cell h.r4, k.cell h.r5,
    (k.frozen h.r2).trans h.f2, (k.frozen h.r3).trans h.f3, (k.frozen h.r4).trans h.f4, (k.frozen h.r5).trans h.f5, Nat.lt_of_lt_of_le h.lt k.size,
    D, ms, g, c, vm, k.cell s1, k.cell s2, (k.frozen s2).trans s3, k.own s4, k.own s5, s6, s7, s8, s9, s10, s11⟩
/-- What depths answers. -/
def DpsPost (R : List Int × List Int × Nat × Nat) (w : World) (e : Ending) (w' : World) : Prop :=
  Below w.heap.size w w' ∧ ((R.2.2.2 ≠ 0 ∧ e = .returned (.tuple #[.slice none 0 0, .slice none 0 0, .int .i64 R.2.2.1, .int .i64 R.2.2.2])) ∨
    (R.2.2.2 = 0 ∧ ∃ vd vm, e = .returned (.tuple #[vd, vm, .int .i64 0, .int .i64 0]) ∧ w'.ownsRow w.heap.size 3 1 vd R.1.length (encZ R.1) ∧ w'.ownsRow w.heap.size 3 1 vm R.2.1.length (encZ R.2.1)))
/-- How the rounds end where one finds a fault. -/
def DpsX (w : World) (R : List Int × List Int × Nat × Nat) (c : Code) (A : World) : Prop :=
  c = .ret ∧ Below w.heap.size w A ∧ A.cell? ⟨w.heap.size + 1, 0, none⟩ = some (.slice none 0 0) ∧ A.cell? ⟨w.heap.size + 2, 0, none⟩ = some (.slice none 0 0) ∧
    A.cell? ⟨w.heap.size + 3, 0, none⟩ = some (.int .i64 R.2.2.1) ∧ A.cell? ⟨w.heap.size + 4, 0, none⟩ = some (.int .i64 R.2.2.2) ∧ R.2.2.2 ≠ 0
theorem DpsX.calm {w A C : World} {R : List Int × List Int × Nat × Nat} {c : Code} (h : DpsX w R c A) {m : Nat} (hm : w.heap.size ≤ m) (k : Calm m A C) : DpsX w R c C :=
  ⟨h.1, Calm.below h.2.1 ⟨k.os, k.tape, k.output, k.size, k.cells, fun i hi => k.block i (by omega)⟩, k.cell h.2.2.1, k.cell h.2.2.2.1, k.cell h.2.2.2.2.1, k.cell h.2.2.2.2.2.1, h.2.2.2.2.2.2⟩
theorem own_formB {w : World} {base e sz n : Nat} {v : Value} {xs : List Value} (h : w.ownsRow base e sz v n xs) (hn : 0 < n) : ∃ g cap, v = .slice (some ⟨g, 0, none⟩) n cap ∧ base ≤ g ∧ g < w.heap.size := by
  obtain ⟨hl, h⟩ := h
  rcases h with ⟨rfl, rfl⟩ | ⟨g, cap, cur, rfl, hb, hg, hn, hm, hcs, ht⟩
  · omega
  · exact ⟨g, cap, rfl, hb, (Array.getElem?_eq_some_iff.1 hg).1⟩
theorem own_cells {w : World} {base e sz n : Nat} {v : Value} {xs : List Value} (h : w.ownsRow base e sz v n xs) : ∀ (j : Nat) (o : Obj), v.ownBlock = some j → w.heap[j]? = some o → o.isCells = true := by
  intro j o hj ho
  obtain ⟨hl, h⟩ := h
  rcases h with ⟨rfl, rfl⟩ | ⟨g, cap, cur, rfl, hb, hg, hn, hm, hcs, ht⟩
  · cases hj
  · simp only [Value.ownBlock, Option.some.injEq] at hj
    subst hj
    rw [hg] at ho; cases ho; rfl
theorem own_block {W : World} {B e g n c sz : Nat} {xs : List Value} (h : W.ownsRow B e sz (.slice (some ⟨g, 0, none⟩) n c) n xs) : ∃ cur : Array Value, W.heap[g]? = some (.cells cur e (0, 0)) ∧ B ≤ g := by
  obtain ⟨hl, ⟨h, _⟩ | ⟨g', cap, cur, hv, hb, hg, hn, hm, hcs, ht⟩⟩ := h
  · cases h
  · cases hv; exact ⟨cur, hg, hb⟩
theorem nums_get {ps : List (Nat × Nat × Nat)} {pre rest : List (Nat × Nat × Nat × Nat)} {x : Nat × Nat × Nat × Nat} (h : nums ps = pre ++ x :: rest) : pre.length < ps.length ∧ x.1 = pre.length ∧ ps.getD pre.length (0, 0, 0) = x.2 := by
  have hl : pre.length < ps.length := by rw [← nums_length ps, h]; simp
  have h1 := nums_at ps pre.length hl
  rw [h, List.getElem?_append_right (Nat.le_refl _), Nat.sub_self] at h1
  simp only [List.getElem?_cons_zero, Option.some.injEq] at h1
  exact ⟨hl, by rw [h1], by rw [h1]⟩
set_option maxRecDepth 100000 in
set_option maxHeartbeats 4000000 in
theorem depths_any {w : World} {B gg b : Nat} {uc uj : Value} {code : List (Nat × Nat)} {js : List Nat} (hG : GraphAt w B gg b uc uj code js) (hok : FindOk code js [])
    (hlt : ∀ k, (code.getD k (0, 0)).1 < 256 ∧ (code.getD k (0, 0)).2 < 4294967296) :
    Calls Tryz.prog 284 #[.pointer (some ⟨gg, 0, none⟩)] w (DpsPost (flowN code js) w) := by
  obtain ⟨ac, cc, hac, -, -, -⟩ := own_sl hG.oc
  have hg0 := hG.c0
  have hg2 := hG.c2
  rw [hac] at hg0
  have hgl : gg < w.heap.size := World.block_lt_of_cell? _ _ hG.c0
  obtain ⟨W1, hW1⟩ : ∃ W1, W1 = (((((w.alloc (.cells #[.pointer (some ⟨gg, 0, none⟩)] 408)).alloc (.cells #[.slice none 0 0] 227)).alloc (.cells #[.slice none 0 0] 227)).alloc (.cells #[.int .i64 0] 3)).alloc (.cells #[.int .i64 0] 32)).alloc (.cells #[.int .i64 (-1)] 3) := ⟨_, rfl⟩
  have hbw1 : Below w.heap.size w W1 := by rw [hW1]; exact Bel.al (Bel.al (Bel.al (Bel.al (Bel.al (Bel.new _ _) _) _) _) _) _
  have q0 := (hbw1.cell (p := ⟨gg, 0, none⟩) hgl).trans hg0
  have q2 := (hbw1.cell (p := ⟨gg, 2, none⟩) hgl).trans hg2
  rw [hW1] at q0 q2
  have hcl := encRes_short hok.he
  have h3 := hok.h3
  have HG := Lib.hid hG
  have Hok := Lib.hid hok
  have Hlt := Lib.hid hlt
  have H3 := Lib.hid h3
  obtain ⟨R, hR⟩ : ∃ R, R = flowN code js := ⟨_, rfl⟩
  rw [← hR]
  have HR := Lib.hid hR
  clear hG hok hlt hac h3 hR
  refine (callsIn_wide (n := 9)).1 ?_
  have h1 : (1 : Nat) ≤ 9 := by omega
  refine callsIn_of_wp_marks Tryz.func284 rfl trivial ?_ rfl
  simp only [Tryz.ntmps284, List.size_toArray, List.length_cons, List.length_nil, Nat.reduceAdd, Nat.reduceSub, Array.replicate_succ, Array.replicate_zero, List.push_toArray, List.append_toArray, List.nil_append, List.cons_append]
  gi_wp2_with fail
  rw [← hW1]
  have hx5 : W1.cell? ⟨w.heap.size + 1 + 1 + 1 + 1 + 1, 0, none⟩ = some (.int .i64 (-1)) := by rw [hW1]; simp [go_sem]
  have hs1 : W1.heap.size = w.heap.size + 6 := by rw [hW1]; simp
  have e0 : W1.cell? ⟨w.heap.size, 0, none⟩ = some (.pointer (some ⟨gg, 0, none⟩)) := by rw [hW1]; simp [go_sem]
  have e2 : W1.cell? ⟨w.heap.size + 1, 0, none⟩ = some (.slice none 0 0) := by rw [hW1]; simp [go_sem]
  have e3 : W1.cell? ⟨w.heap.size + 2, 0, none⟩ = some (.slice none 0 0) := by rw [hW1]; simp [go_sem]
  have e4 : W1.cell? ⟨w.heap.size + 3, 0, none⟩ = some (.int .i64 0) := by rw [hW1]; simp [go_sem]
  have e5 : W1.cell? ⟨w.heap.size + 4, 0, none⟩ = some (.int .i64 0) := by rw [hW1]; simp [go_sem]
  have z2 : W1.frozen? ⟨w.heap.size + 1, 0, none⟩ = false := by rw [hW1]; simp [go_sem]
  have z3 : W1.frozen? ⟨w.heap.size + 2, 0, none⟩ = false := by rw [hW1]; simp [go_sem]
  have z4 : W1.frozen? ⟨w.heap.size + 3, 0, none⟩ = false := by rw [hW1]; simp [go_sem]
  have z5 : W1.frozen? ⟨w.heap.size + 4, 0, none⟩ = false := by rw [hW1]; simp [go_sem]
  have HRp := Lib.hid (repeat_any hx5 code.length (by omega))
  have Hbw1 := Lib.hid hbw1
  clear hbw1 hW1 q0 q2 hx5
  refine ⟨trivial, ?_⟩
  refine (callsIn_wide.2 HRp.out).mono ?_
  rintro e w2 ⟨vd, rfl, ho2, hb2⟩
  obtain ⟨ad, cd, rfl, -, -, hpd⟩ := own_sl ho2
  obtain ⟨g, rfl, hgd, -⟩ := hpd H3.out.1
  have hgS : g < w2.heap.size := hgd
  have hg1 : W1.heap.size ≤ g := (ho2.lt g rfl).1
  obtain ⟨S, hS⟩ : ∃ S, S = w2.heap.size := ⟨_, rfl⟩
  have hbw2 : Below w.heap.size w w2 := Bel.tr Hbw1.out hb2
  have hs2 := hb2.size
  obtain ⟨W5, hW5⟩ : ∃ W5, W5 = ((w2.alloc (.cells #[.slice (some ⟨g, 0, none⟩) code.length cd] 227)).alloc (.cells #[.slice none 0 0] 227)) := ⟨_, rfl⟩
  have hb5 : Below w2.heap.size w2 W5 := by rw [hW5]; exact Bel.al (Bel.new _ _) _
  have q0 := ((Bel.tr hbw2 hb5).cell (p := ⟨gg, 2, none⟩) hgl).trans hg2
  have qb := (hb5.cell (p := ⟨w.heap.size, 0, none⟩) (by show w.heap.size < w2.heap.size; omega)).trans ((hb2.cell (p := ⟨w.heap.size, 0, none⟩) (by show w.heap.size < W1.heap.size; omega)).trans e0)
  rw [hW5] at q0 qb
  clear hpd hgd
  gi_wp2_with fail
  rw [← hW5]
  refine ⟨trivial, ?_⟩
  refine (callsIn_wide.2 (all_any _ _)).mono ?_
  rintro e w6 ⟨rfl, rfl⟩
  have hs5 : W5.heap.size = w2.heap.size + 2 := by rw [hW5]; simp
  obtain ⟨W6, hW6⟩ : ∃ W6, W6 = W5.alloc (.cells #[.pointer (some ⟨b, 0, none⟩)] 226) := ⟨_, rfl⟩
  have hb6 : Below w2.heap.size w2 W6 := by rw [hW6]; exact Bel.al hb5 _
  have hbw6 : Below w.heap.size w W6 := Bel.tr hbw2 hb6
  have hb16 : Below W1.heap.size W1 W6 := Bel.tr hb2 hb6
  obtain ⟨B', hB', vp, vo, vt, us, hP⟩ := HG.out.p
  have hI0 : DpsI w code js R w2.heap.size B' b gg vp 0 W6 := by
    have hp := (hP.below hbw6)
    refine ⟨hbw6, ?_, ⟨?_, hp.c0, hp.op⟩, ?_, ?_, ?_, ?_, ?_, ?_, ?_, ?_, ?_, List.replicate code.length (-1), [], g, cd, .slice none 0 0, ?_, ?_, ?_, ?_, World.ownsRow_nil _ _ _ _, deps_none _, rfl, ?_, by omega, hgS, fun q e => by cases e⟩
    · exact (hb16.cell (p := ⟨w.heap.size, 0, none⟩) (by show w.heap.size < W1.heap.size; omega)).trans e0
    · rw [hW6, ← hs5]; simp [go_sem]
    · exact (hb16.cell (p := ⟨w.heap.size + 1, 0, none⟩) (by show w.heap.size + 1 < W1.heap.size; omega)).trans e2
    · exact (hb16.cell (p := ⟨w.heap.size + 2, 0, none⟩) (by show w.heap.size + 2 < W1.heap.size; omega)).trans e3
    · exact (hb16.cell (p := ⟨w.heap.size + 3, 0, none⟩) (by show w.heap.size + 3 < W1.heap.size; omega)).trans e4
    · exact (hb16.cell (p := ⟨w.heap.size + 4, 0, none⟩) (by show w.heap.size + 4 < W1.heap.size; omega)).trans e5
    · exact (hb16.frozen (p := ⟨w.heap.size + 1, 0, none⟩) (by show w.heap.size + 1 < W1.heap.size; omega)).trans z2
    · exact (hb16.frozen (p := ⟨w.heap.size + 2, 0, none⟩) (by show w.heap.size + 2 < W1.heap.size; omega)).trans z3
    · exact (hb16.frozen (p := ⟨w.heap.size + 3, 0, none⟩) (by show w.heap.size + 3 < W1.heap.size; omega)).trans z4
    · exact (hb16.frozen (p := ⟨w.heap.size + 4, 0, none⟩) (by show w.heap.size + 4 < W1.heap.size; omega)).trans z5
    · rw [hW6, World.size_alloc, hs5]; omega
    · rw [hW6, hW5]; simp [go_sem]
    · rw [hW6, hW5]; simp [go_sem]
    · rw [hW6, hW5]; simp [go_sem]
    · rw [encZ_none]
      exact own_from (own_base (own_below ho2 hb6)) (fun q e => by have := ((own_below ho2 hb6).lt q e).1; omega)
    · rw [List.drop_zero]; exact HR.out.symm
  have hsz6 : w.heap.size ≤ W6.heap.size := hbw6.size
  have HP := Lib.hid hP
  rw [← hW6, hs5]
  clear hW6 hb16 hb6 hbw6 hP hs5 hb5 hW5 q0 qb e0 e2 e3 e4 e5 z2 z3 z4 z5 ho2 hg2 hg0
  gi_wp2_with fail
  refine range_to (gf := 434) (lb := #[.pointer (some ⟨w2.heap.size + 2, 0, none⟩)]) rfl (enters_of Tryz.func434 (by kernel_rfl) rfl) (encs := encP2) (fun _ => rfl) (nums (psTo code code.length)) _ _
    (all_seq 8 (by omega) B' _ b vp (psTo code code.length)) (fun A C h => by rw [h]; exact KeepsOthers.refl _)
    (fun d A => DpsI w code js R w2.heap.size B' b gg vp d.length A) (DpsX w R) (fun d A C h k => h.calm hsz6 k) (fun c A C h k => h.calm hsz6 k) (fun d A h => h.kn) hI0 ?round ?done ?stop
  case round =>
    rintro l' pre ⟨i, p0, p1, p2⟩ rest W hx hi hsz
    obtain ⟨hpl, hi1, hpp⟩ := nums_get hx
    simp only at hi1 hpp
    simp only [encP2, procV]
    gi_wp2
    refine ⟨KeepsOthers.alloc _ _, fun W2 hs2' hc2 => ?_⟩
    have hi2 := hi.calm hsz6 ((Calm.of (Bel.new W (.cells #[.int .u32 p0, .int .u32 p1, .int .u32 p2, .int .i64 0] 259)) hsz).trans hc2)
    have hn0 : W2.cell? ⟨W.heap.size, 0, none⟩ = some (.int .u32 p0) := hc2.cell (by simp [go_sem])
    obtain ⟨D, ms, g', c', vm, s1, s2, s3, s4, s5, s6, s7, s8, s9, s10, s11⟩ := hi2.st
    have hbd := (Hok.out.tl.bd pre.length hpl)
    rw [hpp] at hbd
    simp only at hbd
    have hp0 : p0 < code.length := by omega
    have hdr : ((psTo code code.length).map (·.1)).drop pre.length = p0 :: ((psTo code code.length).map (·.1)).drop (pre.length + 1) := by
      rw [List.drop_eq_getElem_cons (by simpa using hpl)]
      congr 1
      rw [List.getElem_map]
      rw [List.getD_eq_getElem?_getD, List.getElem?_eq_getElem hpl] at hpp
      simp only [Option.getD_some] at hpp
      rw [hpp]
    rw [hdr, depthsN] at s8
    have HW := Lib.hid (walk_any HG.out hi2.bel Hok.out Hlt.out s4 s6 p0 hp0)
    generalize walkN code js (code.length + 1) (D.set p0 0) [p0] 0 = V at *
    obtain ⟨VD, VM, VA, VE⟩ := V
    simp only at HW s8
    have q1 := hi2.box
    have Hi2 := Lib.hid hi2
    have HS4 := Lib.hid s4
    have HS5 := Lib.hid s5
    have HS8 := Lib.hid s8
    have HC2 := Lib.hid hc2
    have hs2 := hs2'
    rw [World.size_alloc] at hs2
    have hWS : w2.heap.size + 2 < W2.heap.size := hi2.lt
    clear hi hi2 s4 s5 s8 hc2 hx hdr hs2'
    gi_wp2_with fail
    refine ⟨trivial, (CallsIn.inRound l' (callsIn_wide.2 HW.out)).mono ?_⟩
    rintro e w5 ⟨D', rfl, ho5, hd5, hg5, heq⟩
    have hq : ∀ k o, k < W2.heap.size → k ≠ g' → w5.cell? ⟨k, o, none⟩ = W2.cell? ⟨k, o, none⟩ := fun k o h1 h2 => World.cell?_of_block (a := ⟨k, o, none⟩) (hg5.block k h1 (fun e => h2 (by injection e)))
    have hqf : ∀ k o, k < W2.heap.size → k ≠ g' → w5.frozen? ⟨k, o, none⟩ = W2.frozen? ⟨k, o, none⟩ := fun k o h1 h2 => World.frozen?_of_block (a := ⟨k, o, none⟩) (hg5.block k h1 (fun e => h2 (by injection e)))
    have hKO : KeepsOthers W2 w5 := KeepsOthers.of_grownBy hg5 (fun j o e ho => by
      cases e
      obtain ⟨cur, hgc, -⟩ := own_block HS4.out
      rw [hgc] at ho; cases ho; rfl)
    have hbw5 : Below w.heap.size w w5 := Hi2.out.bel.trans (grown_belowB hg5 Hi2.out.bel.size (by omega))
    have a2 := (hq (w.heap.size + 1) 0 (by omega) (by omega)).trans Hi2.out.r2
    have a3 := (hq (w.heap.size + 2) 0 (by omega) (by omega)).trans Hi2.out.r3
    have a4 := (hq (w.heap.size + 3) 0 (by omega) (by omega)).trans Hi2.out.r4
    have a5 := (hq (w.heap.size + 4) 0 (by omega) (by omega)).trans Hi2.out.r5
    have b2 := (hqf (w.heap.size + 1) 0 (by omega) (by omega)).trans Hi2.out.f2
    have b3 := (hqf (w.heap.size + 2) 0 (by omega) (by omega)).trans Hi2.out.f3
    have b4 := (hqf (w.heap.size + 3) 0 (by omega) (by omega)).trans Hi2.out.f4
    have b5 := (hqf (w.heap.size + 4) 0 (by omega) (by omega)).trans Hi2.out.f5
    have a7 := (hq (w2.heap.size + 1) 0 (by omega) (by omega)).trans s2
    have b7 := (hqf (w2.heap.size + 1) 0 (by omega) (by omega)).trans s3
    have Hq := Lib.hid hq
    have Hqf := Lib.hid hqf
    have HKO := Lib.hid hKO
    have HB5 := Lib.hid hbw5
    have HO5 := Lib.hid ho5
    have HG5 := Lib.hid hg5
    have HEQ := Lib.hid heq
    clear hq hqf hKO hbw5 ho5 hg5 heq HW
    by_cases hve : VE = 0
    · subst hve
      have hz : ((0 : Nat) : Int) = 0 := rfl
      rw [if_neg (by simp)] at HS8
      obtain ⟨j0, hj, hy0, hy1, hy2⟩ := info_parts info3'
      have hS3 : w2.heap.size + 3 ≤ w5.heap.size := Nat.le_trans hWS HG5.out.size
      have HM5 := Lib.hid (own_from (own_base (HS5.out.kept HG5.out (by
        cases hv : vm.ownBlock with
        | none => exact .inl rfl
        | some q => exact .inr (fun e => by injection e with e; have := s11 q hv; omega)))) (B := w2.heap.size + 3) (fun q e => s11 q e))
      have hxa := HM5.out.alloc (.cells #[.int .i64 VM] 3)
      have hnw := news_new w5 #[.int .i64 VM] 3
      have hml : ms.length ≤ 16384 := by have := Hok.out.tl; have h5 := psTo_le code code.length; omega
      have HS7 := Lib.hid s7
      clear s7
      gi_wp2_with ((with_reducible refine wpListIn_append_own (o := ⟨some 44, .call { callee := .builtin .append, args := #[.tmp 41, .tmp 43], argTypes := #[227, 227] }, _, _, _, none⟩) _ rfl _ _ 227 rfl (w2.heap.size + 3) 3 j0 (.int .i64 0) 1 8 Tryz.underlying227 hj hy0 hy1 hy2 ?_ ?_ vm ms.length (encZ ms) ?_ hxa ⟨w5.heap.size, 0, none⟩ 1 1 [.int .i64 VM] ?_ ?_ hnw ?_ ?_ ?_ ?_ ?_); rfl; decide; rfl; rfl; rfl; (simp [Value.oneCell']); (unfold maxLen; omega); omega; (simp; omega); intro v' w' r1 r2 r3; obtain ⟨gq, cq, rfl, hgq, hgq2⟩ := own_formB r1 (by omega); have hbb : Below (w2.heap.size + 3) w5 w' := ((Below.refl (w2.heap.size + 3) w5).alloc hS3 (.cells #[.int .i64 VM] 3)).grown r2 (by rw [World.size_alloc]; omega) (fun k e => (HM5.out.lt k e).1); have hcx := (hbb.cell (p := ⟨w2.heap.size + 1, 0, none⟩) (by show w2.heap.size + 1 < w2.heap.size + 3; omega)).trans a7; have hfx := (hbb.frozen (p := ⟨w2.heap.size + 1, 0, none⟩) (by show w2.heap.size + 1 < w2.heap.size + 3; omega)).trans b7)
      have hbw : Below w.heap.size w w' := HB5.out.trans (hbb.mono (by omega))
      have hbws := hbw.setCell (p := ⟨w2.heap.size + 1, 0, none⟩) (by show w.heap.size ≤ w2.heap.size + 1; omega) (.slice (some ⟨gq, 0, none⟩) (ms.length + 1) cq)
      have hoth : ∀ k, k < w2.heap.size + 3 → k ≠ w2.heap.size + 1 → (w'.setCell ⟨w2.heap.size + 1, 0, none⟩ (.slice (some ⟨gq, 0, none⟩) (ms.length + 1) cq)).cell? ⟨k, 0, none⟩ = w5.cell? ⟨k, 0, none⟩ := fun k k1 k2 =>
        (World.cell?_of_block (a := ⟨k, 0, none⟩) (Below.heap_setCell _ _ _ _ k2)).trans (hbb.cell (p := ⟨k, 0, none⟩) k1)
      have hofr : ∀ k, k < w2.heap.size + 3 → (w'.setCell ⟨w2.heap.size + 1, 0, none⟩ (.slice (some ⟨gq, 0, none⟩) (ms.length + 1) cq)).frozen? ⟨k, 0, none⟩ = w5.frozen? ⟨k, 0, none⟩ := fun k k1 => by
        rw [World.frozen?_setCell]; exact hbb.frozen (p := ⟨k, 0, none⟩) k1
      have hP' := HP.out.below hbws
      have hsz5 := hbb.size
      have hrow : (w'.setCell ⟨w2.heap.size + 1, 0, none⟩ (.slice (some ⟨gq, 0, none⟩) (ms.length + 1) cq)).ownsRow w.heap.size 3 1 (.slice (some ⟨g', 0, none⟩) code.length c') code.length (encZ D') := by
        refine ownsRow_setCell_other ((HO5.out.alloc (.cells #[.int .i64 VM] 3)).kept r2 ?_) (fun e => by simp only [Value.ownBlock, Option.some.injEq] at e; omega) _
        cases hv : vm.ownBlock with
        | none => exact .inr (by simp [Value.ownBlock])
        | some q => exact .inr (by simp only [Value.ownBlock]; intro e; injection e with e; have := (HM5.out.lt q hv).1; omega)
      have hneed : (w'.setCell ⟨w2.heap.size + 1, 0, none⟩ (.slice (some ⟨gq, 0, none⟩) (ms.length + 1) cq)).ownsRow w.heap.size 3 1 (.slice (some ⟨gq, 0, none⟩) (ms.length + 1) cq) (ms ++ [VM]).length (encZ (ms ++ [VM])) := by
        have h1 := ownsRow_setCell_other r1 (a := ⟨w2.heap.size + 1, 0, none⟩) (fun e => by simp only [Value.ownBlock, Option.some.injEq] at e; omega) (.slice (some ⟨gq, 0, none⟩) (ms.length + 1) cq)
        have h2 := own_from (own_base h1) (B := w.heap.size) (fun q e => by simp only [Value.ownBlock, Option.some.injEq] at e; omega)
        rw [List.length_append]
        simpa [encZ] using h2
      have hkn := Hi2.out.kn.1
      have hks : KeepsOthers W2 (w'.setCell ⟨w2.heap.size + 1, 0, none⟩ (.slice (some ⟨gq, 0, none⟩) (ms.length + 1) cq)) := HKO.out.trans ((KeepsOthers.alloc w5 _).trans ((KeepsOthers.of_grownBy r2 (own_cells hxa)).trans (KeepsOthers.setCell _ _ _)))
      refine ⟨hks, hbws, (hoth _ (by omega) (by omega)).trans ((Hq.out _ 0 (by omega) (by omega)).trans q1), ⟨(hoth _ (by omega) (by omega)).trans ((Hq.out _ 0 (by omega) (by omega)).trans hkn), hP'.c0, hP'.op⟩, (hoth _ (by omega) (by omega)).trans a2, (hoth _ (by omega) (by omega)).trans a3, (hoth _ (by omega) (by omega)).trans a4, (hoth _ (by omega) (by omega)).trans a5,
        (hofr _ (by omega)).trans b2, (hofr _ (by omega)).trans b3, (hofr _ (by omega)).trans b4, (hofr _ (by omega)).trans b5, by rw [World.size_setCell]; omega,
        D', ms ++ [VM], g', c', _, (hoth _ (by omega) (by omega)).trans ((Hq.out _ 0 (by omega) (by omega)).trans s1), World.cell?_setCell_same' _ _ _ (by rw [hcx]; rfl), (hofr _ (by omega)).trans b7, hrow, hneed, hd5, by rw [List.length_append, List.length_append, HS7.out]; rfl, ?_, s9, s10, fun q e => by simp only [Value.ownBlock, Option.some.injEq] at e; omega⟩
      rw [List.length_append]
      have h8 := HS8.out
      rw [HEQ.out trivial]
      exact h8
    · have hne : ((VE : Int) != 0) = true := by simp; exact hve
      have hRe : R = ([], [], VA, VE) := by rw [← HS8.out, if_pos hve]
      have HRe := Lib.hid hRe
      have Hve := Lib.hid hve
      clear hRe hve a7 b7
      gi_wp2
      have hcs : ∀ k o, k < W2.heap.size → k ≠ g' → w5.cell? ⟨k, o, none⟩ = W2.cell? ⟨k, o, none⟩ := Hq.out
      refine ⟨HKO.out.trans ((KeepsOthers.setCell _ _ _).trans ((KeepsOthers.setCell _ _ _).trans ((KeepsOthers.setCell _ _ _).trans (KeepsOthers.setCell _ _ _)))), rfl, ?_, ?_, ?_, ?_, ?_, ?_⟩
      · exact (((HB5.out.setCell (p := ⟨w.heap.size + 1, 0, none⟩) (Nat.le_succ _) _).setCell (p := ⟨w.heap.size + 1 + 1, 0, none⟩) (by show w.heap.size ≤ w.heap.size + 1 + 1; omega) _).setCell (p := ⟨w.heap.size + 1 + 1 + 1, 0, none⟩) (by show w.heap.size ≤ w.heap.size + 1 + 1 + 1; omega) _).setCell (p := ⟨w.heap.size + 1 + 1 + 1 + 1, 0, none⟩) (by show w.heap.size ≤ w.heap.size + 1 + 1 + 1 + 1; omega) _
      · simp [go_sem, a2]
      · simp [go_sem, a3]
      · rw [HRe.out]; simp [go_sem, a4]
      · rw [HRe.out]; simp [go_sem, a5]
      · rw [HRe.out]; exact Hve.out
  case done =>
    rintro Dd W2 W3 W4 hi rfl hc hD hd
    rename_i K hK
    refine hK _ _ (wpIn_wide.2 ?_)
    have hi4 := hi.calm hsz6 hc
    obtain ⟨D, ms, g', c', vm, s1, s2, s3, s4, s5, s6, s7, s8, s9, s10, s11⟩ := hi4.st
    rw [nums_length, List.drop_of_length_le (by simp), depthsN] at s8
    obtain ⟨av, cv, rfl, -⟩ := own_sl s5
    have HS4 := Lib.hid s4
    have HS5 := Lib.hid s5
    have HS8 := Lib.hid s8
    have Hi4 := Lib.hid hi4
    have Hd := Lib.hid hd
    have x2 := hi4.r2
    have x3 := hi4.r3
    have x4 := hi4.r4
    have x5 := hi4.r5
    have y2 := hi4.f2
    have y3 := hi4.f3
    have y4 := hi4.f4
    have y5 := hi4.f5
    have hlw := hi4.lt
    clear hi hi4 hc hd s4 s5 s8 s7
    have hle2 : w.heap.size + 6 ≤ w2.heap.size := by omega
    have HK0 := Lib.hid (show W4.cell? ⟨w2.heap.size, 0, none⟩ = some (.slice (some ⟨g', 0, none⟩) code.length c') ∧ W4.cell? ⟨w2.heap.size + 1, 0, none⟩ = some (.slice av ms.length cv) from ⟨s1, s2⟩)
    have HKd := Lib.hid (show ∀ W' : World, (W'.cell? ⟨w2.heap.size, 0, none⟩ = some (.slice (some ⟨g', 0, none⟩) code.length c') ∧ W'.cell? ⟨w2.heap.size + 1, 0, none⟩ = some (.slice av ms.length cv)) → (W'.drew.cell? ⟨w2.heap.size, 0, none⟩ = some (.slice (some ⟨g', 0, none⟩) code.length c') ∧ W'.drew.cell? ⟨w2.heap.size + 1, 0, none⟩ = some (.slice av ms.length cv)) from fun W' h => h)
    have HKs := Lib.hid (show ∀ (W' : World) (o : Nat) (v : Value), o < w2.heap.size → (W'.cell? ⟨w2.heap.size, 0, none⟩ = some (.slice (some ⟨g', 0, none⟩) code.length c') ∧ W'.cell? ⟨w2.heap.size + 1, 0, none⟩ = some (.slice av ms.length cv)) → ((W'.setCell ⟨o, 0, none⟩ v).cell? ⟨w2.heap.size, 0, none⟩ = some (.slice (some ⟨g', 0, none⟩) code.length c') ∧ (W'.setCell ⟨o, 0, none⟩ v).cell? ⟨w2.heap.size + 1, 0, none⟩ = some (.slice av ms.length cv)) from
      fun W' o v ho h => ⟨(World.cell?_of_block (a := ⟨w2.heap.size, 0, none⟩) (Below.heap_setCell _ _ _ _ (by show w2.heap.size ≠ o; omega))).trans h.1, (World.cell?_of_block (a := ⟨w2.heap.size + 1, 0, none⟩) (Below.heap_setCell _ _ _ _ (by show w2.heap.size + 1 ≠ o; omega))).trans h.2⟩)
    have k1 : w.heap.size + 1 < w2.heap.size := by omega
    have k2 : w.heap.size + 1 + 1 < w2.heap.size := by omega
    have k3 : w.heap.size + 1 + 1 + 1 < w2.heap.size := by omega
    have k4 : w.heap.size + 1 + 1 + 1 + 1 < w2.heap.size := by omega
    have KK1 := Lib.hid (fun W' v => HKs.out W' _ v k1)
    have KK2 := Lib.hid (fun W' v => HKs.out W' _ v k2)
    have KK3 := Lib.hid (fun W' v => HKs.out W' _ v k3)
    have KK4 := Lib.hid (fun W' v => HKs.out W' _ v k4)
    have HG4 := Lib.hid (show ∀ o : Nat, o ≤ w.heap.size + 5 → (Value.slice (some ⟨g', 0, none⟩) code.length c').ownBlock ≠ some o from fun o ho e => by simp only [Value.ownBlock, Option.some.injEq] at e; omega)
    have HG5 := Lib.hid (show ∀ o : Nat, o ≤ w.heap.size + 5 → (Value.slice av ms.length cv).ownBlock ≠ some o from fun o ho e => by have := s11 _ e; omega)
    have HDd := Lib.hid (show w2.heap.size + 2 < Dd ∧ w.heap.size + 6 ≤ w2.heap.size from ⟨by have := hI0.lt; omega, hle2⟩)
    clear k1 k2 k3 k4 hle2 HKs hlw hsz6 hgS hg1 hbw2 hb2 hs1 hs2 HG Hok Hlt H3 HR HRp Hbw1 HP hI0 hB' hgl hcl s3 s6 s9 s10 s11 hD
    go_wp2
    go_region_held3 (fun w' => w'.cell? ⟨w2.heap.size, 0, none⟩ = some (.slice (some ⟨g', 0, none⟩) code.length c') ∧ w'.cell? ⟨w2.heap.size + 1, 0, none⟩ = some (.slice av ms.length cv))
      (first | with_reducible exact HK0.out | (repeat (first | with_reducible exact HK0.out | (with_reducible refine HKd.out _ ?_) | (with_reducible refine KK1.out _ _ ?_) | (with_reducible refine KK2.out _ _ ?_) | (with_reducible refine KK3.out _ _ ?_) | (with_reducible refine KK4.out _ _ ?_)))) (fail)
    have ho4 := ownsRow_setCell_other (ownsRow_setCell_other (ownsRow_setCell_other (ownsRow_setCell_other HS4.out (a := ⟨w.heap.size + 1, 0, none⟩) (HG4.out (w.heap.size + 1) (by omega)) (.slice (some ⟨g', 0, none⟩) code.length c')) (a := ⟨w.heap.size + 1 + 1, 0, none⟩) (HG4.out (w.heap.size + 1 + 1) (by omega)) (.slice av ms.length cv)) (a := ⟨w.heap.size + 1 + 1 + 1, 0, none⟩) (HG4.out (w.heap.size + 1 + 1 + 1) (by omega)) (.int .i64 0)) (a := ⟨w.heap.size + 1 + 1 + 1 + 1, 0, none⟩) (HG4.out (w.heap.size + 1 + 1 + 1 + 1) (by omega)) (.int .i64 0)
    have ho5 := ownsRow_setCell_other (ownsRow_setCell_other (ownsRow_setCell_other (ownsRow_setCell_other HS5.out (a := ⟨w.heap.size + 1, 0, none⟩) (HG5.out (w.heap.size + 1) (by omega)) (.slice (some ⟨g', 0, none⟩) code.length c')) (a := ⟨w.heap.size + 1 + 1, 0, none⟩) (HG5.out (w.heap.size + 1 + 1) (by omega)) (.slice av ms.length cv)) (a := ⟨w.heap.size + 1 + 1 + 1, 0, none⟩) (HG5.out (w.heap.size + 1 + 1 + 1) (by omega)) (.int .i64 0)) (a := ⟨w.heap.size + 1 + 1 + 1 + 1, 0, none⟩) (HG5.out (w.heap.size + 1 + 1 + 1 + 1) (by omega)) (.int .i64 0)
    have hX1 : ((((W4.setCell ⟨w.heap.size + 1, 0, none⟩ (.slice (some ⟨g', 0, none⟩) code.length c')).setCell ⟨w.heap.size + 1 + 1, 0, none⟩ (.slice av ms.length cv)).setCell ⟨w.heap.size + 1 + 1 + 1, 0, none⟩ (.int .i64 0)).setCell ⟨w.heap.size + 1 + 1 + 1 + 1, 0, none⟩ (.int .i64 0)).heap[Dd]? = some (.deferred (some [])) := by
      have h5 := HDd.out
      rw [Below.heap_setCell _ _ _ _ (by show Dd ≠ w.heap.size + 1 + 1 + 1 + 1; omega), Below.heap_setCell _ _ _ _ (by show Dd ≠ w.heap.size + 1 + 1 + 1; omega), Below.heap_setCell _ _ _ _ (by show Dd ≠ w.heap.size + 1 + 1; omega), Below.heap_setCell _ _ _ _ (by show Dd ≠ w.heap.size + 1; omega)]
      exact Hd.out
    have hX2 : ((((W4.setCell ⟨w.heap.size + 1, 0, none⟩ (.slice (some ⟨g', 0, none⟩) code.length c')).setCell ⟨w.heap.size + 1 + 1, 0, none⟩ (.slice av ms.length cv)).setCell ⟨w.heap.size + 1 + 1 + 1, 0, none⟩ (.int .i64 0)).setCell ⟨w.heap.size + 1 + 1 + 1 + 1, 0, none⟩ (.int .i64 0)).cell? ⟨w.heap.size + 1, 0, none⟩ = some (.slice (some ⟨g', 0, none⟩) code.length c') := by simp [go_sem, x2]
    have hX3 : ((((W4.setCell ⟨w.heap.size + 1, 0, none⟩ (.slice (some ⟨g', 0, none⟩) code.length c')).setCell ⟨w.heap.size + 1 + 1, 0, none⟩ (.slice av ms.length cv)).setCell ⟨w.heap.size + 1 + 1 + 1, 0, none⟩ (.int .i64 0)).setCell ⟨w.heap.size + 1 + 1 + 1 + 1, 0, none⟩ (.int .i64 0)).cell? ⟨w.heap.size + 2, 0, none⟩ = some (.slice av ms.length cv) := by simp [go_sem, x3]
    have hX4 : ((((W4.setCell ⟨w.heap.size + 1, 0, none⟩ (.slice (some ⟨g', 0, none⟩) code.length c')).setCell ⟨w.heap.size + 1 + 1, 0, none⟩ (.slice av ms.length cv)).setCell ⟨w.heap.size + 1 + 1 + 1, 0, none⟩ (.int .i64 0)).setCell ⟨w.heap.size + 1 + 1 + 1 + 1, 0, none⟩ (.int .i64 0)).cell? ⟨w.heap.size + 3, 0, none⟩ = some (.int .i64 0) := by simp [go_sem, x4]
    have hX5 : ((((W4.setCell ⟨w.heap.size + 1, 0, none⟩ (.slice (some ⟨g', 0, none⟩) code.length c')).setCell ⟨w.heap.size + 1 + 1, 0, none⟩ (.slice av ms.length cv)).setCell ⟨w.heap.size + 1 + 1 + 1, 0, none⟩ (.int .i64 0)).setCell ⟨w.heap.size + 1 + 1 + 1 + 1, 0, none⟩ (.int .i64 0)).cell? ⟨w.heap.size + 4, 0, none⟩ = some (.int .i64 0) := by simp [go_sem, x5]
    have hXb := (((Hi4.out.bel.setCell (p := ⟨w.heap.size + 1, 0, none⟩) (Nat.le_succ _) (.slice (some ⟨g', 0, none⟩) code.length c')).setCell (p := ⟨w.heap.size + 1 + 1, 0, none⟩) (by show w.heap.size ≤ w.heap.size + 1 + 1; omega) (.slice av ms.length cv)).setCell (p := ⟨w.heap.size + 1 + 1 + 1, 0, none⟩) (by show w.heap.size ≤ w.heap.size + 1 + 1 + 1; omega) (.int .i64 0)).setCell (p := ⟨w.heap.size + 1 + 1 + 1 + 1, 0, none⟩) (by show w.heap.size ≤ w.heap.size + 1 + 1 + 1 + 1; omega) (.int .i64 0)
    generalize (((W4.setCell ⟨w.heap.size + 1, 0, none⟩ (.slice (some ⟨g', 0, none⟩) code.length c')).setCell ⟨w.heap.size + 1 + 1, 0, none⟩ (.slice av ms.length cv)).setCell ⟨w.heap.size + 1 + 1 + 1, 0, none⟩ (.int .i64 0)).setCell ⟨w.heap.size + 1 + 1 + 1 + 1, 0, none⟩ (.int .i64 0) = X at *
    have hk' := Calm.putObj (B := w.heap.size) X.drew (.deferred none) hX1 rfl (by have := HDd.out; omega)
    have t2 := hk'.cell (show X.drew.cell? ⟨w.heap.size + 1, 0, none⟩ = _ from hX2)
    have t3 := hk'.cell (show X.drew.cell? ⟨w.heap.size + 2, 0, none⟩ = _ from hX3)
    have t4 := hk'.cell (show X.drew.cell? ⟨w.heap.size + 3, 0, none⟩ = _ from hX4)
    have t5 := hk'.cell (show X.drew.cell? ⟨w.heap.size + 4, 0, none⟩ = _ from hX5)
    have HX1 := Lib.hid (show X.drew.heap[Dd]? = some (.deferred (some [])) from hX1)
    have HO4 := Lib.hid (hk'.own (A := X.drew) ho4)
    have HO5 := Lib.hid (hk'.own (A := X.drew) ho5)
    have HXB := Lib.hid (Calm.below hXb.drew hk')
    clear hX1 hX2 hX3 hX4 hX5 ho4 ho5 hXb hk' x2 x3 x4 x5 y2 y3 y4 y5
    go_wp2
    refine ⟨by simp, .inl ⟨_, _, rfl, run_takeDeferred HX1.out, ?_⟩⟩
    refine ⟨.tuple #[.slice (some ⟨g', 0, none⟩) code.length c', .slice av ms.length cv, .int .i64 0, .int .i64 0], by simp [results, Tryz.results284, go_sem, t2, t3, t4, t5], HXB.out, .inr ⟨by rw [← HS8.out], _, _, rfl, ?_, ?_⟩⟩
    · rw [← HS8.out]
      have h := HO4.out
      show World.ownsRow _ _ _ _ _ D.length (encZ D)
      rw [own_ilen h]; exact h
    · rw [← HS8.out]; exact HO5.out
  case stop =>
    rintro Dd c W4 ⟨rfl, hb, x2, x3, x4, x5, hne⟩ hD hd
    have Hd := Lib.hid hd
    have hk' := Calm.putObj (B := w.heap.size) W4 (.deferred none) hd rfl (by omega)
    have HB := Lib.hid hb
    have Hne := Lib.hid hne
    have t2 := hk'.cell x2
    have t3 := hk'.cell x3
    have t4 := hk'.cell x4
    have t5 := hk'.cell x5
    clear hd hb hne
    gi_wp2
    refine ⟨by simp, .inl ⟨_, _, rfl, run_takeDeferred Hd.out, ?_⟩⟩
    exact ⟨.tuple #[.slice none 0 0, .slice none 0 0, .int .i64 R.2.2.1, .int .i64 R.2.2.2], by simp [results, Tryz.results284, go_sem, t2, t3, t4, t5], Calm.below HB.out hk', .inl ⟨Hne.out, rfl⟩⟩
end Go.Proofs.YtgpicmiaanapkaaGreat
/- flow.Depths. -/
namespace Go.Proofs.YtgpicmiaanapkaaGreat
open Go.RowKit
set_option linter.unusedVariables false
set_option maxRecDepth 100000 in
set_option maxHeartbeats 2000000 in
theorem flow_any {w : World} (vc vj : Value) (code : List (Nat × Nat)) (js : List Nat) (hok : FindOk code js []) (hl : code.length ≤ 16384) (hjl : js.length ≤ 16384) (hc : Instrs w vc code) (hj : Words w vj js) :
    Calls Tryz.prog 160 #[vc, vj] w (DpsPost (flowN code js) w) := by
  have hlt := hc.lt
  have HF := Lib.hid (found_any vc vj code js hok hl hjl hc hj)
  have HD := Lib.hid (fun W B g b uc uj (hG : GraphAt W B g b uc uj code js) => depths_any hG hok hlt)
  generalize flowN code js = R at *
  clear hlt hc hj
  go_enter Tryz.func160, Tryz.ntmps160
  go_wp2_with fail
  refine HF.out.mono ?_
  rintro e w1 ⟨g, b, uc, uj, rfl, hb1, hG⟩
  have HD1 := Lib.hid (HD.out _ _ _ _ _ _ hG)
  have HB1 := Lib.hid hb1
  clear hb1 hG HF HD
  go_wp2_with fail
  refine HD1.out.mono ?_
  rintro e w2 ⟨hb2, ⟨hne, rfl⟩ | ⟨h0, vd, vm, rfl, ho1, ho2⟩⟩
  · have HB2 := Lib.hid (Bel.tr HB1.out hb2)
    have HN := Lib.hid hne
    clear hb2 hne
    go_wp2
    exact bodyPost_ret (v := .tuple #[.slice none 0 0, .slice none 0 0, .int .i64 R.2.2.1, .int .i64 R.2.2.2]) (by simp [results, Tryz.results160, go_sem]) rfl ⟨HB2.out, .inl ⟨HN.out, rfl⟩⟩
  · have HB2 := Lib.hid (Bel.tr HB1.out hb2)
    have H0 := Lib.hid h0
    have HO1 := Lib.hid (own_from (own_base ho1) (B := w.heap.size) (fun q e => Nat.le_trans HB1.out.size (ho1.lt q e).1))
    have HO2 := Lib.hid (own_from (own_base ho2) (B := w.heap.size) (fun q e => Nat.le_trans HB1.out.size (ho2.lt q e).1))
    clear hb2 h0 ho1 ho2
    go_wp2
    exact bodyPost_ret (v := .tuple #[vd, vm, .int .i64 0, .int .i64 0]) (by simp [results, Tryz.results160, go_sem]) rfl ⟨HB2.out, .inr ⟨H0.out, _, _, rfl, HO1.out, HO2.out⟩⟩
end Go.Proofs.YtgpicmiaanapkaaGreat
/- verify.Take. -/
namespace Go.Proofs.YtgpicmiaanapkaaGreat
open Go.RowKit
set_option linter.unusedVariables false
structure TakeOk (m : Img) : Prop where
  k : checkI m = 0
  f : FindOk m.code m.js (m.lx.map (·.2))
  r : (flowN m.code m.js).2.2.2 = 0
/-- What Take finds amiss: where, and with what code. -/
def TakeBad (m : Img) (a c : Nat) : Prop :=
  (checkI m ≠ 0 ∧ a = 0 ∧ c = checkI m) ∨ (checkI m = 0 ∧ FindBad m.code m.js (m.lx.map (·.2)) a c) ∨
  (checkI m = 0 ∧ FindOk m.code m.js (m.lx.map (·.2)) ∧ (flowN m.code m.js).2.2.2 ≠ 0 ∧ a = (flowN m.code m.js).2.2.1 ∧ c = (flowN m.code m.js).2.2.2)
/-- A proved program in memory. -/
def ModAt (W : World) (B mb : Nat) (m : Img) : Prop :=
  B ≤ mb ∧ ∃ (tb b : Nat) (vm uc vd uj ud un : Value), W.cell? ⟨mb, 0, none⟩ = some (.pointer (some ⟨tb, 0, none⟩)) ∧ B ≤ tb ∧
    (W.cell? ⟨tb, 0, none⟩ = some (.pointer (some ⟨b, 0, none⟩)) ∧ W.cell? ⟨tb, 1, none⟩ = some vm ∧ W.cell? ⟨tb, 2, none⟩ = some uc ∧ W.cell? ⟨tb, 3, none⟩ = some vd ∧
     W.cell? ⟨tb, 4, none⟩ = some uc ∧ W.cell? ⟨tb, 5, none⟩ = some uj ∧ W.cell? ⟨tb, 6, none⟩ = some ud ∧ W.cell? ⟨tb, 7, none⟩ = some (.int .u32 m.zero) ∧ W.cell? ⟨tb, 8, none⟩ = some (.int .u32 m.stack) ∧
     W.cell? ⟨tb, 9, none⟩ = some un ∧ W.cell? ⟨tb, 10, none⟩ = some (.int .i64 (bitsI m)) ∧ W.cell? ⟨tb, 11, none⟩ = some (.int .u64 (digN m))) ∧
    ImgOwn W B uc uj ud un m ∧ (∃ B', B ≤ B' ∧ FoundAt m.code m.js W B' b) ∧
    W.ownsRow B 3 1 vd (flowN m.code m.js).1.length (encZ (flowN m.code m.js).1) ∧ W.ownsRow B 3 1 vm (flowN m.code m.js).2.1.length (encZ (flowN m.code m.js).2.1)
def TakePost (m : Img) (w : World) (e : Ending) (w' : World) : Prop :=
  Below w.heap.size w w' ∧ ((∃ a c : Nat, e = .returned (.tuple #[.pointer none, .int .i64 a, .int .i64 c]) ∧ TakeBad m a c) ∨
    ∃ mb, e = .returned (.tuple #[.pointer (some ⟨mb, 0, none⟩), .int .i64 0, .int .i64 0]) ∧ TakeOk m ∧ ModAt w' w.heap.size mb m)
theorem findBad_pos {code : List (Nat × Nat)} {js ats : List Nat} {i c : Nat} (h : FindBad code js ats i c) : c ≠ 0 := by cases h <;> first | assumption | decide
theorem run_b229 (p : Option Addr) (a : Option Addr) (n c : Nat) (w : World) : (Instr.build 229 #[(0, .pointer p), (1, .slice a n c)]).run Tryz.prog w = .ok (.agg #[.pointer p, .slice a n c]) w := by kernel_rfl
theorem run_b231 (a a' : Option Addr) (n c n' c' : Nat) (w : World) : (Instr.build 231 #[(0, .slice a n c), (1, .slice a' n' c')]).run Tryz.prog w = .ok (.agg #[.slice a n c, .slice a' n' c']) w := by kernel_rfl
theorem run_b233 (p a1 a2 a3 a4 a5 a6 a7 : Option Addr) (n1 c1 n2 c2 n3 c3 n4 c4 n5 c5 n6 c6 n7 c7 : Nat) (z s : Int) (w : World) : (Instr.build 233 #[(0, .agg #[.pointer p, .slice a1 n1 c1]), (1, .agg #[.slice a2 n2 c2, .slice a3 n3 c3]), (2, .agg #[.slice a4 n4 c4, .slice a5 n5 c5, .slice a6 n6 c6, .int .u32 z, .int .u32 s, .slice a7 n7 c7])]).run Tryz.prog w = .ok (.agg #[.pointer p, .slice a1 n1 c1, .slice a2 n2 c2, .slice a3 n3 c3, .slice a4 n4 c4, .slice a5 n5 c5, .slice a6 n6 c6, .int .u32 z, .int .u32 s, .slice a7 n7 c7, .int .i64 0, .int .u64 0]) w := by kernel_rfl
theorem rawI_lt' {m : Img} (hc : ∀ i ∈ m.code, i.1 < 256 ∧ i.2 < 4294967296) (hd : ∀ x ∈ m.data, x < 256) : ∀ x ∈ imgB m, x < 256 := by
  refine withN_lt (withN_lt (fun x hx => ?_) _ _) _ _
  unfold rawI headI at hx
  rcases List.mem_append.1 hx with hx | hx
  · rcases List.mem_append.1 hx with hx | hx
    · have : ∀ y ∈ ([80, 69, 78, 33] : List Nat), y < 256 := by decide
      exact this x hx
    · exact le4s_lt _ x hx
  · rcases List.mem_append.1 hx with hx | hx
    · exact flatS_lt _ x hx
    · rcases List.mem_append.1 hx with hx | hx
      · exact le4s_lt _ x hx
      · obtain ⟨l, hl, hx⟩ := List.mem_flatMap.1 hx
        unfold partsI at hl
        simp only [List.mem_cons, List.not_mem_nil, or_false] at hl
        rcases hl with rfl | rfl | rfl | rfl
        · exact encode_lt _ hc x hx
        · exact le4s_lt _ x hx
        · exact hd x hx
        · exact namesB_lt _ x hx
theorem run_b303 (p : Option Addr) (w : World) : (Instr.build 303 #[(0, .pointer p)]).run Tryz.prog w = .ok (.agg #[.pointer p]) w := by kernel_rfl
theorem imgB_length_le (m : Img) (hm : checkI m = 0) : (imgB m).length < 4294967296 := by
  obtain ⟨hc1, hc2, hc3, hc4, hc5, hc6, hc7⟩ := checkI_ok hm
  have L0 := encode_len m.code
  have L1 := le4s_length m.js
  have L3 := namesB_len m.lx (fun j hj => by
    have := (namesN_iff m.lx).1 hc7 j hj
    unfold nameN at this
    simp only [Bool.and_eq_true, decide_eq_true_eq] at this
    have := this.2.1
    omega) m.lx.length (Nat.le_refl _)
  rw [List.take_length] at L3
  unfold roomN at hc5
  have hr : (rawI m).length = 64 + ((encode m.code).length + ((le4s m.js).length + (m.data.length + (namesB m.lx).length))) := by
    have h1 : (headI m).length = 16 := by unfold headI; rw [List.length_append, le4s_length]; rfl
    have h2 := flatS_length (spansL 64 ((partsI m).map List.length))
    rw [spansL_length, List.length_map] at h2
    have h3 : (partsI m).length = 4 := rfl
    have h4 : ((partsI m).flatMap id).length = (encode m.code).length + ((le4s m.js).length + (m.data.length + (namesB m.lx).length)) := by
      unfold partsI; simp
    unfold flatS at h2
    rw [rawI, List.length_append, List.length_append, List.length_append, h1, h2, h3, h4, le4s_length]
    simp only [List.length_cons, List.length_nil]
    omega
  have h5 : (imgB m).length = (rawI m).length := by
    unfold imgB sealedN
    rw [withN_length (by rw [withN_length (by omega)]; omega), withN_length (by omega)]
  omega
theorem small_of_check {m : Img} (hm : checkI m = 0) : Small m := by
  obtain ⟨hc1, hc2, hc3, hc4, hc5, hc6, hc7⟩ := checkI_ok hm
  unfold roomN at hc5
  exact ⟨hc1, hc3, by omega, hc6⟩
theorem cells28 {w : World} {g : Nat} {a b c d e f : Value} (h : w.heap[g]? = some (.cells #[a, b, c, d, e, f] 28 (0, 0))) : w.cell? ⟨g, 0, none⟩ = some a ∧ w.cell? ⟨g, 1, none⟩ = some b ∧ w.cell? ⟨g, 2, none⟩ = some c ∧ w.cell? ⟨g, 3, none⟩ = some d ∧ w.cell? ⟨g, 4, none⟩ = some e ∧ w.cell? ⟨g, 5, none⟩ = some f :=
  ⟨by simp [World.cell?, h], by simp [World.cell?, h], by simp [World.cell?, h], by simp [World.cell?, h], by simp [World.cell?, h], by simp [World.cell?, h]⟩
/-- A row of one's own, behind a store of a whole struct into an older block. -/
theorem own_downT {w : World} {B B' e sz n : Nat} {v : Value} {xs : List Value} (h : w.ownsRow B' e sz v n xs) (hb : B ≤ B') : w.ownsRow B e sz v n xs := own_from (own_base h) (fun g e => Nat.le_trans hb (h.lt g e).1)
theorem own_setRow {w : World} {B e sz n g : Nat} {v : Value} {xs : List Value} {cs : Array Value} (h : w.ownsRow B e sz v n xs) (hg : g < B) : (w.setRow g cs).ownsRow B e sz v n xs := by
  obtain ⟨hl, h⟩ := h
  rcases h with h | ⟨g', cap, cur, hv, hb, hh, rest⟩
  · exact ⟨hl, .inl h⟩
  · exact ⟨hl, .inr ⟨g', cap, cur, hv, hb, (setRow_other _ _ _ _ (by omega)).trans hh, rest⟩⟩
set_option maxRecDepth 100000 in
set_option maxHeartbeats 2000000 in
theorem takeV_any (vc vj vd vn : Value) (m : Img) (w : World) (h : ImgAt w vc vj vd vn m) :
    Calls Tryz.prog 55 #[.agg #[vc, vj, vd, .int .u32 m.zero, .int .u32 m.stack, vn]] w (TakePost m w) := by
  have H := Lib.hid h
  have hb0 := Bel.new w (.cells #[vc, vj, vd, .int .u32 m.zero, .int .u32 m.stack, vn] 28)
  have HC := Lib.hid (cells_new6 w vc vj vd (.int .u32 m.zero) (.int .u32 m.stack) vn 28)
  have HH := Lib.hid (heap_alloc_new w (.cells #[vc, vj, vd, .int .u32 m.zero, .int .u32 m.stack, vn] 28))
  obtain ⟨W0, hW0⟩ : ∃ W0, W0 = w.alloc (.cells #[vc, vj, vd, .int .u32 m.zero, .int .u32 m.stack, vn] 28) := ⟨_, rfl⟩
  have HK := Lib.hid (imgCheck_any vc vj vd vn m W0 (by rw [hW0]; exact h.below hb0))
  obtain ⟨ac, cc, rfl, -⟩ := h.c.1
  obtain ⟨aj, cj, rfl, -⟩ := h.j.1
  obtain ⟨ad, cd, rfl, -⟩ := h.d.1
  obtain ⟨an, cn, rfl, -⟩ := h.n.1
  clear h
  go_enter Tryz.func55, Tryz.ntmps55
  go_wp2_with fail
  rw [← hW0]
  refine HK.out.mono ?_
  rintro e w1 ⟨rfl, hb1⟩
  have hs0 : w.heap.size < W0.heap.size := by rw [hW0]; simp
  have HB1 := Lib.hid (Bel.tr (by rw [hW0]; exact hb0) hb1 : Below w.heap.size w w1)
  by_cases hm : checkI m = 0
  · rw [hm]
    have hh1 : w1.heap[w.heap.size]? = some (.cells #[.slice ac m.code.length cc, .slice aj m.js.length cj, .slice ad m.data.length cd, .int .u32 m.zero, .int .u32 m.stack, .slice an m.lx.length cn] 28) := by
      rw [hb1.block w.heap.size hs0, hW0]; exact HH.out
    have hs1 : w.heap.size < w1.heap.size := Nat.lt_of_lt_of_le hs0 hb1.size
    have HCP := Lib.hid (copied_any _ _ _ _ m (small_of_check hm) w1 (H.out.below HB1.out))
    have HH1 := Lib.hid hh1
    have c0 : w1.cell? ⟨w.heap.size, 0, none⟩ = some (.slice ac m.code.length cc) := (hb1.cell (p := ⟨w.heap.size, 0, none⟩) hs0).trans (by rw [hW0]; exact HC.out.1)
    have c1 : w1.cell? ⟨w.heap.size, 1, none⟩ = some (.slice aj m.js.length cj) := (hb1.cell (p := ⟨w.heap.size, 1, none⟩) hs0).trans (by rw [hW0]; exact HC.out.2.1)
    have c2 : w1.cell? ⟨w.heap.size, 2, none⟩ = some (.slice ad m.data.length cd) := (hb1.cell (p := ⟨w.heap.size, 2, none⟩) hs0).trans (by rw [hW0]; exact HC.out.2.2.1)
    have c3 : w1.cell? ⟨w.heap.size, 3, none⟩ = some (.int .u32 m.zero) := (hb1.cell (p := ⟨w.heap.size, 3, none⟩) hs0).trans (by rw [hW0]; exact HC.out.2.2.2.1)
    have c4 : w1.cell? ⟨w.heap.size, 4, none⟩ = some (.int .u32 m.stack) := (hb1.cell (p := ⟨w.heap.size, 4, none⟩) hs0).trans (by rw [hW0]; exact HC.out.2.2.2.2.1)
    have c5 : w1.cell? ⟨w.heap.size, 5, none⟩ = some (.slice an m.lx.length cn) := (hb1.cell (p := ⟨w.heap.size, 5, none⟩) hs0).trans (by rw [hW0]; exact HC.out.2.2.2.2.2)
    clear hW0 hb0 HC HK hh1 hb1 HH
    go_wp2_with fail
    refine HCP.out.mono ?_
    rintro e w2 ⟨uc, uj, ud, un, rfl, hio, hb2⟩
    have I1 := H.out.below HB1.out
    have HA := Lib.hid (hio.at (H.out))
    obtain ⟨a1, n1, rfl, -⟩ := own_sl hio.c
    obtain ⟨a2, n2, rfl, -⟩ := own_sl hio.j
    obtain ⟨a3, n3, rfl, -⟩ := own_sl hio.d
    obtain ⟨a4, n4, rfl, -⟩ := own_sl hio.n
    have HIO := Lib.hid hio
    have HH2 := Lib.hid (show w2.heap[w.heap.size]? = some (.cells #[.slice ac m.code.length cc, .slice aj m.js.length cj, .slice ad m.data.length cd, .int .u32 m.zero, .int .u32 m.stack, .slice an m.lx.length cn] 28) from (hb2.block w.heap.size hs1).trans HH1.out)
    have HB2 := Lib.hid hb2
    clear hio hb2 HH1 c0 c1 c2 c3 c4 c5 HCP I1
    obtain ⟨W3, hW3⟩ : ∃ W3, W3 = w2.setRow w.heap.size #[.slice a1 m.code.length n1, .slice a2 m.js.length n2, .slice a3 m.data.length n3, .int .u32 m.zero, .int .u32 m.stack, .slice a4 m.lx.length n4] := ⟨_, rfl⟩
    have HH3 := Lib.hid (setRow_heap _ _ _ #[.slice a1 m.code.length n1, .slice a2 m.js.length n2, .slice a3 m.data.length n3, .int .u32 m.zero, .int .u32 m.stack, .slice a4 m.lx.length n4] _ _ HH2.out)
    obtain ⟨r0, r1, r2, r3, r4, r5⟩ := cells28 HH3.out
    have HIO3 : Hid (ImgOwn W3 (w.heap.size + 1) (.slice a1 m.code.length n1) (.slice a2 m.js.length n2) (.slice a3 m.data.length n3) (.slice a4 m.lx.length n4) m) := Lib.hid (by
      rw [hW3]
      have hB : w.heap.size + 1 ≤ w1.heap.size := hs1
      exact ⟨own_setRow (own_downT HIO.out.c hB) (by omega), own_setRow (own_downT HIO.out.j hB) (by omega), own_setRow (own_downT HIO.out.d hB) (by omega), own_setRow (own_downT HIO.out.n hB) (by omega)⟩)
    have HA3 := Lib.hid (HIO3.out.at H.out)
    have HB3 : Hid (Below w.heap.size w W3) := Lib.hid (by rw [hW3]; exact below_setRow (Bel.tr HB1.out HB2.out) _ (Nat.le_refl _) _)
    have hs3 : w.heap.size < W3.heap.size := by
      have h1 := HB2.out.size
      have h2 : W3.heap.size = w2.heap.size := by rw [hW3]; simp [World.setRow]
      omega
    have HF := Lib.hid (find_any _ _ _ m.code m.js (m.lx.map (·.2)) HA3.out.c HA3.out.j.rowu HA3.out.n.names)
    have HH2' := HH2
    clear HIO HA HH2
    go_wp2_with (((with_reducible refine wpList_store_row (o := ⟨none, .store 28 (.tmp 1) (.tmp 20), _, _, _, none⟩) rfl 28 _ _ rfl w.heap.size #[.slice a1 m.code.length n1, .slice a2 m.js.length n2, .slice a3 m.data.length n3, .int .u32 m.zero, .int .u32 m.stack, .slice a4 m.lx.length n4] ?_ ?_ 28 _ HH2'.out ?_ ?_ ?_ ?_); rfl; rfl; exact info28; rfl; (simp [Value.oneCell'])))
    rw [← hW3]
    rw [← hW3] at r0 r1 r2 r3 r4 r5 HH3
    clear hW3
    refine HF.out.mono ?_
    rintro e w4 ⟨hb4, ⟨i, c, rfl, hbad⟩ | ⟨b, B, rfl, hfo, hB1, hB2, hfd⟩⟩
    · have hcn : ((c : Nat) : Int) ≠ 0 := by have := findBad_pos hbad; omega
      have HB4 := Lib.hid (Bel.tr HB3.out hb4)
      clear hb4
      go_wp2_with fail
      go_ret3
      exact ⟨HB4.out, .inl ⟨i, c, rfl, .inr (.inl ⟨hm, hbad⟩)⟩⟩
    · have s0 := (hb4.cell (p := ⟨w.heap.size, 0, none⟩) hs3).trans r0
      have s1 := (hb4.cell (p := ⟨w.heap.size, 1, none⟩) hs3).trans r1
      have s2 := (hb4.cell (p := ⟨w.heap.size, 2, none⟩) hs3).trans r2
      have s3 := (hb4.cell (p := ⟨w.heap.size, 3, none⟩) hs3).trans r3
      have s4 := (hb4.cell (p := ⟨w.heap.size, 4, none⟩) hs3).trans r4
      have s5 := (hb4.cell (p := ⟨w.heap.size, 5, none⟩) hs3).trans r5
      have hs4 : w.heap.size < w4.heap.size := Nat.lt_of_lt_of_le hs3 hb4.size
      have HB4 := Lib.hid hb4
      have HA4 := Lib.hid (HA3.out.below hb4)
      have hsm := small_of_check hm
      have HD := Lib.hid (flow_any _ _ m.code m.js ⟨hfo.he, hfo.h3, hfo.hall, hfo.hg, fun j hj => absurd hj (Nat.not_lt_zero _)⟩ hsm.c hsm.j HA4.out.c HA4.out.j)
      have HFD := Lib.hid hfd
      have HFO := Lib.hid hfo
      obtain ⟨R, hR⟩ : ∃ R, R = flowN m.code m.js := ⟨_, rfl⟩
      rw [← hR] at HD
      have HR := Lib.hid hR
      clear r0 r1 r2 r3 r4 r5 HF HH3 hb4 hfd hfo hR hsm
      go_wp2_with fail
      refine HD.out.mono ?_
      rintro e w5 ⟨hb5, ⟨hbad, rfl⟩ | ⟨hgood, vd, vm, rfl, od, om⟩⟩
      · have hcn : ((R.2.2.2 : Nat) : Int) ≠ 0 := by omega
        have HB5 := Lib.hid (Bel.tr (Bel.tr HB3.out HB4.out) hb5)
        clear hb5
        go_wp2_with fail
        go_ret3
        exact ⟨HB5.out, .inl ⟨_, _, rfl, .inr (.inr ⟨hm, HFO.out, by rw [← HR.out]; exact hbad, by rw [HR.out], by rw [HR.out]⟩)⟩⟩
      · have k0 := (hb5.cell (p := ⟨w.heap.size, 0, none⟩) hs4).trans s0
        have k1 := (hb5.cell (p := ⟨w.heap.size, 1, none⟩) hs4).trans s1
        have k2 := (hb5.cell (p := ⟨w.heap.size, 2, none⟩) hs4).trans s2
        have k3 := (hb5.cell (p := ⟨w.heap.size, 3, none⟩) hs4).trans s3
        have k4 := (hb5.cell (p := ⟨w.heap.size, 4, none⟩) hs4).trans s4
        have k5 := (hb5.cell (p := ⟨w.heap.size, 5, none⟩) hs4).trans s5
        have hs5 : w.heap.size < w5.heap.size := Nat.lt_of_lt_of_le hs4 hb5.size
        have HB5 := Lib.hid hb5
        have HA5 := Lib.hid (HA4.out.below hb5)
        obtain ⟨xd, yd, rfl, -⟩ := own_sl od
        obtain ⟨xm, ym, rfl, -⟩ := own_sl om
        have HOD := Lib.hid od
        have HOM := Lib.hid om
        have hb229 := run_b229
        have hb231 := run_b231
        have hb233 := run_b233
        clear s0 s1 s2 s3 s4 s5 hb5 od om HD
        obtain ⟨Wa, hWa⟩ : ∃ Wa, Wa = w5.alloc (.cells #[.pointer (some ⟨b, 0, none⟩), .slice xm R.2.1.length ym, .slice a1 m.code.length n1, .slice xd R.1.length yd, .slice a1 m.code.length n1, .slice a2 m.js.length n2, .slice a3 m.data.length n3, .int .u32 m.zero, .int .u32 m.stack, .slice a4 m.lx.length n4, .int .i64 0, .int .u64 0] 233) := ⟨_, rfl⟩
        have hha : Wa.heap[w5.heap.size]? = some (.cells #[.pointer (some ⟨b, 0, none⟩), .slice xm R.2.1.length ym, .slice a1 m.code.length n1, .slice xd R.1.length yd, .slice a1 m.code.length n1, .slice a2 m.js.length n2, .slice a3 m.data.length n3, .int .u32 m.zero, .int .u32 m.stack, .slice a4 m.lx.length n4, .int .i64 0, .int .u64 0] 233) := by rw [hWa]; exact heap_alloc_new w5 _
        have hsa : w5.heap.size < Wa.heap.size := by rw [hWa]; simp
        have hba : Below w5.heap.size w5 Wa := by rw [hWa]; exact Bel.new w5 _
        have HHa := Lib.hid hha
        have HBa := Lib.hid hba
        have HBi := Lib.hid (bits_any _ _ _ _ m hm (checkI_ok hm).2.2.2.2.1 Wa (HA5.out.below hba))
        clear hha hba
        go_wp2_with fail
        rw [← hWa]
        clear hWa
        refine HBi.out.mono ?_
        rintro e w6 ⟨rfl, hb6⟩
        obtain ⟨tb, htb⟩ : ∃ tb, tb = w5.heap.size := ⟨_, rfl⟩
        have hh6 := (hb6.block w5.heap.size hsa).trans HHa.out
        have hb56 := Bel.tr HBa.out hb6
        have hs6 : tb < w6.heap.size := by rw [htb]; exact Nat.lt_of_lt_of_le hsa hb6.size
        rw [← htb] at hh6
        have Htb := Lib.hid htb
        rw [← htb]
        have q10 := cell_of_row w6 tb 10 _ _ _ hh6
        have f10 := frozen_of_row w6 tb 10 _ _ hh6
        obtain ⟨W6, hW6⟩ : ∃ W6, W6 = w6.setCell ⟨tb, 10, none⟩ (.int .i64 (bitsI m)) := ⟨_, rfl⟩
        have hB6 : Below w5.heap.size w5 W6 := by rw [hW6]; exact hb56.setCell (p := ⟨tb, 10, none⟩) (by show w5.heap.size ≤ tb; omega) _
        have hh7 := heap_setCell_same _ _ 10 _ _ (.int .i64 (bitsI m)) hh6
        rw [← hW6] at hh7
        have HH7 := Lib.hid hh7
        have l0 : (w6.setCell ⟨tb, 10, none⟩ (.int .i64 (bitsI m))).cell? ⟨w.heap.size, 0, none⟩ = _ := (by rw [← hW6]; exact hB6.cell (p := ⟨w.heap.size, 0, none⟩) hs5 : _ = w5.cell? ⟨w.heap.size, 0, none⟩).trans k0
        have l1 : (w6.setCell ⟨tb, 10, none⟩ (.int .i64 (bitsI m))).cell? ⟨w.heap.size, 1, none⟩ = _ := (by rw [← hW6]; exact hB6.cell (p := ⟨w.heap.size, 1, none⟩) hs5 : _ = w5.cell? ⟨w.heap.size, 1, none⟩).trans k1
        have l2 : (w6.setCell ⟨tb, 10, none⟩ (.int .i64 (bitsI m))).cell? ⟨w.heap.size, 2, none⟩ = _ := (by rw [← hW6]; exact hB6.cell (p := ⟨w.heap.size, 2, none⟩) hs5 : _ = w5.cell? ⟨w.heap.size, 2, none⟩).trans k2
        have l3 : (w6.setCell ⟨tb, 10, none⟩ (.int .i64 (bitsI m))).cell? ⟨w.heap.size, 3, none⟩ = _ := (by rw [← hW6]; exact hB6.cell (p := ⟨w.heap.size, 3, none⟩) hs5 : _ = w5.cell? ⟨w.heap.size, 3, none⟩).trans k3
        have l4 : (w6.setCell ⟨tb, 10, none⟩ (.int .i64 (bitsI m))).cell? ⟨w.heap.size, 4, none⟩ = _ := (by rw [← hW6]; exact hB6.cell (p := ⟨w.heap.size, 4, none⟩) hs5 : _ = w5.cell? ⟨w.heap.size, 4, none⟩).trans k4
        have l5 : (w6.setCell ⟨tb, 10, none⟩ (.int .i64 (bitsI m))).cell? ⟨w.heap.size, 5, none⟩ = _ := (by rw [← hW6]; exact hB6.cell (p := ⟨w.heap.size, 5, none⟩) hs5 : _ = w5.cell? ⟨w.heap.size, 5, none⟩).trans k5
        have HB6 := Lib.hid hB6
        have HEn := Lib.hid (imgEncode_any _ _ _ _ m hm W6 (HA5.out.below hB6))
        have hst6 : tb < W6.heap.size := by
          have := World.block_lt_of_cell? W6 ⟨tb, 0, none⟩ (cell_of_row W6 tb 0 _ _ _ hh7)
          exact this
        have hlt := Lib.hid (rawI_lt' (m := m) HA5.out.c.2 HA5.out.d.2)
        clear htb hh6 hb56 hB6 hh7 k0 k1 k2 k3 k4 k5 hb6 HBi HHa
        go_wp2_with fail
        rw [← hW6]
        clear hW6 l0 l1 l2 l3 l4 l5 q10 f10
        refine HEn.out.mono ?_
        rintro e w7 ⟨ub, rfl, ob, hb7⟩
        have hh7 := (hb7.block tb hst6).trans HH7.out
        have HB7 := Lib.hid (Bel.tr HB6.out hb7)
        have HSm := Lib.hid (sum_bytes _ (imgB m) w7 (own_bytes ob hlt.out))
        obtain ⟨xb, yb, rfl, -⟩ := own_sl ob
        have q11 := cell_of_row w7 tb 11 _ _ _ hh7
        have f11 := frozen_of_row w7 tb 11 _ _ hh7
        have Hh7 := Lib.hid hh7
        clear hb7 ob hh7 HEn HH7
        go_wp2_with fail
        refine HSm.out.mono ?_
        rintro e w8 ⟨rfl, rfl⟩
        have hsl := sumN_lt (imgB m)
        have hil := imgB_length_le m hm
        have Hdg := Lib.hid (show digN m = sumN (imgB m) * 4294967296 + (imgB m).length from rfl)
        have hb303 := run_b303
        have hu1 : IntKind.u64.wrap ((sumN (imgB m) : Nat) : Int) = ((sumN (imgB m) : Nat) : Int) := by rw [IntKind.wrap_u64]; omega
        have hu2 : IntKind.u64.wrap (((imgB m).length : Nat) : Int) = (((imgB m).length : Nat) : Int) := by rw [IntKind.wrap_u64]; omega
        have hu3 : IntKind.u64.wrap (((sumN (imgB m) : Nat) : Int) * 4294967296) = ((sumN (imgB m) : Nat) : Int) * 4294967296 := by rw [IntKind.wrap_u64]; omega
        have hu4 : IntKind.u64.wrap (((sumN (imgB m) : Nat) : Int) * 4294967296 + (((imgB m).length : Nat) : Int)) = ((digN m : Nat) : Int) := by rw [IntKind.wrap_u64, Hdg.out]; omega
        generalize sumN (imgB m) = sm at *
        generalize (imgB m).length = il at *
        clear HSm
        go_wp2_with fail
        go_ret3
        have hb9 : Below w5.heap.size w5 ((w7.setCell ⟨tb, 11, none⟩ (.int .u64 (digN m))).alloc (.cells #[.pointer (some ⟨tb, 0, none⟩)] 303)) := Bel.al (HB7.out.setCell (p := ⟨tb, 11, none⟩) (by show w5.heap.size ≤ tb; rw [Htb.out]; exact Nat.le_refl _) _) _
        have h8 := heap_setCell_same _ _ 11 _ _ (.int .u64 (digN m)) Hh7.out
        have ht8 : tb < (w7.setCell ⟨tb, 11, none⟩ (.int .u64 (digN m))).heap.size := World.block_lt_of_cell? _ ⟨tb, 0, none⟩ (cell_of_row _ tb 0 _ _ _ h8)
        have h9 := (Below.heap_alloc (w7.setCell ⟨tb, 11, none⟩ (.int .u64 (digN m))) (.cells #[.pointer (some ⟨tb, 0, none⟩)] 303) tb ht8).trans h8
        have hwt : w.heap.size ≤ tb := by rw [Htb.out]; omega
        have hw7 : w.heap.size ≤ w7.heap.size := by have := HB7.out.size; omega
        have hio9 := HIO3.out.below (Bel.tr (Bel.tr HB4.out HB5.out) hb9)
        refine ⟨Bel.tr (Bel.tr (Bel.tr HB3.out HB4.out) HB5.out) hb9, .inr ⟨w7.heap.size, rfl, ⟨hm, HFO.out, by rw [← HR.out]; omega⟩, hw7, tb, b, .slice xm R.2.1.length ym, .slice a1 m.code.length n1, .slice xd R.1.length yd, .slice a2 m.js.length n2, .slice a3 m.data.length n3, .slice a4 m.lx.length n4, cell1_new _ _ _ (by simp), hwt, ?_, ?_, ?_, ?_, ?_⟩⟩
        · exact ⟨cell_of_row _ tb 0 _ _ _ h9, cell_of_row _ tb 1 _ _ _ h9, cell_of_row _ tb 2 _ _ _ h9, cell_of_row _ tb 3 _ _ _ h9, cell_of_row _ tb 4 _ _ _ h9, cell_of_row _ tb 5 _ _ _ h9, cell_of_row _ tb 6 _ _ _ h9, cell_of_row _ tb 7 _ _ _ h9, cell_of_row _ tb 8 _ _ _ h9, cell_of_row _ tb 9 _ _ _ h9, cell_of_row _ tb 10 _ _ _ h9, cell_of_row _ tb 11 _ _ _ h9⟩
        · exact ⟨own_downT hio9.c (by omega), own_downT hio9.j (by omega), own_downT hio9.d (by omega), own_downT hio9.n (by omega)⟩
        · obtain ⟨vp, vo, vt, us, tag, hA⟩ := HFD.out
          exact ⟨B, by omega, FoundAt.below ⟨vp, vo, vt, us, hA.at_⟩ (Bel.tr HB5.out hb9)⟩
        · rw [← HR.out]; exact own_below (own_downT HOD.out (by omega)) hb9
        · rw [← HR.out]; exact own_below (own_downT HOM.out (by omega)) hb9
  · have hne : ((checkI m : Nat) : Int) ≠ 0 := by omega
    go_wp2_with fail
    go_ret3
    exact ⟨HB1.out, .inl ⟨0, _, rfl, .inl ⟨hm, rfl, rfl⟩⟩⟩
end Go.Proofs.YtgpicmiaanapkaaGreat
/- What a proved program tells of itself: its block, its bits, its image. -/
namespace Go.Proofs.YtgpicmiaanapkaaGreat
open Go.RowKit
set_option linter.unusedVariables false
theorem ModAt.below {W W' : World} {B mb : Nat} {m : Img} (h : ModAt W B mb m) (hb : Below W.heap.size W W') : ModAt W' B mb m := by
  obtain ⟨h0, tb, b, vm, uc, vd, uj, ud, un, hm, ht, ⟨c0, c1, c2, c3, c4, c5, c6, c7, c8, c9, c10, c11⟩, hi, ⟨B', hB, hf⟩, hd, hv⟩ := h
  have hl := World.block_lt_of_cell? _ _ hm
  have hl2 := World.block_lt_of_cell? _ _ c0
  exact ⟨h0, tb, b, vm, uc, vd, uj, ud, un, (hb.cell (p := ⟨mb, 0, none⟩) hl).trans hm, ht,
    ⟨(hb.cell (p := ⟨tb, 0, none⟩) hl2).trans c0, (hb.cell (p := ⟨tb, 1, none⟩) hl2).trans c1, (hb.cell (p := ⟨tb, 2, none⟩) hl2).trans c2, (hb.cell (p := ⟨tb, 3, none⟩) hl2).trans c3, (hb.cell (p := ⟨tb, 4, none⟩) hl2).trans c4, (hb.cell (p := ⟨tb, 5, none⟩) hl2).trans c5, (hb.cell (p := ⟨tb, 6, none⟩) hl2).trans c6, (hb.cell (p := ⟨tb, 7, none⟩) hl2).trans c7, (hb.cell (p := ⟨tb, 8, none⟩) hl2).trans c8, (hb.cell (p := ⟨tb, 9, none⟩) hl2).trans c9, (hb.cell (p := ⟨tb, 10, none⟩) hl2).trans c10, (hb.cell (p := ⟨tb, 11, none⟩) hl2).trans c11⟩,
    hi.below hb, ⟨B', hB, hf.below hb⟩, own_below hd hb, own_below hv hb⟩
/-- The module's block. -/
theorem all_mod (mb tb : Nat) (w : World) (h : w.cell? ⟨mb, 0, none⟩ = some (.pointer (some ⟨tb, 0, none⟩))) :
    Calls Tryz.prog 106 #[.pointer (some ⟨mb, 0, none⟩)] w fun e w' => e = .returned (.pointer (some ⟨tb, 0, none⟩)) ∧ w = w' := by
  go_enter Tryz.func106, Tryz.ntmps106
  go_wp2_with fail
  go_ret
  exact ⟨rfl, rfl⟩
theorem bitsOf_any (mb : Nat) (m : Img) (B : Nat) (w : World) (h : ModAt w B mb m) :
    Calls Tryz.prog 112 #[.pointer (some ⟨mb, 0, none⟩)] w fun e w' => e = .returned (.int .i64 (bitsI m)) ∧ w = w' := by
  obtain ⟨h0, tb, b, vm, uc, vd, uj, ud, un, hm, ht, ⟨c0, c1, c2, c3, c4, c5, c6, c7, c8, c9, c10, c11⟩, hi, ⟨B', hB, hf⟩, hd, hv⟩ := h
  have HA := Lib.hid (all_mod mb tb w hm)
  clear hi hf hd hv
  go_enter Tryz.func112, Tryz.ntmps112
  go_wp2_with fail
  refine HA.out.mono ?_
  rintro e w1 ⟨rfl, rfl⟩
  go_wp2_with fail
  go_ret
  exact ⟨rfl, rfl⟩
/-- How deep the stack is ahead of an instruction; -1 behind the code. -/
def depthAt (D : List Int) (i : Nat) : Int := D.getD i (-1)
set_option maxRecDepth 100000 in
set_option maxHeartbeats 1000000 in
theorem depth_any (xa : Option Addr) (xn xc : Nat) (D : List Int) (i : Nat) (hi : i < 4294967296) (w : World) (B : Nat) (v : Value) (h : w.ownsRow B 3 1 v D.length (encZ D)) :
    Calls Tryz.prog 265 #[.agg #[.slice xa xn xc, v], .int .u32 i] w fun e w' => e = .returned (.int .i64 (depthAt D i)) ∧ Below w.heap.size w w' := by
  obtain ⟨sa, sc, rfl, hnc, hcm, hp⟩ := own_sl h
  have hl : (encZ D).length = D.length := by simp [encZ]
  have hm : D.length ≤ 9223372036854775807 := by unfold maxLen at hcm; omega
  have hu1 : IntKind.u64.wrap ((i : Nat) : Int) = ((i : Nat) : Int) := by rw [IntKind.wrap_u64]; omega
  have hu2 : IntKind.u64.wrap ((D.length : Nat) : Int) = ((D.length : Nat) : Int) := by rw [IntKind.wrap_u64]; omega
  by_cases hlt : i < D.length
  · obtain ⟨g, rfl, hg, hc⟩ := hp (by omega)
    have hci := hc i (by omega)
    have hge : ¬ ((D.length : Int) ≤ (i : Int)) := by omega
    have hki : (i : Int) < (D.length : Int) := by omega
    have hk0 : (0 : Int) ≤ (i : Int) := by omega
    have hz : (encZ D)[i]? = some (.int .i64 (depthAt D i)) := by
      simp [encZ, depthAt, List.getD_eq_getElem?_getD, hlt]
    have hcell := hci.trans hz
    have hcell' := ((Bel.new w (.cells #[.slice xa xn xc, .slice (some ⟨g, 0, none⟩) D.length sc] 231)).cell (p := ⟨g, i, none⟩) hg).trans hcell
    clear hp hc hci hz h
    go_enter Tryz.func265, Tryz.ntmps265
    go_wp2_with fail
    go_ret
    exact ⟨rfl, Bel.new w _⟩
  · have hge : (D.length : Int) ≤ (i : Int) := by omega
    have hz : depthAt D i = -1 := by
      unfold depthAt
      rw [List.getD_eq_getElem?_getD, List.getElem?_eq_none (by omega)]
      rfl
    rw [hz]
    clear hp h
    go_enter Tryz.func265, Tryz.ntmps265
    go_wp2_with fail
    go_ret
    exact ⟨rfl, Bel.new w _⟩
theorem depthOf_any (mb : Nat) (m : Img) (B : Nat) (w : World) (h : ModAt w B mb m) (i : Nat) (hi : i < 4294967296) :
    Calls Tryz.prog 145 #[.pointer (some ⟨mb, 0, none⟩), .int .u32 i] w fun e w' => e = .returned (.int .i64 (depthAt (flowN m.code m.js).1 i)) ∧ Below w.heap.size w w' := by
  obtain ⟨h0, tb, b, vm, uc, vd, uj, ud, un, hm, ht, ⟨c0, c1, c2, c3, c4, c5, c6, c7, c8, c9, c10, c11⟩, hio, ⟨B', hB, hf⟩, hd, hv⟩ := h
  have HA := Lib.hid (all_mod mb tb w hm)
  obtain ⟨a1, n1, rfl, -⟩ := own_sl hio.c
  have HD := Lib.hid (depth_any a1 m.code.length n1 (flowN m.code m.js).1 i hi w B vd hd)
  obtain ⟨a2, n2, rfl, -⟩ := own_sl hd
  generalize (flowN m.code m.js).1 = D at *
  clear hio hf hd hv
  go_enter Tryz.func145, Tryz.ntmps145
  go_wp2_with fail
  refine HA.out.mono ?_
  rintro e w1 ⟨rfl, rfl⟩
  go_wp2_with fail
  refine HD.out.mono ?_
  rintro e w1 ⟨rfl, hb⟩
  have HB := Lib.hid hb
  clear hb
  go_wp2_with fail
  go_ret
  exact ⟨rfl, HB.out⟩
/-- The image that the module gives out: a copy. -/
theorem image_any (mb : Nat) (m : Img) (B : Nat) (w : World) (hs : Small m) (h : ModAt w B mb m) (w0 : World) (xc xj xd xn : Value) (hx : ImgAt w0 xc xj xd xn m) :
    Calls Tryz.prog 24 #[.pointer (some ⟨mb, 0, none⟩)] w fun e w' => ∃ uc uj ud un, e = .returned (.agg #[uc, uj, ud, .int .u32 m.zero, .int .u32 m.stack, un]) ∧ ImgOwn w' w.heap.size uc uj ud un m ∧ Below w.heap.size w w' := by
  obtain ⟨h0, tb, b, vm, uc, vd, uj, ud, un, hm, ht, ⟨c0, c1, c2, c3, c4, c5, c6, c7, c8, c9, c10, c11⟩, hi, ⟨B', hB, hf⟩, hd, hv⟩ := h
  have hz := zero28
  have HI := Lib.hid (hi.at hx)
  obtain ⟨a1, n1, rfl, -⟩ := own_sl hi.c
  obtain ⟨a2, n2, rfl, -⟩ := own_sl hi.j
  obtain ⟨a3, n3, rfl, -⟩ := own_sl hi.d
  obtain ⟨a4, n4, rfl, -⟩ := own_sl hi.n
  have hl1 := World.block_lt_of_cell? _ _ hm
  have hl2 := World.block_lt_of_cell? _ _ c0
  clear hi hf hd hv
  obtain ⟨Wa, hWa⟩ : ∃ Wa, Wa = w.alloc (.cells #[.slice none 0 0, .slice none 0 0, .slice none 0 0, .int .u32 0, .int .u32 0, .slice none 0 0] 28) := ⟨_, rfl⟩
  have hba : Below w.heap.size w Wa := by rw [hWa]; exact Bel.new _ _
  have HA := Lib.hid (all_mod mb tb Wa ((hba.cell (p := ⟨mb, 0, none⟩) hl1).trans hm))
  have HCP := Lib.hid (copied_any _ _ _ _ m hs Wa (HI.out.below hba))
  have e4 := (hba.cell (p := ⟨tb, 4, none⟩) hl2).trans c4
  have e5 := (hba.cell (p := ⟨tb, 5, none⟩) hl2).trans c5
  have e6 := (hba.cell (p := ⟨tb, 6, none⟩) hl2).trans c6
  have e7 := (hba.cell (p := ⟨tb, 7, none⟩) hl2).trans c7
  have e8 := (hba.cell (p := ⟨tb, 8, none⟩) hl2).trans c8
  have e9 := (hba.cell (p := ⟨tb, 9, none⟩) hl2).trans c9
  have hha : Wa.heap[w.heap.size]? = some (.cells #[.slice none 0 0, .slice none 0 0, .slice none 0 0, .int .u32 0, .int .u32 0, .slice none 0 0] 28) := by rw [hWa]; exact heap_alloc_new w _
  have hsa : w.heap.size < Wa.heap.size := by rw [hWa]; simp
  have HHa := Lib.hid hha
  have HBa := Lib.hid hba
  clear c0 c1 c2 c3 c4 c5 c6 c7 c8 c9 c10 c11 hm hha hba
  go_enter Tryz.func24, Tryz.ntmps24
  go_wp2_with fail
  rw [← hWa]
  clear hWa
  refine HA.out.mono ?_
  rintro e w1 ⟨rfl, rfl⟩
  go_wp2_with fail
  refine HCP.out.mono ?_
  rintro e w2 ⟨uc, uj, ud, un, rfl, hio, hb2⟩
  obtain ⟨b1, m1, rfl, -⟩ := own_sl hio.c
  obtain ⟨b2, m2, rfl, -⟩ := own_sl hio.j
  obtain ⟨b3, m3, rfl, -⟩ := own_sl hio.d
  obtain ⟨b4, m4, rfl, -⟩ := own_sl hio.n
  have HH2 := Lib.hid ((hb2.block w.heap.size hsa).trans HHa.out)
  have HIO := Lib.hid hio
  have HB2 := Lib.hid hb2
  clear hio hb2
  go_wp2_with (((with_reducible refine wpList_store_row (o := ⟨none, .store 28 (.tmp 2) (.tmp 8), _, _, _, none⟩) rfl 28 _ _ rfl w.heap.size #[.slice b1 m.code.length m1, .slice b2 m.js.length m2, .slice b3 m.data.length m3, .int .u32 m.zero, .int .u32 m.stack, .slice b4 m.lx.length m4] ?_ ?_ 28 _ HH2.out ?_ ?_ ?_ ?_); rfl; rfl; exact info28; rfl; (simp [Value.oneCell'])))
  refine bodyPost_ret (v := .agg #[.slice b1 m.code.length m1, .slice b2 m.js.length m2, .slice b3 m.data.length m3, .int .u32 m.zero, .int .u32 m.stack, .slice b4 m.lx.length m4]) (results_cell_row Tryz.results24 _ _ w.heap.size 28 _ (0, 0) _ rfl (setRow_heap _ _ _ _ _ _ HH2.out) Tryz.underlying28 rfl info28) rfl ⟨_, _, _, _, rfl, ?_, ?_⟩
  · exact ⟨own_downT (own_setRow HIO.out.c hsa) (Nat.le_of_lt hsa), own_downT (own_setRow HIO.out.j hsa) (Nat.le_of_lt hsa), own_downT (own_setRow HIO.out.d hsa) (Nat.le_of_lt hsa), own_downT (own_setRow HIO.out.n hsa) (Nat.le_of_lt hsa)⟩
  · exact (Bel.tr HBa.out HB2.out).trans (below_setRowB _ _ _ (Nat.le_refl _))
end Go.Proofs.YtgpicmiaanapkaaGreat
/- fold.Pieces. -/
namespace Go.Proofs.YtgpicmiaanapkaaGreat
open Go.RowKit
set_option linter.unusedVariables false
def encPc (l : List (Nat × Nat × Nat × Nat)) : List Value := l.flatMap fun p => [.int .u32 p.1, .int .u32 p.2.1, .int .u8 p.2.2.1, .int .u32 p.2.2.2]
theorem encPc_length (l : List (Nat × Nat × Nat × Nat)) : (encPc l).length = l.length * 4 := by
  induction l with
  | nil => rfl
  | cons p l ih => rw [show encPc (p :: l) = [.int .u32 p.1, .int .u32 p.2.1, .int .u8 p.2.2.1, .int .u32 p.2.2.2] ++ encPc l from rfl, List.length_append, ih]; simp; omega
theorem encPc_append (l m : List (Nat × Nat × Nat × Nat)) : encPc (l ++ m) = encPc l ++ encPc m := by simp [encPc]
theorem encPc_at (l : List (Nat × Nat × Nat × Nat)) : ∀ k, k < l.length → (encPc l)[k * 4]? = some (.int .u32 (l.getD k (0, 0, 0, 0)).1) ∧ (encPc l)[k * 4 + 1]? = some (.int .u32 (l.getD k (0, 0, 0, 0)).2.1) ∧
    (encPc l)[k * 4 + 2]? = some (.int .u8 (l.getD k (0, 0, 0, 0)).2.2.1) ∧ (encPc l)[k * 4 + 3]? = some (.int .u32 (l.getD k (0, 0, 0, 0)).2.2.2) := by
  induction l with
  | nil => intro k h; simp at h
  | cons p l ih =>
    intro k h
    have e : encPc (p :: l) = [.int .u32 p.1, .int .u32 p.2.1, .int .u8 p.2.2.1, .int .u32 p.2.2.2] ++ encPc l := rfl
    cases k with
    | zero => rw [e]; exact ⟨rfl, rfl, rfl, rfl⟩
    | succ k =>
      obtain ⟨h1, h2, h3, h4⟩ := ih k (by simpa using h)
      rw [e]
      have f : ∀ t, ([.int .u32 p.1, .int .u32 p.2.1, .int .u8 p.2.2.1, .int .u32 p.2.2.2] ++ encPc l : List Value)[(k + 1) * 4 + t]? = (encPc l)[k * 4 + t]? := fun t => by
        rw [List.getElem?_append_right (by simp; omega)]; congr 1; simp; omega
      exact ⟨(f 0).trans h1, (f 1).trans h2, (f 2).trans h3, (f 3).trans h4⟩
theorem info119 : (Tryz.prog.info? 119).map (fun i => (i.zero, i.size, i.bytes)) = some (some (.agg #[.int .u32 0, .int .u32 0, .int .u8 0, .int .u32 0]), 4, 16) := by kernel_rfl
theorem run_b119 (x : Int) (w : World) : (Instr.build 119 #[(0, .int .u32 x), (1, .int .u32 1), (2, .int .u8 1)]).run Tryz.prog w = .ok (.agg #[.int .u32 x, .int .u32 1, .int .u8 1, .int .u32 0]) w := by kernel_rfl
theorem run_bs111 (a b c d : Int) (w : World) : (Instr.buildSlice 111 1 #[(0, .agg #[.int .u32 a, .int .u32 b, .int .u8 c, .int .u32 d])]).run Tryz.prog w = .ok (.slice (some ⟨w.heap.size, 0, none⟩) 1 1) (w.alloc (.cells #[.int .u32 a, .int .u32 b, .int .u8 c, .int .u32 d] 119)) := by kernel_rfl
theorem u32_wrap' (n : Nat) (h : n < 4294967296) : IntKind.u32.wrap ((n : Nat) : Int) = ((n : Nat) : Int) := by rw [IntKind.wrap_u32]; omega
def PcPost (m : Img) (w : World) (e : Ending) (w' : World) : Prop :=
  ∃ v l, e = .returned (.tuple #[v, .int .i64 0]) ∧ w'.ownsRow w.heap.size 119 4 v l.length (encPc l) ∧ Pieces m.code (leadB m.code m.js) 0 l m.code.length ∧ Below w.heap.size w w'
set_option maxRecDepth 100000 in
set_option maxHeartbeats 4000000 in
theorem pieces_any (mb : Nat) (m : Img) (B : Nat) (w : World) (hk : TakeOk m) (h : ModAt w B mb m) (w0 : World) (xc xj xd xn : Value) (hx : ImgAt w0 xc xj xd xn m) :
    Calls Tryz.prog 58 #[.pointer (some ⟨mb, 0, none⟩)] w (PcPost m w) := by
  obtain ⟨i119, hi119, hz0, hz1, hz2⟩ := info_parts info119
  have hb119 := run_b119
  have hbs111 := run_bs111
  obtain ⟨hc1, hc2, hc3, hc4, hc5, hc6, hc7⟩ := checkI_ok hk.k
  have hb8 := (bitsI_spec (m := m) (by omega)).1
  have hne : ((bitsI m : Int) == 0) = false := by simp; omega
  have HBi := Lib.hid (bitsOf_any mb m B w h)
  have HIm := Lib.hid (image_any mb m B w (small_of_check hk.k) h w0 xc xj xd xn hx)
  have hfn : FindOk m.code m.js [] := ⟨hk.f.he, hk.f.h3, hk.f.hall, hk.f.hg, fun j hj => absurd hj (Nat.not_lt_zero j)⟩
  have HLd := Lib.hid (fun (v1 v2 : Value) (W : World) (q1 : Instrs W v1 m.code) (q2 : Words W v2 m.js) => leaders_any v1 v2 m.code m.js hc1 hc3
    (fun i hi hki => Nat.le_of_lt (hfn.target i hi (by omega)).1) (fun i hi => Nat.le_of_lt (hfn.jumps i hi).1) W q1 q2)
  have Hck := Lib.hid (encRes_all hfn.he)
  have HM := Lib.hid h
  have HX := Lib.hid hx
  generalize bitsI m = bits at *
  clear hc2 hc4 hc5 hc6 hc7 h hx hfn hb8
  go_enter Tryz.func58, Tryz.ntmps58
  go_wp2_with fail
  refine HBi.out.mono ?_
  rintro e w1 ⟨rfl, rfl⟩
  go_wp2_with fail
  refine HIm.out.mono ?_
  rintro e w1 ⟨uc, uj, ud, un, rfl, hio, hb1⟩
  obtain ⟨a1, n1, rfl, -⟩ := own_sl hio.c
  obtain ⟨a2, n2, rfl, -⟩ := own_sl hio.j
  obtain ⟨a3, n3, rfl, -⟩ := own_sl hio.d
  obtain ⟨a4, n4, rfl, -⟩ := own_sl hio.n
  obtain ⟨W2, hW2⟩ : ∃ W2, W2 = w1.alloc (.cells #[.slice a1 m.code.length n1, .slice a2 m.js.length n2, .slice a3 m.data.length n3, .int .u32 m.zero, .int .u32 m.stack, .slice a4 m.lx.length n4] 28) := ⟨_, rfl⟩
  have hB2 : Below w1.heap.size w1 W2 := by rw [hW2]; exact Bel.new _ _
  have hA := (hio.at HX.out).below hB2
  have HL2 := Lib.hid (HLd.out _ _ W2 hA.c hA.j)
  have HA := Lib.hid hA
  have k0 : W2.cell? ⟨w1.heap.size, 0, none⟩ = some (.slice a1 m.code.length n1) := by rw [hW2]; exact (cells_new6 w1 _ _ _ _ _ _ 28).1
  have hs2 : w1.heap.size < W2.heap.size := by rw [hW2]; simp
  have HB2 := Lib.hid (Bel.tr hb1 hB2)
  clear hio hb1 hB2 hA HBi HIm HLd
  go_wp2_with fail
  rw [← hW2]
  clear hW2
  refine HL2.out.mono ?_
  rintro e w3 ⟨vb, rfl, ho3, hb3⟩
  have k3 := (hb3.cell (p := ⟨w1.heap.size, 0, none⟩) hs2).trans k0
  have hs3 : w1.heap.size < w3.heap.size := Nat.lt_of_lt_of_le hs2 hb3.size
  have HA3 := Lib.hid (HA.out.below hb3)
  have HB3 := Lib.hid (Bel.tr HB2.out hb3)
  obtain ⟨ab, nb, rfl, hnb, -, hpb⟩ := own_sl ho3
  obtain ⟨gb, rfl, hgb, hcb⟩ := hpb (by omega)
  have Hcb := Lib.hid (show ∀ j, j ≤ m.code.length → w3.cell? ⟨gb, j, none⟩ = some (.bool (leadB m.code m.js j)) from fun j hj => by
    rw [hcb j (by rw [encT_length, leadN, leadJ_length]; omega)]
    have hjl : j < (leadN m.code m.js).length := by rw [leadN, leadJ_length]; omega
    simp [encT, leadB, List.getD_eq_getElem?_getD, hjl])
  have Hk3 := Lib.hid k3
  clear hb3 ho3 hcb hpb k0 hs2 HL2 HA HB2 k3
  go_wp2_with fail
  go_loopw [6, 7] (fun v x wr => ∃ (a : Nat) (l : List (Nat × Nat × Nat × Nat)), a ≤ m.code.length ∧ x = .int .u32 a ∧ l.length ≤ a ∧ Pieces m.code (leadB m.code m.js) 0 l a ∧ wr.ownsRow w3.heap.size 119 4 v l.length (encPc l) ∧ Below w3.heap.size w3 wr) (fun _ x _ => m.code.length - (intOf x).toNat)
  case atStart => exact ⟨0, [], by omega, rfl, by simp, .nil 0, World.ownsRow_nil _ _ _ _, Below.refl _ _⟩
  case round =>
    obtain ⟨a, l, ha, rfl, hla, hpc, ho, hbr⟩ := hrel
    obtain ⟨wo, rfl⟩ : ∃ wo : World, wo = wr := ⟨_, rfl⟩
    have HO := Lib.hid ho
    have HBr := Lib.hid hbr
    have HPc := Lib.hid hpc
    have k4 := (hbr.cell (p := ⟨w1.heap.size, 0, none⟩) hs3).trans Hk3.out
    have hs4 : w1.heap.size < wo.heap.size := Nat.lt_of_lt_of_le hs3 hbr.size
    have hne4 : wo.heap.size ≠ w1.heap.size := by omega
    clear ho hbr hpc
    by_cases hlt : a < m.code.length
    · have hki : (a : Int) < (m.code.length : Int) := by omega
      have hw1 : IntKind.u32.wrap ((a : Int) + 1) = ((a + 1 : Nat) : Int) := by rw [show (a : Int) + 1 = ((a + 1 : Nat) : Int) from by omega]; exact u32_wrap' _ (by omega)
      go_wp2_with fail
      go_loopw [8] (fun x wr => ∃ e : Nat, a < e ∧ e ≤ m.code.length ∧ x = .int .u32 e ∧ (∀ j, a < j → j < e → leadB m.code m.js j = false) ∧ wr = wo) (fun x _ => m.code.length - (intOf x).toNat)
      case atStart => exact ⟨a + 1, by omega, by omega, by go_num, fun j h1 h2 => by omega, rfl⟩
      case round =>
        obtain ⟨e, he1, he2, rfl, hnl, rfl⟩ := hrel
        have Hnl := Lib.hid hnl
        have hcb := (HBr.out.cell (p := ⟨gb, e, none⟩) hgb).trans (Hcb.out e he2)
        have hge := Nat.lt_of_lt_of_le hgb HBr.out.size
        have hki2 : (e : Int) < (m.code.length : Int) + 1 := by omega
        have hk02 : (0 : Int) ≤ (e : Int) := by omega
        clear hnl
        cases hl : leadB m.code m.js e
        · have hen : e ≠ m.code.length := fun h => by subst h; rw [leadB_end] at hl; cases hl
          have hw2 : IntKind.u32.wrap ((e : Int) + 1) = ((e + 1 : Nat) : Int) := by rw [show (e : Int) + 1 = ((e + 1 : Nat) : Int) from by omega]; exact u32_wrap' _ (by omega)
          rw [hl] at hcb
          have Hl := Lib.hid hl
          clear hl
          go_wp2_with fail
          go_roundw
          case rel => exact ⟨e + 1, by omega, by omega, by go_num, fun j h1 h2 => by
            by_cases h : j = e
            · rw [h]; exact Hl.out
            · exact Hnl.out j h1 (by omega), trivial⟩
          case measure => simp [intOf]; omega
        · rw [hl] at hcb
          have Hl := Lib.hid hl
          clear hl
          obtain ⟨Wp, hWp⟩ : ∃ Wp, Wp = wr.alloc (.cells #[.int .u32 a, .int .u32 1, .int .u8 1, .int .u32 0] 119) := ⟨_, rfl⟩
          have hBp : Below wr.heap.size wr Wp := by rw [hWp]; exact Bel.new _ _
          have hhp : Wp.heap[wr.heap.size]? = some (.cells #[.int .u32 a, .int .u32 1, .int .u8 1, .int .u32 0] 119) := by rw [hWp]; exact heap_alloc_new _ _
          have HMp := Lib.hid (HM.out.below (Bel.tr (Bel.tr HB3.out HBr.out) hBp))
          have HD := Lib.hid (depthOf_any mb m B Wp HMp.out a (by omega))
          have k5 := (hBp.cell (p := ⟨w1.heap.size, 0, none⟩) hs4).trans k4
          have HBp := Lib.hid hBp
          have Hhp := Lib.hid hhp
          have hsp : wr.heap.size < Wp.heap.size := by rw [hWp]; simp
          have hl1 := HM.out
          clear hBp hhp k4 hl1
          go_wp2_with fail
          rw [← hWp]
          clear hWp
          refine HD.out.mono ?_
          rintro x w4 ⟨rfl, hb4⟩
          have HB4 := Lib.hid (Bel.tr HBp.out hb4)
          have Hh4 := Lib.hid ((hb4.block wr.heap.size hsp).trans Hhp.out)
          have k6 := (hb4.cell (p := ⟨w1.heap.size, 0, none⟩) (Nat.lt_trans hs4 hsp)).trans k5
          clear hb4 k5 HD Hhp HBp
          generalize depthAt (flowN m.code m.js).1 a = dd at *
          by_cases hdd : 0 ≤ dd
          · have HLg := Lib.hid (longest_any (.slice a1 m.code.length n1) m.code a e (by omega) (by omega) w4 ((HA3.out.c.below HBr.out).below HB4.out))
            obtain ⟨HPo', he0⟩ := long_piece (code := m.code) (lead := leadB m.code m.js) he1 he2 (Hck.out a hlt) Hnl.out
            have HPo := Lib.hid HPo'
            rw [he0] at HLg
            generalize (longRes m.code a e).1 = P at *
            obtain ⟨PA, PL, PK, PV⟩ := P
            simp only at HLg
            clear HPo' he0
            go_wp2_with fail
            refine HLg.out.mono ?_
            rintro x w5 ⟨rfl, hb5⟩
            have Hh5 := Lib.hid ((hb5.block wr.heap.size (World.block_lt_of_cell? _ _ (cells27 Hh4.out).1)).trans Hh4.out)
            have HB5 := Lib.hid (Bel.tr HB4.out hb5)
            have hsz := size27 PA PL PK PV
            have hon := one27 PA PL PK PV
            have H6 : Hid (Below wr.heap.size wr (w5.setRow wr.heap.size #[.int .u32 PA, .int .u32 PL, .int .u8 PK, .int .u32 PV]) ∧ (w5.setRow wr.heap.size #[.int .u32 PA, .int .u32 PL, .int .u8 PK, .int .u32 PV]).heap[wr.heap.size]? = some (.cells #[.int .u32 PA, .int .u32 PL, .int .u8 PK, .int .u32 PV] 119 (0, 0))) := Lib.hid ⟨below_setRow HB5.out _ (Nat.le_refl _) _, setRow_heap _ _ _ _ _ _ Hh5.out⟩
            have hs6 : wr.heap.size < (w5.setRow wr.heap.size #[.int .u32 PA, .int .u32 PL, .int .u8 PK, .int .u32 PV]).heap.size := World.block_lt_of_cell? _ _ (cells27 H6.out.2).1
            have HOo := Lib.hid (own_base (own_below HO.out H6.out.1))
            have HV := Lib.hid (show ∀ g', u6.ownBlock = some g' → g' < wr.heap.size from fun g' e => (HO.out.lt g' e).2)
            have HPk := Lib.hid (Pieces.snoc 0 a l _ HPc.out HPo.out)
            have hple : a + PL ≤ m.code.length := HPo.out.le
            have hw9 : IntKind.u32.wrap ((a : Int) + (PL : Int)) = ((a + PL : Nat) : Int) := by rw [show (a : Int) + (PL : Int) = ((a + PL : Nat) : Int) from by omega]; exact u32_wrap' _ (by omega)
            obtain ⟨p0, p1, p2, p3⟩ := cells27 H6.out.2
            clear hb5 k6 HLg
            go_wp2_with (first | ((with_reducible refine wpList_store_row (o := ⟨none, .store 119 (.tmp 9) (.tmp 47), _, _, _, none⟩) rfl 119 _ _ rfl wr.heap.size #[.int .u32 PA, .int .u32 PL, .int .u8 PK, .int .u32 PV] ?_ ?_ 119 _ Hh5.out ?_ ?_ ?_ ?_); rfl; rfl; exact hsz; rfl; exact hon) | ((with_reducible refine wpList_append1B (o := ⟨some 52, .call { callee := .builtin .append, args := #[.tmp 49, .tmp 51], argTypes := #[111, 111] }, _, _, _, none⟩) rfl _ _ 111 rfl 119 i119 (.agg #[.int .u32 0, .int .u32 0, .int .u8 0, .int .u32 0]) 4 16 Tryz.underlying111 hi119 hz0 hz1 hz2 ?_ ?_ _ _ _ HOo.out _ _ w5.heap.size ?_ ?_ ?_ ?_ ?_ ?_ ?_ ?_); rfl; decide; rfl; rfl; (first | rfl | (simp [World.setRow])); rfl; (simp [Value.oneCell']); (unfold maxLen; omega); omega; intro g9 c9 w9 o9 r9 hl9; have q1 := (World.cell?_of_block (r9.1.block wr.heap.size hs6 (fun e => by have := HV.out _ e.symm; omega)) : w9.cell? ⟨wr.heap.size, 1, none⟩ = _).trans p1))
            go_roundw
            case rel => exact ⟨a + PL, l ++ [(PA, PL, PK, PV)], HPo.out.le, by go_num, by simp; have := HPo.out.pos; simp only at this; omega, HPk.out, by
                rw [List.length_append, encPc_append]
                exact own_from o9 (fun g' e => by
                  rcases r9.2 g' e with h' | h'
                  · exact (HO.out.lt g' h').1
                  · have := HBr.out.size; have := H6.out.1.size; omega), (HBr.out.trans (H6.out.1.mono HBr.out.size)).grown r9.1 (Nat.le_trans HBr.out.size H6.out.1.size) (fun g' e => (HO.out.lt g' e).1)⟩
            case measure => simp [intOf]; have := HPo.out.pos; simp only at this; omega
          · skip
            obtain ⟨PA, PL, PK, PV, hPA, hPL, hPK, hPV⟩ : ∃ PA PL PK PV : Nat, PA = a ∧ PL = 1 ∧ PK = 1 ∧ PV = 0 := ⟨a, 1, 1, 0, rfl, rfl, rfl, rfl⟩
            have HPo : Hid (PieceOk m.code (leadB m.code m.js) a (PA, PL, PK, PV)) := Lib.hid (by rw [hPA, hPL, hPK, hPV]; exact one_piece hlt)
            have H6 : Hid (Below wr.heap.size wr (w4) ∧ (w4).heap[wr.heap.size]? = some (.cells #[.int .u32 PA, .int .u32 PL, .int .u8 PK, .int .u32 PV] 119 (0, 0))) := Lib.hid ⟨HB4.out, by rw [hPA, hPL, hPK, hPV]; exact Hh4.out⟩
            clear hPA hPL hPK hPV
            have hs6 : wr.heap.size < (w4).heap.size := World.block_lt_of_cell? _ _ (cells27 H6.out.2).1
            have HOo := Lib.hid (own_base (own_below HO.out H6.out.1))
            have HV := Lib.hid (show ∀ g', u6.ownBlock = some g' → g' < wr.heap.size from fun g' e => (HO.out.lt g' e).2)
            have HPk := Lib.hid (Pieces.snoc 0 a l _ HPc.out HPo.out)
            have hple : a + PL ≤ m.code.length := HPo.out.le
            have hw9 : IntKind.u32.wrap ((a : Int) + (PL : Int)) = ((a + PL : Nat) : Int) := by rw [show (a : Int) + (PL : Int) = ((a + PL : Nat) : Int) from by omega]; exact u32_wrap' _ (by omega)
            obtain ⟨p0, p1, p2, p3⟩ := cells27 H6.out.2
            clear k6
            go_wp2_with ((with_reducible refine wpList_append1B (o := ⟨some 52, .call { callee := .builtin .append, args := #[.tmp 49, .tmp 51], argTypes := #[111, 111] }, _, _, _, none⟩) rfl _ _ 111 rfl 119 i119 (.agg #[.int .u32 0, .int .u32 0, .int .u8 0, .int .u32 0]) 4 16 Tryz.underlying111 hi119 hz0 hz1 hz2 ?_ ?_ _ _ _ HOo.out _ _ w4.heap.size ?_ ?_ ?_ ?_ ?_ ?_ ?_ ?_); rfl; decide; rfl; rfl; (first | rfl | (simp [World.setRow])); rfl; (simp [Value.oneCell']); (unfold maxLen; omega); omega; intro g9 c9 w9 o9 r9 hl9; have q1 := (World.cell?_of_block (r9.1.block wr.heap.size hs6 (fun e => by have := HV.out _ e.symm; omega)) : w9.cell? ⟨wr.heap.size, 1, none⟩ = _).trans p1)
            go_roundw
            case rel => exact ⟨a + PL, l ++ [(PA, PL, PK, PV)], HPo.out.le, by go_num, by simp; have := HPo.out.pos; simp only at this; omega, HPk.out, by
                rw [List.length_append, encPc_append]
                exact own_from o9 (fun g' e => by
                  rcases r9.2 g' e with h' | h'
                  · exact (HO.out.lt g' h').1
                  · have := HBr.out.size; have := H6.out.1.size; omega), (HBr.out.trans (H6.out.1.mono HBr.out.size)).grown r9.1 (Nat.le_trans HBr.out.size H6.out.1.size) (fun g' e => (HO.out.lt g' e).1)⟩
            case measure => simp [intOf]; have := HPo.out.pos; simp only at this; omega
    · obtain rfl : a = m.code.length := by omega
      go_wp2_with fail
      go_ret2
      exact ⟨_, _, rfl, own_downT HO.out (by have := HB3.out.size; omega), HPc.out, Bel.tr HB3.out HBr.out⟩
end Go.Proofs.YtgpicmiaanapkaaGreat
