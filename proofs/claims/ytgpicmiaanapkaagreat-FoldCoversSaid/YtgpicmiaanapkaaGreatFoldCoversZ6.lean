import Derived.Test.YtgpicmiaanapkaaGreatFoldCoversZ5
import Derived.Test.YtgpicmiaanapkaaGreatFoldCoversZ4
import Derived.Laws.CopyOwn
import Derived.Deep.RegionLaw
import Derived.Deep.RegionHeld3
import Derived.Lib.ConvBytes
import Derived.Deep.DrawnRows
import Derived.Lib.SlBytesConst
import Derived.Laws.Small
/- slices' Clone, Grow, Concat of bytes; little's With; image's sealed. -/
namespace Go.Proofs.YtgpicmiaanapkaaGreat
open Go.RowKit
set_option linter.unusedVariables false
set_option maxRecDepth 100000 in
set_option maxHeartbeats 1000000 in
theorem cloneC_any (u : Value) (n : Nat) (cs : List Value) (hn : n ≤ 5000000000000) (hone : ∀ x ∈ cs, x.oneCell' = true) (w : World) (hu : Reads w 1 u n cs) :
    Calls Tryz.prog 319 #[u] w fun e w' => ∃ v, e = .returned v ∧ w'.ownsRow w.heap.size 5 1 v n cs ∧ Below w.heap.size w w' := by
  obtain ⟨i0, hi, hz0, hz1, hz2⟩ := info_parts info5
  have hb := run_bs24_0'
  have qn : ∀ (w : World) (a : Option Addr) (n c n' c' : Nat), (binOp .eql 24 (.slice a n c) (.slice none n' c')).run Tryz.prog w = .ok (.bool a.isNone) w := fun w a n c n' c' => Lib.run_eql_slice_nil w _ _ a n c n' c' Tryz.underlying24
  obtain ⟨a, cap, rfl, h1, h2, h3, hnn, hp⟩ := hu
  cases a with
  | none =>
    obtain rfl := hnn rfl
    obtain rfl : n = 0 := by omega
    obtain rfl : cs = [] := List.eq_nil_of_length_eq_zero (by omega)
    clear hp hnn h1
    go_enter Tryz.func319, Tryz.ntmps319
    go_wp2
    exact bodyPost_ret (v := .slice none 0 0) (by simp [results, Tryz.results319, go_sem]) rfl ⟨_, rfl, World.ownsRow_nil _ _ _ _, Below.refl _ _⟩
  | some ad =>
    have Hu := Lib.hid (show Reads (w.alloc (.cells #[] 5)) 1 (.slice (some ad) n cap) n cs from Reads.below ⟨some ad, cap, rfl, h1, h2, h3, hnn, hp⟩ (Bel.new _ _))
    have Hone := Lib.hid hone
    have Hoe := Lib.hid (own_empty w 5 1)
    clear hp hnn h1 hone
    go_enter Tryz.func319, Tryz.ntmps319
    go_wp2_with ((with_reducible refine wpList_append_reads (o := ⟨some 7, .call { callee := .builtin .append, args := #[.tmp 5, .tmp 6], argTypes := #[24, 24] }, _, _, _, none⟩) rfl _ _ 24 rfl 5 i0 (.int .u8 0) 1 1 Tryz.underlying24 hi hz0 hz1 hz2 ?_ ?_ _ 0 [] ?_ Hoe.out _ n cs ?_ Hu.out Hone.out ?_ ?_ ?_); rfl; decide; rfl; rfl; (unfold maxLen; omega); omega; intro v1 w1 o1 g1)
    have hx : w1.ownsRow w.heap.size 5 1 v1 n cs := by
      have := own_from o1 (B := w.heap.size) (fun g e => by
        rcases g1.2 g e with h' | h'
        · cases h'; exact Nat.le_refl _
        · simp at h'; omega)
      simpa using this
    have hbw : Below w.heap.size w w1 := (Bel.new w (.cells #[] 5)).grown g1.1 (by simp) (fun g e => by cases e; exact Nat.le_refl _)
    exact bodyPost_ret (v := v1) (by simp [results, Tryz.results319, go_sem]) rfl ⟨_, rfl, hx, hbw⟩

theorem run_append_make (n : Nat) (h0 : 0 < n) (hn : n ≤ 140737488355328) (ty : TypeId) (w : World) :
    (Builtin.append_ #[24, 3] ty #[.slice none 0 0, .int .i64 n]).run Tryz.prog w =
      .ok (.slice (some ⟨w.heap.size, 0, none⟩) n (grownCap w n 0 5)) (w.drew.alloc (.cells (Builtin.zeroCells #[.int .u8 0] n ++ Builtin.zeroCells #[.int .u8 0] (grownCap w n 0 5 - n)) 5)) := by
  obtain ⟨i0, hi, hz0, hz1, hz2⟩ := info_parts info5
  have hw : IntKind.i64.wrap (n : Int) = (n : Int) := IntWalk.i64_in _ (by omega)
  have hne : n ≠ 0 := by omega
  have h63' : ¬ (9223372036854775807 < (n : Int)) := by omega
  have h48' : ¬ (281474976710656 < Builtin.nextslicecap n 0) := by rw [nextslicecap_zero h0]; omega
  have h48i : ¬ (281474976710656 < (n : Int)) := by omega
  have hneg : ¬ ((n : Int) < 0) := by omega
  simp [Builtin.append_, run_underlying Tryz.underlying24, run_underlying Tryz.underlying3, sizeOf, typeInfo, zeroValue, hi, hz0, hz1, hz2, asInt, asIntOf, hw, hne, hneg, h63', h48', h48i, Question.forced, run_firstCells_none, newRow, grownCap, Value.cells]
theorem wpList_append_run {P : Program} {w w' : World} {ops : Array Oper} {rest : List Oper} {o : Oper} {a : Act} {Q : Exit → Act → World → Prop} (hgd : o.guard = none) (p q : Operand) (ts : Array TypeId)
    (ho : o.op = .call { callee := .builtin .append, args := #[p, q], argTypes := ts }) (x y v : Value) (hp : a.eval p = x) (hq : a.eval q = y) (hr : (Builtin.append_ ts o.type #[x, y]).run P w = .ok v w')
    (h : wpList P ops Q rest (a.put o.dst v) w') : wpList P ops Q (o :: rest) a w := by
  refine wpList_plain hgd fun K hK => ?_
  unfold Oper.wp
  simp only [execOp, ho, resolve, invoke, builtin, Sem.run_bind, Sem.run_pure, Result.andThen_ok, List.map_toArray, List.map_cons, List.map_nil, hp, hq, hr]
  exact hK _ _ h
set_option maxRecDepth 100000 in
set_option maxHeartbeats 1000000 in
theorem growB_any (n : Nat) (hn : n ≤ 140737488355328) (w : World) :
    Calls Tryz.prog 206 #[.slice none 0 0, .int .i64 n] w fun e w' => ∃ v, e = .returned v ∧ w'.ownsRow w.heap.size 5 1 v 0 [] ∧ Below w.heap.size w w' := by
  by_cases h0 : n = 0
  · subst h0
    go_enter Tryz.func206, Tryz.ntmps206
    go_wp2
    go_ret
    exact ⟨_, rfl, World.ownsRow_nil _ _ _ _, Below.refl _ _⟩
  · have hr := fun ty => run_append_make n (by omega) hn ty w
    have hge := grownCap_ge w n 0 5
    have hcm : grownCap w n 0 5 ≤ maxLen := grownCap_le_maxLen w n 0 5 (by unfold maxLen; omega)
    have hzs : (Builtin.zeroCells #[.int .u8 0] n ++ Builtin.zeroCells #[.int .u8 0] (grownCap w n 0 5 - n) : Array Value).size = grownCap w n 0 5 * 1 := by
      simp [size_zeroCells]; omega
    generalize (Builtin.zeroCells #[.int .u8 0] n ++ Builtin.zeroCells #[.int .u8 0] (grownCap w n 0 5 - n) : Array Value) = cur at *
    generalize grownCap w n 0 5 = cap at *
    have hpos : (0 : Int) < (n : Int) := by omega
    have hneg : ¬ (n : Int) < 0 := by omega
    have HO := Lib.hid (show (w.drew.alloc (.cells cur 5)).ownsRow w.heap.size 5 1 (.slice (some ⟨w.heap.size, 0, none⟩) 0 cap) 0 [] from
      ⟨rfl, .inr ⟨w.heap.size, cap, cur, rfl, Nat.le_refl _, heap_alloc_new w.drew _, Nat.zero_le _, hcm, hzs, rfl⟩⟩)
    have HB := Lib.hid (show Below w.heap.size w (w.drew.alloc (.cells cur 5)) from ((Below.refl _ w).drew).alloc (Nat.le_refl _) _)
    have hcn : (0 : Int) ≤ (cap : Int) := by omega
    have HR := Lib.hid hr
    clear hzs hr
    go_enter Tryz.func206, Tryz.ntmps206
    go_wp2_with ((with_reducible refine wpList_append_run (o := ⟨some 22, .call { callee := .builtin .append, args := #[.tmp 20, .tmp 21], argTypes := #[24, 3] }, _, _, _, none⟩) rfl _ _ #[24, 3] rfl _ _ _ ?_ ?_ (HR.out _) ?_); rfl; rfl)
    go_ret
    exact ⟨_, rfl, HO.out, HB.out⟩
theorem getD_flat (ls : List (List Nat)) (k : Nat) (hk : k < ls.length) : (ls.take (k + 1)).flatten = (ls.take k).flatten ++ ls.getD k [] := by
  rw [List.take_add_one, List.getElem?_eq_getElem hk, List.flatten_append, List.getD_eq_getElem?_getD, List.getElem?_eq_getElem hk]
  simp
/-- ListsB of bytes in a row of slices. -/
structure ListsB (w : World) (q : Nat) (vs : List Value) (ls : List (List Nat)) : Prop where
  hl : vs.length = ls.length
  hq : q < w.heap.size
  hc : ∀ j, j < vs.length → w.cell? ⟨q, j, none⟩ = vs[j]?
  hb : ∀ (j : Nat) (v : Value), vs[j]? = some v → Bytes w v (ls.getD j [])
theorem ListsB.below {w w' : World} {q : Nat} {vs : List Value} {ls : List (List Nat)} (h : ListsB w q vs ls) (hb : Below w.heap.size w w') : ListsB w' q vs ls :=
  ⟨h.hl, Nat.lt_of_lt_of_le h.hq hb.size, fun j hj => (hb.cell (p := ⟨q, j, none⟩) h.hq).trans (h.hc j hj), fun j v hv => (h.hb j v hv).below hb⟩
theorem flat_le (ls : List (List Nat)) (k : Nat) : (ls.take k).flatten.length ≤ ls.flatten.length := by
  have := List.take_append_drop k ls
  have h2 := congrArg (fun l => l.flatten.length) this
  simp only [List.flatten_append, List.length_append] at h2
  omega
set_option maxRecDepth 100000 in
set_option maxHeartbeats 2000000 in
theorem concat_any (q n c : Nat) (vs : List Value) (ls : List (List Nat)) (hn : n = ls.length) (hn2 : n ≤ 1000) (ht : ls.flatten.length ≤ 100000000) (w : World) (h : ListsB w q vs ls) :
    Calls Tryz.prog 100 #[.slice (some ⟨q, 0, none⟩) n c] w fun e w' => ∃ v, e = .returned v ∧ w'.ownsRow w.heap.size 5 1 v ls.flatten.length (encN .u8 ls.flatten) ∧ Below w.heap.size w w' := by
  obtain ⟨i0, hi, hz0, hz1, hz2⟩ := info_parts info5
  have H := Lib.hid h
  have hvl : vs.length = n := by rw [h.hl, hn]
  clear h
  have Hn := Lib.hid hn
  have Hv := Lib.hid hvl
  have Ht := Lib.hid ht
  clear hn hvl ht
  go_enter Tryz.func100, Tryz.ntmps100
  go_wp2_with fail
  go_loop [3, 11] (fun s i => ∃ k : Nat, k ≤ n ∧ i = .int .i64 k ∧ s = .int .i64 ((ls.take k).flatten.length : Nat)) (fun _ i => n - (intOf i).toNat)
  case atStart => exact ⟨0, by omega, rfl, rfl⟩
  case round =>
    obtain ⟨k, hk, rfl, rfl⟩ := hrel
    by_cases hlt : k < n
    · obtain ⟨v, hv⟩ : ∃ v, vs[k]? = some v := ⟨_, List.getElem?_eq_getElem (by rw [Hv.out]; exact hlt)⟩
      have hc := (H.out.hc k (by rw [Hv.out]; exact hlt)).trans hv
      obtain ⟨a, cp, rfl, -⟩ := (H.out.hb k v hv).1
      have Hf := Lib.hid (getD_flat ls k (by rw [← Hn.out]; exact hlt))
      have hle := flat_le ls (k + 1)
      have hsum : (ls.take (k + 1)).flatten.length = (ls.take k).flatten.length + (ls.getD k []).length := by rw [Hf.out, List.length_append]
      have htt := Ht.out
      have Hs := Lib.hid hsum
      have hb : (ls.take k).flatten.length + (ls.getD k []).length ≤ 100000000 := by omega
      clear hsum hle htt hv
      generalize (ls.take k).flatten.length = t at *
      generalize (ls.getD k []).length = m at *
      have hki : (k : Int) < (n : Int) := by omega
      have hk0 : (0 : Int) ≤ (k : Int) := by omega
      have hneg : ¬ ((t : Int) + (m : Int) < 0) := by omega
      go_wp2_with fail
      go_round
      case rel => exact ⟨k + 1, by omega, by go_num, by rw [Hs.out]; go_num⟩
      case measure => simp [intOf]; omega
    · obtain rfl : k = n := by omega
      have hfull : (ls.take k).flatten.length = ls.flatten.length := by rw [Hn.out, List.take_length]
      rw [hfull]
      have htt := Ht.out
      have HG := Lib.hid (growB_any ls.flatten.length (by omega) w)
      have Htot := Lib.hid hfull
      clear hfull
      generalize ls.flatten.length = tot at *
      go_wp2_with fail
      refine HG.out.mono ?_
      rintro e w1 ⟨v0, rfl, ho0, hb1⟩
      have HO0 := Lib.hid ho0
      have HB1 := Lib.hid hb1
      have H1 := Lib.hid (H.out.below hb1)
      have hs1 := hb1.size
      clear ho0 hb1 HG
      go_wp2_with fail
      go_loopw [6, 27] (fun u i wr => ∃ j : Nat, j ≤ k ∧ i = .int .i64 j ∧ wr.ownsRow w.heap.size 5 1 u (ls.take j).flatten.length (encN .u8 (ls.take j).flatten) ∧ Below w.heap.size w wr ∧ ListsB wr q vs ls) (fun _ i _ => k - (intOf i).toNat)
      case atStart => exact ⟨0, by omega, rfl, by simpa [encN] using HO0.out, HB1.out, H1.out⟩
      case round =>
        obtain ⟨j, hj, rfl, ho, hb, hL⟩ := hrel
        have HO := Lib.hid ho
        have HB := Lib.hid hb
        have HL := Lib.hid hL
        clear ho hb hL
        by_cases hlt2 : j < k
        · obtain ⟨v, hv⟩ : ∃ v, vs[j]? = some v := ⟨_, List.getElem?_eq_getElem (by rw [Hv.out]; exact hlt2)⟩
          have hc := (HL.out.hc j (by rw [Hv.out]; exact hlt2)).trans hv
          have Hb := Lib.hid ((HL.out.hb j v hv).1)
          obtain ⟨a, cp, rfl, -⟩ := (HL.out.hb j v hv).1
          have Hf := Lib.hid (getD_flat ls j (by rw [← Hn.out]; exact hlt2))
          have hle := flat_le ls (j + 1)
          have hsum : (ls.take (j + 1)).flatten.length = (ls.take j).flatten.length + (ls.getD j []).length := by rw [Hf.out, List.length_append]
          have hbd : (ls.take j).flatten.length + (ls.getD j []).length ≤ 100000000 := by have := Htot.out; rw [Hn.out, List.take_length] at this; omega
          have HOo := Lib.hid (own_base HO.out)
          have Hone := Lib.hid (encN_one .u8 (ls.getD j []))
          clear hle hsum hv
          have hki : (j : Int) < (k : Int) := by omega
          have hk0 : (0 : Int) ≤ (j : Int) := by omega
          go_wp2_with ((with_reducible refine wpList_append_reads (o := ⟨some 33, .call { callee := .builtin .append, args := #[.tmp 31, .tmp 32], argTypes := #[24, 24] }, _, _, _, none⟩) rfl _ _ 24 rfl 5 i0 (.int .u8 0) 1 1 Tryz.underlying24 hi hz0 hz1 hz2 ?_ ?_ _ _ _ ?_ HOo.out _ _ _ ?_ Hb.out Hone.out ?_ ?_ ?_); rfl; decide; rfl; rfl; (unfold maxLen; omega); omega; intro v3 w3 o3 g3)
          go_roundw
          case rel => exact ⟨j + 1, by omega, by go_num, by
              rw [Hf.out, encN_append, List.length_append]
              exact own_from o3 (fun g e => by
                rcases g3.2 g e with h' | h'
                · exact (HO.out.lt g h').1
                · have := HB.out.size; omega), HB.out.grown g3.1 HB.out.size (fun g e => (HO.out.lt g e).1), by
              have hbw : Below w.heap.size w w3 := HB.out.grown g3.1 HB.out.size (fun g e => (HO.out.lt g e).1)
              exact H.out.below hbw⟩
          case measure => simp [intOf]; omega
        · obtain rfl : j = k := by omega
          have hfull : (ls.take j).flatten = ls.flatten := by rw [Hn.out, List.take_length]
          have HO2 := Lib.hid (show wr.ownsRow w.heap.size 5 1 u6 ls.flatten.length (encN .u8 ls.flatten) from by rw [← hfull]; exact HO.out)
          clear hfull
          go_wp2_with fail
          go_ret
          exact ⟨_, rfl, HO2.out, HB.out⟩
end Go.Proofs.YtgpicmiaanapkaaGreat
/- little's With, Lay; image's sealed. -/
namespace Go.Proofs.YtgpicmiaanapkaaGreat
open Go.RowKit
set_option linter.unusedVariables false
set_option maxRecDepth 100000 in
set_option maxHeartbeats 1000000 in
theorem has32_any (a : Option Addr) (n c i : Nat) (hn : n ≤ 9223372036854775807) (w : World) :
    Calls Tryz.prog 318 #[.slice a n c, .int .i64 i] w fun e w' => e = .returned (.bool (decide (i + 4 ≤ n))) ∧ w = w' := by
  have h0 : (0 : Int) ≤ (i : Int) := by omega
  have hd : decide ((0 : Int) ≤ (i : Int)) = true := decide_eq_true h0
  go_enter Tryz.func318, Tryz.ntmps318
  go_wp2_with ((with_reducible refine (width_any _).mono ?_); rintro e w1 ⟨rfl, rfl⟩)
  all_goals
    go_ret
    exact ⟨ret_boolE (by rw [Bool.eq_iff_iff]; simp; omega), rfl⟩
theorem own_cur {W : World} {B e g n c : Nat} {xs : List Value} (h : W.ownsRow B e 1 (.slice (some ⟨g, 0, none⟩) n c) n xs) :
    ∃ cur : List Value, W.heap[g]? = some (.cells cur.toArray e (0, 0)) ∧ cur.length = c ∧ n ≤ c ∧ c ≤ maxLen ∧ cur.take n = xs ∧ B ≤ g := by
  obtain ⟨hl, ⟨h, _⟩ | ⟨g', cap, cur, hv, hb, hg, hn, hm, hcs, ht⟩⟩ := h
  · cases h
  · cases hv
    exact ⟨cur.toList, by simpa using hg, by simpa using hcs, hn, hm, by simpa using ht, hb⟩
theorem splice_take {cur cs : List Value} {n off : Nat} (h : off + cs.length ≤ n) (hn : n ≤ cur.length) : (splice cur off cs).take n = splice (cur.take n) off cs := by
  refine List.ext_getElem? fun j => ?_
  unfold splice
  rw [List.getElem?_take]
  have l1 : (cur.take off).length = off := by rw [List.length_take]; omega
  have l2 : ((cur.take n).take off).length = off := by rw [List.length_take, List.length_take]; omega
  by_cases hj : j < n
  · rw [if_pos hj]
    by_cases c1 : j < off
    · rw [List.getElem?_append_left (by omega), List.getElem?_append_left (by omega), List.getElem?_take, List.getElem?_take, List.getElem?_take, if_pos c1, if_pos c1, if_pos hj]
    · rw [List.getElem?_append_right (l₁ := cur.take off) (by omega), List.getElem?_append_right (l₁ := (cur.take n).take off) (by omega), l1, l2]
      by_cases c2 : j - off < cs.length
      · rw [List.getElem?_append_left c2, List.getElem?_append_left c2]
      · rw [List.getElem?_append_right (l₂ := cur.drop (off + cs.length)) (by omega), List.getElem?_append_right (l₂ := (cur.take n).drop (off + cs.length)) (by omega), List.getElem?_drop, List.getElem?_drop, List.getElem?_take, if_pos (by omega)]
  · rw [if_neg hj, List.getElem?_eq_none]
    simp only [List.length_append, List.length_drop, List.length_take]; omega
theorem own_splice {W' : World} {B e g n c : Nat} {xs cs cur : List Value} {off : Nat} (hl : xs.length = n) (hc : cur.length = c) (hnc : n ≤ c) (hcm : c ≤ maxLen) (ht : cur.take n = xs) (hB : B ≤ g)
    (hg : W'.heap[g]? = some (.cells (splice cur off cs).toArray e (0, 0))) (h : off + cs.length ≤ n) : W'.ownsRow B e 1 (.slice (some ⟨g, 0, none⟩) n c) n (splice xs off cs) := by
  have h1 := splice_take h (by omega : n ≤ cur.length)
  rw [ht] at h1
  refine ⟨?_, .inr ⟨g, c, _, rfl, hB, hg, hnc, hcm, ?_, ?_⟩⟩
  · unfold splice; simp only [List.length_append, List.length_take, List.length_drop]; omega
  · unfold splice; simp only [List.size_toArray, List.length_append, List.length_take, List.length_drop]; omega
  · rw [Nat.mul_one]; simpa using h1
theorem with_splice (b : List Nat) (at_ x : Nat) : splice (encN .u8 b) at_ (encN .u8 (le4 x)) = encN .u8 (withN b at_ x) := by
  unfold splice withN
  rw [encN_append, encN_append, encN_length, le4_length]
  simp [encN, List.map_take, List.map_drop]
set_option maxRecDepth 100000 in
set_option maxHeartbeats 2000000 in
theorem with_any (v : Value) (b : List Nat) (i x : Nat) (hx : x < 4294967296) (hi : i + 4 ≤ b.length) (hn : b.length ≤ 100000000) (w : World) (hv : Bytes w v b) :
    Calls Tryz.prog 209 #[v, .int .i64 i, .int .u32 x] w fun e w' => ∃ u, e = .returned (.tuple #[u, .int .i64 0]) ∧ w'.ownsRow w.heap.size 5 1 u (withN b i x).length (encN .u8 (withN b i x)) ∧ Below w.heap.size w w' := by
  have hsz5 : (Tryz.prog.info? 5).map (·.size) = some 1 := by kernel_rfl
  have HC := Lib.hid (fun W hW => cloneC_any v b.length (encN .u8 b) (by omega) (encN_one .u8 b) W hW)
  have HV := Lib.hid hv
  obtain ⟨a, c, rfl, -, hnc, hcm, -, -⟩ := hv.1
  have hn9 : b.length ≤ 9223372036854775807 := by omega
  have Hh := Lib.hid (fun W => has32_any a b.length c i hn9 W)
  clear hn9
  have hd : decide (i + 4 ≤ b.length) = true := decide_eq_true hi
  rw [hd] at Hh
  have Hone := Lib.hid (encN_one .u8 (le4 x))
  clear hd hv
  go_enter Tryz.func209, Tryz.ntmps209
  go_wp2_with fail
  refine (Hh.out _).mono ?_
  rintro e w1 ⟨rfl, rfl⟩
  go_wp2_with fail
  refine (HC.out _ HV.out.1).mono ?_
  rintro e w1 ⟨u, rfl, ho, hb⟩
  obtain ⟨a2, c2, rfl, -, -, hp⟩ := own_sl ho
  obtain ⟨g, rfl, hg, -⟩ := hp (by omega)
  have HO := Lib.hid ho
  have HB := Lib.hid hb
  have hi0 : (0 : Int) ≤ (i : Int) := by omega
  have hi1 : (i : Int) ≤ (b.length : Int) := by omega
  clear ho hb hp HC Hh
  go_wp2_with fail
  have HL := Lib.hid (fun W => lay_any (.slice none 0 0) 0 [] x hx W (World.ownsRow_nil _ _ _ _) (by omega))
  have HR := Lib.hid (Below.refl w1.heap.size w1)
  obtain ⟨cur, q1, q2, q3, q4, q5, q6⟩ := own_cur HO.out
  have HQ := Lib.hid q1
  have HQ5 := Lib.hid q5
  have hcl : i + (encN .u8 (le4 x)).length ≤ cur.length := by rw [encN_length, le4_length]; omega
  have HCL := Lib.hid hcl
  have HMin := Lib.hid (show (encN .u8 (le4 x)).length = Nat.min 4 (b.length - i) from by rw [encN_length, le4_length]; exact (Nat.min_eq_left (by omega)).symm)
  clear q1 q5 hcl
  go_region_held3 (fun w' => Below w.heap.size w w')
    (first | exact HB.out.drew | exact HB.out | assumption)
    (first
      | (go_at_call 207; refine (HL.out _).mono ?_; rintro e w' ⟨v4, rfl, o4, g4⟩; have hS4 := Bel.tr HR.out.drew g4.bel; have hS5 := Bel.tr HB.out hS4; obtain ⟨g4', c4, rfl, hc4a, hc4b, hg4, hx4⟩ := own_form o4 (by decide); have HX4 := Lib.hid hx4; have HG4 := Lib.hid ((hS4.block g hg).trans HQ.out); clear hx4)
      | (refine step_copy_splice rfl (.tmp 17) (.tmp 19) 24 24 rfl 5 Tryz.underlying24 hsz5 (some ⟨g, i, none⟩) (some ⟨g4', 0, none⟩) (b.length - i) (c2 - i) (0 + 4) c4 (by simp [Act.eval]) (by simp [Act.eval]) g i cur 5 HG4.out (encN .u8 (le4 x)) HMin.out (fun _ => ⟨rfl, _, rfl, fun j v hj => by rw [Addr.add_mid, Nat.zero_add, HX4.out j (by simpa using (List.getElem?_eq_some_iff.1 hj).1)]; simpa using hj⟩) HCL.out Hone.out w.heap.size w (Bel.tr HB.out hS4) q6 ?_; intro w5 hg5 hb5))
  have HF := Lib.hid (show w5.ownsRow w.heap.size 5 1 (.slice (some ⟨g, 0, none⟩) b.length c2) (withN b i x).length (encN .u8 (withN b i x)) from by
    rw [← with_splice, withN_length hi]
    exact own_splice (by rw [encN_length]) q2 q3 q4 HQ5.out q6 hg5.out (by rw [encN_length, le4_length]; exact hi))
  have HB5 := Lib.hid (show Below w.heap.size w w5 from hb5)
  go_wp2
  go_ret2
  exact ⟨_, rfl, HF.out, HB5.out⟩
theorem own_bytes {w : World} {B n : Nat} {v : Value} {b : List Nat} (h : w.ownsRow B 5 1 v n (encN .u8 b)) (hb : ∀ x ∈ b, x < 256) : Bytes w v b := by
  have hl : n = b.length := by have := h.1; rw [encN_length] at this; omega
  subst hl
  exact ⟨Reads.own (own_base h) (by decide), hb⟩
theorem le4_lt (x : Nat) : ∀ y ∈ le4 x, y < 256 := by
  intro y hy
  simp only [le4, List.mem_cons, List.not_mem_nil, or_false] at hy
  rcases hy with rfl | rfl | rfl | rfl <;> exact Nat.mod_lt _ (by decide)
theorem withN_lt {b : List Nat} (h : ∀ y ∈ b, y < 256) (i x : Nat) : ∀ y ∈ withN b i x, y < 256 := by
  intro y hy
  unfold withN at hy
  rcases List.mem_append.1 hy with hy | hy
  · exact h y (List.mem_of_mem_take hy)
  · rcases List.mem_append.1 hy with hy | hy
    · exact le4_lt x y hy
    · exact h y (List.mem_of_mem_drop hy)
set_option maxRecDepth 100000 in
set_option maxHeartbeats 1000000 in
theorem sealed_any (v : Value) (b : List Nat) (hb : 12 ≤ b.length) (hn : b.length ≤ 100000000) (w : World) (hv : Bytes w v b) :
    Calls Tryz.prog 104 #[v] w fun e w' => ∃ u, e = .returned u ∧ w'.ownsRow w.heap.size 5 1 u (sealedN b).length (encN .u8 (sealedN b)) ∧ Below w.heap.size w w' := by
  have H1 := Lib.hid (with_any v b 8 0 (by decide) (by omega) hn w hv)
  have hl := withN_length (b := b) (at_ := 8) (x := 0) (by omega)
  have hlt := withN_lt hv.2 8 0
  have HSe := Lib.hid (show sealedN b = withN (withN b 8 0) 8 (sumN (withN b 8 0)) from rfl)
  generalize withN b 8 0 = c at *
  obtain ⟨a0, c0, rfl, -⟩ := hv.1
  have HLT := Lib.hid hlt
  clear hv hlt
  go_enter Tryz.func104, Tryz.ntmps104
  go_wp2_with fail
  refine H1.out.mono ?_
  rintro e w1 ⟨u, rfl, ho, hb1⟩
  have HC := Lib.hid (own_bytes ho HLT.out)
  have HB1 := Lib.hid hb1
  obtain ⟨a2, c2, rfl, -⟩ := own_sl ho
  have H2 := Lib.hid (sum_bytes _ c w1 HC.out)
  have H3 := Lib.hid (with_any _ c 8 (sumN c) (sumN_lt c) (by omega) (by omega) w1 HC.out)
  rw [← HSe.out] at H3
  clear ho hb1 H1
  rw [hl] at H2 H3
  generalize sumN c = x at *
  go_wp2_with fail
  refine H2.out.mono ?_
  rintro e w2 ⟨rfl, rfl⟩
  go_wp2_with fail
  refine H3.out.mono ?_
  rintro e w2 ⟨u2, rfl, ho2, hb2⟩
  have HO := Lib.hid (own_from (own_base ho2) (B := w.heap.size) (fun g e => Nat.le_trans HB1.out.size (ho2.lt g e).1))
  have HB2 := Lib.hid (Bel.tr HB1.out hb2)
  obtain ⟨a3, c3, rfl, -⟩ := own_sl ho2
  clear ho2 hb2
  go_wp2_with fail
  go_ret
  exact ⟨_, rfl, HO.out, HB2.out⟩
end Go.Proofs.YtgpicmiaanapkaaGreat
/- little's Lay. -/
namespace Go.Proofs.YtgpicmiaanapkaaGreat
open Go.RowKit
set_option linter.unusedVariables false
def encS (l : List (Nat × Nat)) : List Value := l.flatMap fun s => [.int .u32 s.1, .int .u32 s.2]
theorem encS_length (l : List (Nat × Nat)) : (encS l).length = l.length * 2 := by
  induction l with
  | nil => rfl
  | cons p l ih => rw [show encS (p :: l) = [.int .u32 p.1, .int .u32 p.2] ++ encS l from rfl, List.length_append, ih]; simp; omega
theorem encS_append (l m : List (Nat × Nat)) : encS (l ++ m) = encS l ++ encS m := by simp [encS]
theorem encS_at (l : List (Nat × Nat)) : ∀ k, k < l.length → (encS l)[k * 2]? = some (.int .u32 (l.getD k (0, 0)).1) ∧ (encS l)[k * 2 + 1]? = some (.int .u32 (l.getD k (0, 0)).2) := by
  induction l with
  | nil => intro k h; simp at h
  | cons p l ih =>
    intro k h
    have e : encS (p :: l) = [.int .u32 p.1, .int .u32 p.2] ++ encS l := rfl
    cases k with
    | zero => rw [e]; exact ⟨rfl, rfl⟩
    | succ k =>
      obtain ⟨h1, h2⟩ := ih k (by simpa using h)
      rw [e]
      have f : ∀ t, ([.int .u32 p.1, .int .u32 p.2] ++ encS l : List Value)[(k + 1) * 2 + t]? = (encS l)[k * 2 + t]? := fun t => by
        rw [List.getElem?_append_right (by simp; omega)]; congr 1; simp; omega
      exact ⟨(f 0).trans h1, (f 1).trans h2⟩
theorem spansL_length : ∀ (a : Nat) (l : List Nat), (spansL a l).length = l.length
  | _, [] => rfl
  | a, n :: l => by rw [spansL, List.length_cons, List.length_cons, spansL_length (a + n) l]
theorem spansL_take : ∀ (l : List Nat) (a k : Nat), k < l.length → (spansL a l).take (k + 1) = (spansL a l).take k ++ [(a + (l.take k).sum, l.getD k 0)]
  | [], a, k, h => by simp at h
  | n :: l, a, 0, h => by simp [spansL]
  | n :: l, a, k + 1, h => by
    have := spansL_take l (a + n) k (by simpa using h)
    rw [spansL, List.take_succ_cons, this, List.take_succ_cons, List.cons_append, List.take_succ_cons, List.sum_cons, Nat.add_assoc]
    rfl
theorem sum_take_le : ∀ (l : List Nat) (k : Nat), (l.take k).sum ≤ l.sum
  | [], k => by simp
  | n :: l, 0 => by simp
  | n :: l, k + 1 => by have := sum_take_le l k; simp only [List.take_succ_cons, List.sum_cons]; omega
theorem sum_take_succ : ∀ (l : List Nat) (k : Nat), k < l.length → (l.take (k + 1)).sum = (l.take k).sum + l.getD k 0
  | [], k, h => by simp at h
  | n :: l, 0, h => by simp
  | n :: l, k + 1, h => by
    have := sum_take_succ l k (by simpa using h)
    simp only [List.take_succ_cons, List.sum_cons, List.getD_cons_succ] at this ⊢
    omega
theorem info225 : (Tryz.prog.info? 225).map (fun i => (i.zero, i.size, i.bytes)) = some (some (.agg #[.int .u32 0, .int .u32 0]), 2, 8) := by kernel_rfl
theorem run_b225 (x y : Int) (w : World) : (Instr.build 225 #[(0, .int .u32 x), (1, .int .u32 y)]).run Tryz.prog w = .ok (.agg #[.int .u32 x, .int .u32 y]) w := by kernel_rfl
theorem run_bs221 (x y : Int) (w : World) : (Instr.buildSlice 221 1 #[(0, .agg #[.int .u32 x, .int .u32 y])]).run Tryz.prog w = .ok (.slice (some ⟨w.heap.size, 0, none⟩) 1 1) (w.alloc (.cells #[.int .u32 x, .int .u32 y] 225)) := by kernel_rfl
set_option maxRecDepth 100000 in
set_option maxHeartbeats 1000000 in
theorem laySpans_any (v : Value) (first : Nat) (l : List Nat) (hl : l.length ≤ 1000) (hs : first + l.sum < 4294967296) (w : World) (hv : Words w v l) :
    Calls Tryz.prog 103 #[.int .u32 first, v] w fun e w' => ∃ u, e = .returned (.tuple #[u, .int .i64 0]) ∧ w'.ownsRow w.heap.size 225 2 u l.length (encS (spansL first l)) ∧ Below w.heap.size w w' := by
  obtain ⟨i0, hi, hz0, hz1, hz2⟩ := info_parts info225
  have hb225 := run_b225
  have hb221 := run_bs221
  obtain ⟨⟨a, cap, rfl, hll, hnc, hcm, hnil, hp⟩, hlt⟩ := hv
  have Hp := Lib.hid hp
  have Hlt := Lib.hid hlt
  have Hs := Lib.hid hs
  have hf32 : first < 4294967296 := by omega
  clear hp hlt hs hnil hll
  go_enter Tryz.func103, Tryz.ntmps103
  go_wp2_with fail
  go_loopw [6, 7, 14] (fun p u i wr => ∃ k : Nat, k ≤ l.length ∧ i = .int .i64 k ∧ p = .int .u64 ((first + (l.take k).sum : Nat) : Int) ∧ wr.ownsRow w.heap.size 225 2 u k (encS ((spansL first l).take k)) ∧ Below w.heap.size w wr) (fun _ _ i _ => l.length - (intOf i).toNat)
  case atStart => exact ⟨0, by omega, rfl, by simp, World.ownsRow_nil _ _ _ _, Below.refl _ _⟩
  case round =>
    obtain ⟨k, hk, rfl, rfl, ho, hb⟩ := hrel
    have HO := Lib.hid ho
    have HB := Lib.hid hb
    clear ho hb
    by_cases hlt : k < l.length
    · obtain ⟨b, off, rfl, hbl, hc⟩ := Hp.out (by omega)
      have hcc := hc k (by rw [encN_length]; exact hlt)
      rw [encN_at _ l k hlt] at hcc
      have hcell := (HB.out.cell (p := ⟨b, off + k, none⟩) hbl).trans hcc
      have Ht := Lib.hid (spansL_take l first k hlt)
      have Hsum := Lib.hid (sum_take_succ l k hlt)
      have hle := sum_take_le l (k + 1)
      have hss := Hs.out
      have hx := Hlt.out k
      have hbd : first + (l.take k).sum + l.getD k 0 ≤ 4294967295 := by rw [Hsum.out] at hle; omega
      have HOo := Lib.hid (own_base HO.out)
      clear hc hcc hle hss
      generalize l.getD k 0 = x at *
      generalize (l.take k).sum = s at *
      have hw : IntKind.u32.wrap ((first + s : Nat) : Int) = ((first + s : Nat) : Int) := u32_wrap _ (by omega)
      have hki : (k : Int) < (l.length : Int) := by omega
      have hk0 : (0 : Int) ≤ (k : Int) := by omega
      go_wp2_with ((with_reducible refine wpList_append1B (o := ⟨some 24, .call { callee := .builtin .append, args := #[.tmp 18, .tmp 23], argTypes := #[221, 221] }, _, _, _, none⟩) rfl _ _ 221 rfl 225 i0 (.agg #[.int .u32 0, .int .u32 0]) 2 8 Tryz.underlying221 hi hz0 hz1 hz2 ?_ ?_ _ _ _ HOo.out _ _ wr.heap.size ?_ ?_ ?_ ?_ ?_ ?_ ?_ ?_); rfl; decide; rfl; rfl; rfl; rfl; (simp [Value.oneCell']); (unfold maxLen; omega); omega; intro g c w1 hr1 hg1 hl1)
      go_roundw
      case rel => exact ⟨k + 1, by omega, by go_num, by rw [Hsum.out]; go_num, by
          rw [Ht.out, encS_append]
          exact own_from hr1 (fun g' e => by
            rcases hg1.2 g' e with h' | h'
            · exact (HO.out.lt g' h').1
            · have := HB.out.size; omega), HB.out.grown hg1.1 HB.out.size (fun g' e => (HO.out.lt g' e).1)⟩
      case measure => simp [intOf]; omega
    · obtain rfl : k = l.length := by omega
      have HF := Lib.hid (show wr.ownsRow w.heap.size 225 2 u7 l.length (encS (spansL first l)) from by
        have := HO.out
        rwa [List.take_of_length_le (by rw [spansL_length]; exact Nat.le_refl _)] at this)
      go_wp2_with fail
      go_ret2
      exact ⟨_, rfl, HF.out, HB.out⟩
end Go.Proofs.YtgpicmiaanapkaaGreat
/- image.Encode. -/
namespace Go.Proofs.YtgpicmiaanapkaaGreat
open Go.RowKit
set_option linter.unusedVariables false
attribute [local go_sem ↓] Go.wp_at_zero Go.wp_at_succ
theorem nameB_lt (n : ByteArray × Nat) : ∀ x ∈ nameB n, x < 256 := by
  intro x hx
  unfold nameB at hx
  rcases List.mem_append.1 hx with hx | hx
  · exact le4_lt _ x hx
  · rcases List.mem_append.1 hx with hx | hx
    · rw [List.mem_singleton.1 hx]; exact Nat.mod_lt _ (by decide)
    · obtain ⟨b, _, rfl⟩ := List.mem_map.1 hx
      exact b.toNat_lt
theorem namesB_lt (lx : List (ByteArray × Nat)) : ∀ x ∈ namesB lx, x < 256 := by
  intro x hx
  obtain ⟨n, _, hn⟩ := List.mem_flatMap.1 hx
  exact nameB_lt n x hn
theorem namesB_take (lx : List (ByteArray × Nat)) (k : Nat) (hk : k < lx.length) : namesB (lx.take (k + 1)) = namesB (lx.take k) ++ nameB (lx.getD k (ByteArray.empty, 0)) := by
  unfold namesB
  rw [List.take_add_one, List.getElem?_eq_getElem hk, List.flatMap_append, List.getD_eq_getElem?_getD, List.getElem?_eq_getElem hk]
  simp
theorem byN_length (s : ByteArray) : (byN s).length = s.size := by unfold byN; rw [List.length_map, Array.length_toList]; rfl
theorem nameB_length (n : ByteArray × Nat) : (nameB n).length = 5 + n.1.size := by
  simp only [nameB, List.length_append, le4_length, List.length_cons, List.length_nil, byN_length]; omega
theorem byN_lt (s : ByteArray) : ∀ x ∈ byN s, x < 256 := by
  intro x hx
  obtain ⟨b, _, rfl⟩ := List.mem_map.1 hx
  exact b.toNat_lt
/-- What the rounds over the names keep. -/
structure EncN (w w1 : World) (m : Img) (k : Nat) (u : Value) (A : World) : Prop where
  b : Below w1.heap.size w1 A
  o : A.ownsRow w1.heap.size 5 1 u (namesB (m.lx.take k)).length (encN .u8 (namesB (m.lx.take k)))
theorem put8_one (b : Nat) (x : Nat) (hx : x < 256) (w : World) (hc : w.cell? ⟨b, 0, none⟩ = some (.int .u8 x)) :
    Calls Tryz.prog 102 #[.slice (some ⟨b, 0, none⟩) 1 1] w fun e w' => ∃ v, e = .returned v ∧ w'.ownsRow w.heap.size 5 1 v 1 (encN .u8 [x]) ∧ Below w.heap.size w w' := by
  refine (put8_any (some ⟨b, 0, none⟩) 1 [x] (by simpa using hx) w ⟨some ⟨b, 0, none⟩, 1, rfl, rfl, Nat.le_refl _, by decide, (fun h => by cases h), fun _ => ⟨b, 0, rfl, World.block_lt_of_cell? w _ hc, fun j hj => ?_⟩⟩ (by simp)).mono ?_
  · have : j = 0 := by simp [encN] at hj; exact hj
    subst this
    exact hc
  · rintro e w' ⟨v', rfl, hown, hg⟩
    exact ⟨v', rfl, own_from hown (fun g e => (hg.2 g e).resolve_left (by simp [Value.ownBlock])), hg.bel⟩
theorem put4_one (b : Nat) (x : Nat) (hx : x < 4294967296) (w : World) (hc : w.cell? ⟨b, 0, none⟩ = some (.int .u32 x)) :
    Calls Tryz.prog 101 #[.slice (some ⟨b, 0, none⟩) 1 1] w fun e w' => ∃ v, e = .returned v ∧ w'.ownsRow w.heap.size 5 1 v 4 (encN .u8 (le4 x)) ∧ Below w.heap.size w w' := by
  refine (put_any (some ⟨b, 0, none⟩) 1 [x] (by simpa using hx) w ⟨some ⟨b, 0, none⟩, 1, rfl, rfl, Nat.le_refl _, by decide, (fun h => by cases h), fun _ => ⟨b, 0, rfl, World.block_lt_of_cell? w _ hc, fun j hj => ?_⟩⟩ (by simp)).mono ?_
  · have : j = 0 := by simp [encN] at hj; exact hj
    subst this
    exact hc
  · rintro e w' ⟨v', rfl, hown, hg⟩
    refine ⟨v', rfl, ?_, hg.bel⟩
    have h := own_from hown (fun g e => (hg.2 g e).resolve_left (by simp [Value.ownBlock]))
    simpa [le4s] using h
theorem below_bytes (w : World) (s : ByteArray) : Below w.heap.size w (Go.Lib.bytesWorld w 5 s) :=
  ⟨rfl, rfl, rfl, by rw [Go.Lib.bytesWorld_size]; omega, fun k hk => Go.Lib.bytesWorld_at_old w 5 s k hk⟩
theorem cell1_new (w : World) (v : Value) (t : TypeId) {b : Nat} (hb : b = w.heap.size) : (w.alloc (.cells #[v] t)).cell? ⟨b, 0, none⟩ = some v := by subst hb; simp [go_sem]
theorem cell_dr {w : World} {a : Addr} {v : Value} (h : w.cell? a = some v) : w.drew.cell? a = some v := h
theorem cell_alE {w : World} {a : Addr} {v : Value} {o : Obj} (h : w.cell? a = some v) : (w.alloc o).cell? a = some v := ((Bel.new w o).cell (p := a) (World.block_lt_of_cell? w a h)).trans h
theorem cell_by {w : World} {a : Addr} {v : Value} {s : ByteArray} (h : w.cell? a = some v) : (Go.Lib.bytesWorld w 5 s).cell? a = some v := ((below_bytes w s).cell (p := a) (World.block_lt_of_cell? w a h)).trans h
theorem cell_be {w w' : World} {a : Addr} {v : Value} (hb : Below w.heap.size w w') (h : w.cell? a = some v) : w'.cell? a = some v := (hb.cell (p := a) (World.block_lt_of_cell? w a h)).trans h
theorem bel_by {w w1 : World} {s : ByteArray} (h : Below w.heap.size w w1) : Below w.heap.size w (Go.Lib.bytesWorld w1 5 s) := Bel.tr h (below_bytes w1 s)
theorem bytes_conv (w : World) (s : ByteArray) (hs : s.size ≤ 1000) {b c : Nat} (hb : b = w.heap.size) (hc : c = grownCap w s.size 0 5) : Bytes (Go.Lib.bytesWorld w 5 s) (.slice (some ⟨b, 0, none⟩) s.size c) (byN s) := by
  subst hb hc
  refine ⟨⟨some ⟨w.heap.size, 0, none⟩, grownCap w s.size 0 5, by rw [byN_length], by rw [encN_length, Nat.mul_one], ?_, grownCap_le_maxLen w s.size 0 5 (by unfold maxLen; omega), (fun h => by cases h), fun _ => ⟨w.heap.size, 0, rfl, by rw [Go.Lib.bytesWorld_size]; omega, fun j hj => ?_⟩⟩, byN_lt s⟩
  · rw [byN_length]; exact grownCap_ge w s.size 0 5
  · rw [encN_length, byN_length] at hj
    rw [Nat.zero_add, Go.Lib.bytesWorld_cell w 5 s j hj]
    have hj2 : j < s.data.size := hj
    simp only [encN, byN, List.getD_eq_getElem?_getD, List.map_map, List.getElem?_map, Array.getElem?_toList]
    rw [Array.getElem?_eq_getElem hj2]
    rfl
theorem own_down {w : World} {B B' e sz n : Nat} {v : Value} {xs : List Value} (h : w.ownsRow B' e sz v n xs) (hb : B ≤ B') : w.ownsRow B e sz v n xs := own_from (own_base h) (fun g e => Nat.le_trans hb (h.lt g e).1)
theorem concat4 (w : World) (v0 v1 v2 v3 : Value) (l0 l1 l2 l3 : List Nat) (ht : l0.length + l1.length + l2.length + l3.length ≤ 100000000) (h0 : Bytes w v0 l0) (h1 : Bytes w v1 l1) (h2 : Bytes w v2 l2) (h3 : Bytes w v3 l3) :
    Calls Tryz.prog 100 #[.slice (some ⟨w.heap.size, 0, none⟩) 4 4] (w.alloc (.cells #[v0, v1, v2, v3] 24)) fun e w' => ∃ v, e = .returned v ∧ w'.ownsRow w.heap.size 5 1 v (l0.length + l1.length + l2.length + l3.length) (encN .u8 (l0 ++ l1 ++ l2 ++ l3)) ∧ Below (w.alloc (.cells #[v0, v1, v2, v3] 24)).heap.size (w.alloc (.cells #[v0, v1, v2, v3] 24)) w' := by
  have hb : Below w.heap.size w (w.alloc (.cells #[v0, v1, v2, v3] 24)) := Bel.new w _
  have hsz : (w.alloc (.cells #[v0, v1, v2, v3] 24)).heap.size = w.heap.size + 1 := by simp
  have hfl : [l0, l1, l2, l3].flatten = l0 ++ l1 ++ l2 ++ l3 := by simp
  have hlen : (l0 ++ l1 ++ l2 ++ l3).length = l0.length + l1.length + l2.length + l3.length := by simp [List.length_append, Nat.add_assoc]
  refine (concat_any w.heap.size 4 4 [v0, v1, v2, v3] [l0, l1, l2, l3] rfl (by decide) (by rw [hfl, hlen]; exact ht) _ ⟨rfl, by rw [hsz]; omega, fun j hj => ?_, fun j v hv => ?_⟩).mono ?_
  · have : j = 0 ∨ j = 1 ∨ j = 2 ∨ j = 3 := by simp at hj; omega
    rcases this with rfl | rfl | rfl | rfl <;> simp [go_sem]
  · have hj : j < 4 := by
      have := (List.getElem?_eq_some_iff.1 hv).1
      simpa using this
    have : j = 0 ∨ j = 1 ∨ j = 2 ∨ j = 3 := by omega
    rcases this with rfl | rfl | rfl | rfl
    · obtain rfl : v0 = v := by simpa using hv
      exact h0.below hb
    · obtain rfl : v1 = v := by simpa using hv
      exact h1.below hb
    · obtain rfl : v2 = v := by simpa using hv
      exact h2.below hb
    · obtain rfl : v3 = v := by simpa using hv
      exact h3.below hb
  · rintro e w' ⟨v, rfl, ho, hb'⟩
    rw [hfl, hlen] at ho
    exact ⟨v, rfl, own_down ho (by rw [hsz]; omega), hb'⟩
theorem namesB_len (lx : List (ByteArray × Nat)) (h : ∀ j, j < lx.length → (lx.getD j (ByteArray.empty, 0)).1.size ≤ 1000) : ∀ k, k ≤ lx.length → (namesB (lx.take k)).length ≤ k * 2000
  | 0, _ => by simp [namesB]
  | k + 1, hk => by
    have ih := namesB_len lx h k (by omega)
    have := h k (by omega)
    rw [namesB_take lx k (by omega), List.length_append, nameB_length]
    omega
theorem lists4 (w : World) (v0 v1 v2 v3 : Value) (l0 l1 l2 l3 : List Nat) (h0 : Bytes w v0 l0) (h1 : Bytes w v1 l1) (h2 : Bytes w v2 l2) (h3 : Bytes w v3 l3) :
    ListsB (w.alloc (.cells #[v0, v1, v2, v3] 24)) w.heap.size [v0, v1, v2, v3] [l0, l1, l2, l3] := by
  have hb : Below w.heap.size w (w.alloc (.cells #[v0, v1, v2, v3] 24)) := Bel.new w _
  refine ⟨rfl, by simp, fun j hj => ?_, fun j v hv => ?_⟩
  · have : j = 0 ∨ j = 1 ∨ j = 2 ∨ j = 3 := by simp at hj; omega
    rcases this with rfl | rfl | rfl | rfl <;> simp [go_sem]
  · have hj : j < 4 := by
      have := (List.getElem?_eq_some_iff.1 hv).1
      simpa using this
    have : j = 0 ∨ j = 1 ∨ j = 2 ∨ j = 3 := by omega
    rcases this with rfl | rfl | rfl | rfl
    · obtain rfl : v0 = v := by simpa using hv
      exact h0.below hb
    · obtain rfl : v1 = v := by simpa using hv
      exact h1.below hb
    · obtain rfl : v2 = v := by simpa using hv
      exact h2.below hb
    · obtain rfl : v3 = v := by simpa using hv
      exact h3.below hb
theorem lists2 (w : World) (v0 v1 : Value) (l0 l1 : List Nat) (h0 : Bytes w v0 l0) (h1 : Bytes w v1 l1) :
    ListsB (w.alloc (.cells #[v0, v1] 24)) w.heap.size [v0, v1] [l0, l1] := by
  have hb : Below w.heap.size w (w.alloc (.cells #[v0, v1] 24)) := Bel.new w _
  refine ⟨rfl, by simp, fun j hj => ?_, fun j v hv => ?_⟩
  · have : j = 0 ∨ j = 1 := by simp at hj; omega
    rcases this with rfl | rfl <;> simp [go_sem]
  · have hj : j < 2 := by
      have := (List.getElem?_eq_some_iff.1 hv).1
      simpa using this
    have : j = 0 ∨ j = 1 := by omega
    rcases this with rfl | rfl
    · obtain rfl : v0 = v := by simpa using hv
      exact h0.below hb
    · obtain rfl : v1 = v := by simpa using hv
      exact h1.below hb
theorem ListsB.at {w : World} {q : Nat} {vs : List Value} {ls : List (List Nat)} (h : ListsB w q vs ls) (k : Nat) (hk : k < ls.length) : ∃ a c, w.cell? ⟨q, k, none⟩ = some (.slice a (ls.getD k []).length c) ∧ Bytes w (.slice a (ls.getD k []).length c) (ls.getD k []) := by
  have hv : k < vs.length := by rw [h.hl]; exact hk
  obtain ⟨v, hv'⟩ : ∃ v, vs[k]? = some v := ⟨_, List.getElem?_eq_getElem hv⟩
  have hb := h.hb k v hv'
  have hc := h.hc k hv
  obtain ⟨⟨a, c, rfl, rest⟩, hlt⟩ := hb
  exact ⟨a, c, hc.trans hv', ⟨⟨a, c, rfl, rest⟩, hlt⟩⟩
theorem concat2 (w : World) (v0 v1 : Value) (l0 l1 : List Nat) (ht : (l0 ++ l1).length ≤ 100000000) (h0 : Bytes w v0 l0) (h1 : Bytes w v1 l1) :
    Calls Tryz.prog 100 #[.slice (some ⟨w.heap.size, 0, none⟩) 2 2] (w.alloc (.cells #[v0, v1] 24)) fun e w' => ∃ v, e = .returned v ∧ w'.ownsRow w.heap.size 5 1 v (l0 ++ l1).length (encN .u8 (l0 ++ l1)) ∧ Below w.heap.size w w' := by
  have hfl : [l0, l1].flatten = l0 ++ l1 := by simp
  refine (concat_any w.heap.size 2 2 [v0, v1] [l0, l1] rfl (by decide) (by rw [hfl]; exact ht) _ (lists2 w v0 v1 l0 l1 h0 h1)).mono ?_
  rintro e w' ⟨v, rfl, ho, hb'⟩
  rw [hfl] at ho
  exact ⟨v, rfl, own_down ho (by simp), Bel.of hb'⟩
theorem encode_lt (l : List (Nat × Nat)) (h : ∀ i ∈ l, i.1 < 256 ∧ i.2 < 4294967296) : ∀ x ∈ encode l, x < 256 := by
  intro x hx
  obtain ⟨i, hi, hx⟩ := List.mem_flatMap.1 hx
  rcases List.mem_cons.1 hx with rfl | hx
  · exact (h i hi).1
  · exact le4_lt _ x (List.mem_of_mem_take hx)
theorem le4s_lt (l : List Nat) : ∀ x ∈ le4s l, x < 256 := by
  intro x hx
  obtain ⟨i, _, hx⟩ := List.mem_flatMap.1 hx
  exact le4_lt _ x hx
theorem words_lt {w : World} {v : Value} {l : List Nat} (h : Words w v l) : ∀ x ∈ l, x < 4294967296 := by
  intro x hx
  obtain ⟨k, hk, rfl⟩ := List.getElem_of_mem hx
  have := h.2 k
  rwa [List.getD_eq_getElem?_getD, List.getElem?_eq_getElem hk] at this
/-- A row just built of words, put. -/
theorem put_new (l : List Nat) (hl : ∀ i ∈ l, i < 4294967296) (hn : l.length ≤ 1000) (w : World) (n : Nat) (hn2 : n = l.length) (cs : Array Value) (hcs : cs.toList = encN .u32 l) :
    Calls Tryz.prog 101 #[.slice (some ⟨w.heap.size, 0, none⟩) n n] (w.alloc (.cells cs 25)) fun e w' => ∃ v, e = .returned v ∧ w'.ownsRow w.heap.size 5 1 v (4 * l.length) (encN .u8 (le4s l)) ∧ Below w.heap.size w w' := by
  subst hn2
  refine (put_any (some ⟨w.heap.size, 0, none⟩) l.length l hl _ ⟨some ⟨w.heap.size, 0, none⟩, l.length, rfl, by rw [encN_length, Nat.mul_one], Nat.le_refl _, by unfold maxLen; omega, (fun h => by cases h), fun _ => ⟨w.heap.size, 0, rfl, by simp, fun j hj => ?_⟩⟩ (by omega)).mono ?_
  · rw [← hcs] at hj ⊢
    simp [go_sem]
  · rintro e w' ⟨v', rfl, hown, hg⟩
    exact ⟨v', rfl, own_from hown (fun g e => by
      have := (hg.2 g e).resolve_left (by simp [Value.ownBlock])
      simp at this
      omega), Bel.of hg.bel⟩
end Go.Proofs.YtgpicmiaanapkaaGreat
/- image.Encode. -/
namespace Go.Proofs.YtgpicmiaanapkaaGreat
open Go.RowKit
set_option linter.unusedVariables false
attribute [local go_sem ↓] Go.wp_at_zero Go.wp_at_succ
theorem bytes_new (l : List Nat) (hl : ∀ i ∈ l, i < 256) (hn : l.length ≤ 1000) (w : World) (n : Nat) (hn2 : n = l.length) (cs : Array Value) (fr : Nat × Nat) (hcs : cs.toList = encN .u8 l) : Bytes (w.alloc (.cells cs 5 fr)) (.slice (some ⟨w.heap.size, 0, none⟩) n n) l := by
  subst hn2
  refine ⟨⟨some ⟨w.heap.size, 0, none⟩, l.length, rfl, by rw [encN_length, Nat.mul_one], Nat.le_refl _, by unfold maxLen; omega, (fun h => by cases h), fun _ => ⟨w.heap.size, 0, rfl, by simp, fun j hj => ?_⟩⟩, hl⟩
  rw [Nat.zero_add, World.cell?_alloc_mark, ← hcs, Array.getElem?_toList]
theorem put_at (l : List Nat) {w : World} {b n : Nat} {cs : Array Value} (hl : ∀ i ∈ l, i < 4294967296) (hn : l.length ≤ 1000) (hb : b = w.heap.size) (hn2 : n = l.length) (hcs : cs.toList = encN .u32 l) :
    Calls Tryz.prog 101 #[.slice (some ⟨b, 0, none⟩) n n] (w.alloc (.cells cs 25)) fun e w' => ∃ v, e = .returned v ∧ w'.ownsRow w.heap.size 5 1 v (4 * l.length) (encN .u8 (le4s l)) ∧ Below w.heap.size w w' := by
  subst hb
  exact put_new l hl hn w n hn2 cs hcs
theorem spansL_lt (N : Nat) : ∀ (l : List Nat) (a : Nat), a + l.sum < N → ∀ s ∈ spansL a l, s.1 < N ∧ s.2 < N
  | [], _, _, s, h => by simp [spansL] at h
  | n :: l, a, h, s, hs => by
    rw [List.sum_cons] at h
    rcases List.mem_cons.1 hs with rfl | hs
    · exact ⟨by show a < N; omega, by show n < N; omega⟩
    · exact spansL_lt N l (a + n) (by omega) s hs
def flatS (l : List (Nat × Nat)) : List Nat := l.flatMap (fun s => le4s [s.1, s.2])
theorem flatS_length (l : List (Nat × Nat)) : (flatS l).length = 8 * l.length := by
  induction l with
  | nil => rfl
  | cons s l ih =>
    have : flatS (s :: l) = le4s [s.1, s.2] ++ flatS l := rfl
    rw [this, List.length_append, ih, le4s_length, List.length_cons]
    simp only [List.length_cons, List.length_nil]
    omega
theorem flatS_take (l : List (Nat × Nat)) (k : Nat) (hk : k < l.length) : flatS (l.take (k + 1)) = flatS (l.take k) ++ le4s [(l.getD k (0, 0)).1, (l.getD k (0, 0)).2] := by
  rw [flatS, flatS, List.take_add_one, List.getElem?_eq_getElem hk, List.flatMap_append, List.getD_eq_getElem?_getD, List.getElem?_eq_getElem hk]
  simp
theorem flatS_lt (l : List (Nat × Nat)) : ∀ x ∈ flatS l, x < 256 := by
  intro x hx
  obtain ⟨i, _, hx⟩ := List.mem_flatMap.1 hx
  exact le4s_lt _ x hx
theorem flat_take (ls : List (List Nat)) (k : Nat) (hk : k < ls.length) : (ls.take (k + 1)).flatten = (ls.take k).flatten ++ ls.getD k [] := by
  rw [List.take_add_one, List.getElem?_eq_getElem hk, List.flatten_append, List.getD_eq_getElem?_getD, List.getElem?_eq_getElem hk]
  simp
/-- The conversion of a string to bytes, by a name of its own: it changes the world, and so is not to be taken first. -/
def cvS (x : Operand) : Op := Op.convert 9 24 x
attribute [local go_sem] cvS
set_option maxRecDepth 100000 in
set_option maxHeartbeats 4000000 in
theorem imgEncode_any (vc vj vd vn : Value) (m : Img) (hm : checkI m = 0) (w : World) (h : ImgAt w vc vj vd vn m) :
    Calls Tryz.prog 23 #[.agg #[vc, vj, vd, .int .u32 m.zero, .int .u32 m.stack, vn]] w fun e w' => ∃ u, e = .returned (.tuple #[u, .int .i64 0]) ∧ w'.ownsRow w.heap.size 5 1 u (imgB m).length (encN .u8 (imgB m)) ∧ Below w.heap.size w w' := by
  have H := Lib.hid h
  obtain ⟨hc1, hc2, hc3, hc4, hc5, hc6, hc7⟩ := checkI_ok hm
  have hb0 := Bel.new w (.cells #[vc, vj, vd, .int .u32 m.zero, .int .u32 m.stack, vn] 28)
  have HC := Lib.hid (cells_new6 w vc vj vd (.int .u32 m.zero) (.int .u32 m.stack) vn 28)
  obtain ⟨W0, hW0⟩ : ∃ W0, W0 = w.alloc (.cells #[vc, vj, vd, .int .u32 m.zero, .int .u32 m.stack, vn] 28) := ⟨_, rfl⟩
  have HK := Lib.hid (imgCheck_any vc vj vd vn m W0 (by rw [hW0]; exact h.below hb0))
  rw [hm] at HK
  obtain ⟨ac, cc, rfl, -⟩ := h.c.1
  obtain ⟨aj, cj, rfl, -⟩ := h.j.1
  obtain ⟨ad, cd, rfl, -⟩ := h.d.1
  obtain ⟨an, cn, rfl, -⟩ := h.n.1
  clear h
  go_enter Tryz.func23, Tryz.ntmps23
  go_wp2_with fail
  rw [← hW0]
  refine HK.out.mono ?_
  rintro e w1 ⟨rfl, hb1⟩
  have hs0 : w.heap.size < W0.heap.size := by rw [hW0]; simp
  have c0 : w1.cell? ⟨w.heap.size, 0, none⟩ = some (.slice ac m.code.length cc) := (hb1.cell (p := ⟨w.heap.size, 0, none⟩) hs0).trans (by rw [hW0]; exact HC.out.1)
  have c1 : w1.cell? ⟨w.heap.size, 1, none⟩ = some (.slice aj m.js.length cj) := (hb1.cell (p := ⟨w.heap.size, 1, none⟩) hs0).trans (by rw [hW0]; exact HC.out.2.1)
  have c2 : w1.cell? ⟨w.heap.size, 2, none⟩ = some (.slice ad m.data.length cd) := (hb1.cell (p := ⟨w.heap.size, 2, none⟩) hs0).trans (by rw [hW0]; exact HC.out.2.2.1)
  have c3 : w1.cell? ⟨w.heap.size, 3, none⟩ = some (.int .u32 m.zero) := (hb1.cell (p := ⟨w.heap.size, 3, none⟩) hs0).trans (by rw [hW0]; exact HC.out.2.2.2.1)
  have c4 : w1.cell? ⟨w.heap.size, 4, none⟩ = some (.int .u32 m.stack) := (hb1.cell (p := ⟨w.heap.size, 4, none⟩) hs0).trans (by rw [hW0]; exact HC.out.2.2.2.2.1)
  have c5 : w1.cell? ⟨w.heap.size, 5, none⟩ = some (.slice an m.lx.length cn) := (hb1.cell (p := ⟨w.heap.size, 5, none⟩) hs0).trans (by rw [hW0]; exact HC.out.2.2.2.2.2)
  have hbw1 : Below w.heap.size w w1 := Bel.tr (by rw [hW0]; exact hb0) hb1
  have hs1 : w.heap.size < w1.heap.size := Nat.lt_of_lt_of_le hs0 hb1.size
  have H1 := Lib.hid (H.out.below hbw1)
  have HB1 := Lib.hid hbw1
  have HE := Lib.hid (encode_any _ m.code w1 H1.out.c)
  have henc : encRes m.code = (encode m.code, 0, 0) := encRes_ok (by omega) (fun j hj => firstBad_all hc2 j hj)
  have Henc := Lib.hid henc
  clear hb1 hW0 hb0 HC HK H hbw1 henc
  go_wp2_with fail
  refine HE.out.mono ?_
  intro e w2 hE
  unfold EncPost at hE
  rw [Henc.out] at hE
  obtain ⟨uc, rfl, oc, gc, -⟩ := hE
  simp only at oc
  have hb2 := gc.bel
  have hs2 : w.heap.size < w2.heap.size := Nat.lt_of_lt_of_le hs1 hb2.size
  have oc' := own_from oc (B := w1.heap.size) (fun g e => (gc.2 g e).resolve_left (by simp [Value.ownBlock]))
  obtain ⟨auc, cuc, rfl, -⟩ := own_sl oc
  have HOC := Lib.hid oc'
  have HB2 := Lib.hid hb2
  have d0 := (hb2.cell (p := ⟨w.heap.size, 0, none⟩) hs1).trans c0
  have d1 := (hb2.cell (p := ⟨w.heap.size, 1, none⟩) hs1).trans c1
  have d2 := (hb2.cell (p := ⟨w.heap.size, 2, none⟩) hs1).trans c2
  have d3 := (hb2.cell (p := ⟨w.heap.size, 3, none⟩) hs1).trans c3
  have d4 := (hb2.cell (p := ⟨w.heap.size, 4, none⟩) hs1).trans c4
  have d5 := (hb2.cell (p := ⟨w.heap.size, 5, none⟩) hs1).trans c5
  have H2 := Lib.hid (H1.out.below hb2)
  clear hb2 gc oc oc' c0 c1 c2 c3 c4 c5 HE
  have hnl : m.lx.length ≤ 64 := hc6
  have Hnl := Lib.hid (namesB_len m.lx (fun j hj => by
    have := (namesN_iff m.lx).1 hc7 j hj
    unfold nameN at this
    simp only [Bool.and_eq_true, decide_eq_true_eq] at this
    have := this.2.1
    omega))
  go_wp2_with fail
  go_loopw [8, 39] (fun u i wr => ∃ k : Nat, k ≤ m.lx.length ∧ i = .int .i64 k ∧ wr.ownsRow w2.heap.size 5 1 u (namesB (m.lx.take k)).length (encN .u8 (namesB (m.lx.take k))) ∧ Below w2.heap.size w2 wr) (fun _ i _ => m.lx.length - (intOf i).toNat)
  case atStart => exact ⟨0, by omega, rfl, World.ownsRow_nil _ _ _ _, Below.refl _ _⟩
  case round =>
    obtain ⟨k, hk, rfl, ho, hb⟩ := hrel
    have HO := Lib.hid ho
    have HB := Lib.hid hb
    have hwr := hb.size
    by_cases hlt : k < m.lx.length
    · obtain ⟨⟨an', cn', he, hl', hnc, hcm, hnn, hp⟩, hx32⟩ := H2.out.n
      cases he
      obtain ⟨b, off, rfl, hbl, hc⟩ := hp (by omega)
      obtain ⟨x1, x2⟩ := encX_at m.lx k hlt
      have n0 := (hb.cell (p := ⟨b, off + k * 2, none⟩) hbl).trans ((hc (k * 2) (by rw [encX_length]; omega)).trans x1)
      have n1 : wr.cell? ⟨b, off + k * 2 + 1, none⟩ = some (.int .u32 (m.lx.getD k (ByteArray.empty, 0)).2) := (hb.cell (p := ⟨b, off + k * 2 + 1, none⟩) hbl).trans ((by rw [Nat.add_assoc]; exact hc (k * 2 + 1) (by rw [encX_length]; omega) : w2.cell? ⟨b, off + k * 2 + 1, none⟩ = _).trans x2)
      have hx3 := hx32 k
      rw [getD_snd] at hx3
      have Ht := Lib.hid (namesB_take m.lx k hlt)
      have hnm := (namesN_iff m.lx).1 hc7 k hlt
      unfold nameN at hnm
      simp only [Bool.and_eq_true, decide_eq_true_eq] at hnm
      have hn1 := hnm.1
      have hn2 := hnm.2.1
      clear hnm hc x1 x2 hp hnn hl' ho hb
      generalize m.lx.getD k (ByteArray.empty, 0) = nx at *
      obtain ⟨sx, ax⟩ := nx
      simp only at *
      have hki : (k : Int) < (m.lx.length : Int) := by omega
      have hk0 : (0 : Int) ≤ (k : Int) := by omega
      have hbwr : b < wr.heap.size := Nat.lt_of_lt_of_le hbl hwr
      obtain ⟨au, cu, rfl, -⟩ := own_sl HO.out
      go_wp2_with fail
      obtain ⟨q, hq⟩ : ∃ q, q = wr.heap.size := ⟨_, rfl⟩
      obtain ⟨WA, hWA⟩ : ∃ WA, WA = wr.alloc (.cells #[.string sx, .int .u32 ax] 217) := ⟨_, rfl⟩
      have g0 : WA.cell? ⟨q, 0, none⟩ = some (.string sx) := by rw [hWA, hq]; simp [go_sem]
      have g1 : WA.cell? ⟨q, 1, none⟩ = some (.int .u32 ax) := by rw [hWA, hq]; simp [go_sem]
      have hqA : q < WA.heap.size := by rw [hWA, hq]; simp
      have HBA := Lib.hid (show Below w2.heap.size w2 WA from by rw [hWA]; exact Bel.al HB.out _)
      have hcv := fun W : World => Go.Lib.run_convert_string_bytes (P := Tryz.prog) W 9 24 5 sx Tryz.underlying9 Tryz.underlying24 Tryz.underlying5
      have HS0 := Lib.hid (show WA.cell? ⟨q, 0, none⟩ = some (.string sx) ∧ WA.cell? ⟨q, 1, none⟩ = some (.int .u32 ax) ∧ Below WA.heap.size WA WA from ⟨g0, g1, Below.refl _ _⟩)
      have KC := Lib.hid (show ∀ W W' : World, Below W.heap.size W W' → (W.cell? ⟨q, 0, none⟩ = some (.string sx) ∧ W.cell? ⟨q, 1, none⟩ = some (.int .u32 ax) ∧ Below WA.heap.size WA W) → (W'.cell? ⟨q, 0, none⟩ = some (.string sx) ∧ W'.cell? ⟨q, 1, none⟩ = some (.int .u32 ax) ∧ Below WA.heap.size WA W') from
        fun W W' hb ⟨e1, e2, e3⟩ => ⟨(hb.cell (p := ⟨q, 0, none⟩) (Nat.lt_of_lt_of_le hqA e3.size)).trans e1, (hb.cell (p := ⟨q, 1, none⟩) (Nat.lt_of_lt_of_le hqA e3.size)).trans e2, Bel.tr e3 hb⟩)
      rw [← hq, ← hWA]
      have Hq := Lib.hid hq
      have HWA := Lib.hid hWA
      have hsz : (IntKind.u8.wrap (sx.size : Int)) = ((sx.size % 256 : Nat) : Int) := by rw [IntKind.wrap_u8]; omega
      have HS1 := Lib.hid (show WA.drew.cell? ⟨q, 0, none⟩ = some (.string sx) ∧ WA.drew.cell? ⟨q, 1, none⟩ = some (.int .u32 ax) ∧ Below WA.heap.size WA WA.drew from ⟨g0, g1, (Below.refl _ _).drew⟩)
      clear hq hWA n0 n1
      rw [show ∀ x, Op.convert 9 24 x = cvS x from fun _ => rfl]
      have KB0 := Lib.hid (show ∀ W, Below WA.heap.size WA W → Bytes W (.slice au (namesB (m.lx.take k)).length cu) (namesB (m.lx.take k)) from fun W hW => ((own_bytes HO.out (namesB_lt _)).below (by rw [HWA.out]; exact Bel.new _ _)).below hW)
      have Hlen : Hid ((namesB (m.lx.take k)).length + (le4 ax).length + [sx.size % 256].length + (byN sx).length ≤ 100000000) := Lib.hid (by
        have := Hnl.out k (by omega)
        rw [le4_length, byN_length]
        simp only [List.length_cons, List.length_nil]
        omega)
      have Hfin : Hid (∀ (W W2 : World) (v : Value), W.ownsRow W2.heap.size 5 1 v ((namesB (m.lx.take k)).length + (le4 ax).length + [sx.size % 256].length + (byN sx).length) (encN .u8 (namesB (m.lx.take k) ++ le4 ax ++ [sx.size % 256] ++ byN sx)) → Below WA.heap.size WA W2 → W.ownsRow w2.heap.size 5 1 v (namesB (m.lx.take (k + 1))).length (encN .u8 (namesB (m.lx.take (k + 1))))) := Lib.hid (fun W W2 v ho hb => by
        rw [Ht.out, nameB, List.length_append, List.length_append, List.length_append, ← Nat.add_assoc, ← Nat.add_assoc, ← List.append_assoc, ← List.append_assoc]
        exact own_down ho (Bel.tr HBA.out hb).size)
      go_region_held3 (fun w' => w'.cell? ⟨q, 0, none⟩ = some (.string sx) ∧ w'.cell? ⟨q, 1, none⟩ = some (.int .u32 ax) ∧ Below WA.heap.size WA w')
        (first | exact HS1.out | exact HS0.out | assumption | exact KC.out _ _ (Bel.new _ _) (by assumption) | exact KC.out _ _ (below_bytes _ _) (by assumption) | exact KC.out _ _ (by assumption) (by assumption))
        (first
          | ((go_at_call 101; refine (put4_one _ ax hx3 _ ?_).mono ?_; (repeat (first | exact cell1_new _ _ _ (by simp) | (with_reducible refine cell_dr ?_) | (with_reducible refine cell_alE ?_) | (with_reducible refine cell_by ?_) | (with_reducible refine cell_be (by assumption) ?_))); rintro e w' ⟨va, rfl, oa, hba⟩; obtain ⟨aa, ca, rfl, -⟩ := own_sl oa))
          | ((go_at_call 100; refine (concat4 _ _ _ _ _ (namesB (m.lx.take k)) (le4 ax) [sx.size % 256] (byN sx) ?_ ?_ ?_ ?_ ?_).mono ?_; (exact Hlen.out); (refine KB0.out _ ?_; (repeat (first | exact Below.refl _ _ | assumption | (with_reducible refine Bel.al ?_ _) | (with_reducible refine Bel.dr ?_) | (with_reducible refine bel_by ?_) | (with_reducible refine Bel.tr ?_ (by assumption))))); (refine (own_bytes oa (le4_lt _)).below ?_; (repeat (first | exact Below.refl _ _ | assumption | (with_reducible refine Bel.al ?_ _) | (with_reducible refine Bel.dr ?_) | (with_reducible refine bel_by ?_) | (with_reducible refine Bel.tr ?_ (by assumption))))); (refine (own_bytes ob (fun y hy => by rw [List.mem_singleton.1 hy]; omega)).below ?_; (repeat (first | exact Below.refl _ _ | assumption | (with_reducible refine Bel.al ?_ _) | (with_reducible refine Bel.dr ?_) | (with_reducible refine bel_by ?_) | (with_reducible refine Bel.tr ?_ (by assumption))))); (refine (bytes_conv _ sx (by omega) (by simp) rfl).below ?_; (repeat (first | exact Below.refl _ _ | assumption | (with_reducible refine Bel.al ?_ _) | (with_reducible refine Bel.dr ?_) | (with_reducible refine bel_by ?_) | (with_reducible refine Bel.tr ?_ (by assumption))))); rintro e w' ⟨vf, rfl, of, hbf⟩; obtain ⟨af, cf, rfl, -⟩ := own_sl of))
          | ((go_at_call 102; refine (put8_one _ (sx.size % 256) (by omega) _ ?_).mono ?_; (repeat (first | exact cell1_new _ _ _ (by simp) | (with_reducible refine cell_dr ?_) | (with_reducible refine cell_alE ?_) | (with_reducible refine cell_by ?_) | (with_reducible refine cell_be (by assumption) ?_))); rintro e w' ⟨vb, rfl, ob, hbb⟩; obtain ⟨ab, cb, rfl, -⟩ := own_sl ob))
)
      all_goals (
        have HF := Lib.hid (Hfin.out _ _ _ of (by (repeat (first | exact Below.refl _ _ | assumption | (with_reducible refine Bel.al ?_ _) | (with_reducible refine Bel.dr ?_) | (with_reducible refine bel_by ?_) | (with_reducible refine Bel.tr ?_ (by assumption))))))
        have HFB : Hid (Below WA.heap.size WA w') := Lib.hid (by (repeat (first | exact Below.refl _ _ | assumption | (with_reducible refine Bel.al ?_ _) | (with_reducible refine Bel.dr ?_) | (with_reducible refine bel_by ?_) | (with_reducible refine Bel.tr ?_ (by assumption)))))
        go_wp2_with fail
        go_roundw
        case rel => exact ⟨k + 1, by omega, by go_num, HF.out, Bel.tr HBA.out HFB.out⟩
        case measure => simp [intOf]; omega)
    · obtain rfl : k = m.lx.length := by omega
      have HOn := Lib.hid (show wr.ownsRow w2.heap.size 5 1 u8 (namesB m.lx).length (encN .u8 (namesB m.lx)) from by
        have := HO.out
        rwa [List.take_length] at this)
      obtain ⟨au, cu, rfl, -⟩ := own_sl HOn.out
      have e0 := (HB.out.cell (p := ⟨w.heap.size, 0, none⟩) hs2).trans d0
      have e1 := (HB.out.cell (p := ⟨w.heap.size, 1, none⟩) hs2).trans d1
      have e2 := (HB.out.cell (p := ⟨w.heap.size, 2, none⟩) hs2).trans d2
      have e3 := (HB.out.cell (p := ⟨w.heap.size, 3, none⟩) hs2).trans d3
      have e4 := (HB.out.cell (p := ⟨w.heap.size, 4, none⟩) hs2).trans d4
      have hs3 : w.heap.size < wr.heap.size := Nat.lt_of_lt_of_le hs2 hwr
      have H3 := Lib.hid (H2.out.below HB.out)
      have P0 := Lib.hid ((own_bytes HOC.out (encode_lt _ H2.out.c.2)).below HB.out)
      have P3 := Lib.hid (own_bytes HOn.out (namesB_lt _))
      have HJ := Lib.hid (show ∀ W, Below wr.heap.size wr W → Calls Tryz.prog 101 #[.slice aj m.js.length cj] W fun e w' => ∃ v, e = .returned v ∧ w'.ownsRow W.heap.size 5 1 v (4 * m.js.length) (encN .u8 (le4s m.js)) ∧ Below W.heap.size W w' from fun W hW => by
        refine (put_any aj cj m.js (words_lt H3.out.j) W (H3.out.j.1.below hW) (by omega)).mono ?_
        rintro e w' ⟨v', rfl, hown, hg⟩
        exact ⟨v', rfl, own_from hown (fun g e => (hg.2 g e).resolve_left (by simp [Value.ownBlock])), hg.bel⟩)
      have HS1 := Lib.hid (show wr.drew.cell? ⟨w.heap.size, 1, none⟩ = some (.slice aj m.js.length cj) ∧ wr.drew.cell? ⟨w.heap.size, 2, none⟩ = some (.slice ad m.data.length cd) ∧ Below wr.heap.size wr wr.drew from ⟨e1, e2, Bel.dr (Below.refl _ _)⟩)
      have KC := Lib.hid (show ∀ W W' : World, Below W.heap.size W W' → (W.cell? ⟨w.heap.size, 1, none⟩ = some (.slice aj m.js.length cj) ∧ W.cell? ⟨w.heap.size, 2, none⟩ = some (.slice ad m.data.length cd) ∧ Below wr.heap.size wr W) → (W'.cell? ⟨w.heap.size, 1, none⟩ = some (.slice aj m.js.length cj) ∧ W'.cell? ⟨w.heap.size, 2, none⟩ = some (.slice ad m.data.length cd) ∧ Below wr.heap.size wr W') from
        fun W W' hb ⟨x1, x2, x3⟩ => ⟨(hb.cell (p := ⟨w.heap.size, 1, none⟩) (Nat.lt_of_lt_of_le hs3 x3.size)).trans x1, (hb.cell (p := ⟨w.heap.size, 2, none⟩) (Nat.lt_of_lt_of_le hs3 x3.size)).trans x2, Bel.tr x3 hb⟩)
      have HOC0 := Lib.hid HB.out
      clear d0 d1 d2 d3 d4 d5
      go_wp2_with fail
      go_region_held3 (fun w' => w'.cell? ⟨w.heap.size, 1, none⟩ = some (.slice aj m.js.length cj) ∧ w'.cell? ⟨w.heap.size, 2, none⟩ = some (.slice ad m.data.length cd) ∧ Below wr.heap.size wr w')
        (first | exact HS1.out | assumption | exact KC.out _ _ (Bel.new _ _) (by assumption) | exact KC.out _ _ (by assumption) (by assumption))
        ((go_at_call 101; refine (HJ.out _ ?_).mono ?_; (repeat (first | exact Below.refl _ _ | assumption | (with_reducible refine Bel.al ?_ _) | (with_reducible refine Bel.dr ?_) | (with_reducible refine bel_by ?_) | (with_reducible refine Bel.tr ?_ (by assumption)))); rintro e w3 ⟨vj, rfl, oj, hbj⟩; obtain ⟨aj', cj', rfl, -⟩ := own_sl oj))
      have HBJ := Lib.hid (show Below wr.heap.size wr w3 from by (repeat (first | exact Below.refl _ _ | assumption | (with_reducible refine Bel.al ?_ _) | (with_reducible refine Bel.dr ?_) | (with_reducible refine bel_by ?_) | (with_reducible refine Bel.tr ?_ (by assumption)))))
      have PJ := Lib.hid (own_bytes oj (le4s_lt _))
      have HL := Lib.hid (lists4 w3 _ _ _ _ _ _ _ _ (P0.out.below HBJ.out) PJ.out (H3.out.d.below HBJ.out) (P3.out.below HBJ.out))
      obtain ⟨q4, hq4⟩ : ∃ q4, q4 = w3.heap.size := ⟨_, rfl⟩
      obtain ⟨W4, hW4⟩ : ∃ W4, W4 = w3.alloc (.cells #[.slice auc (encode m.code).length cuc, .slice aj' (4 * m.js.length) cj', .slice ad m.data.length cd, .slice au (namesB m.lx).length cu] 24) := ⟨_, rfl⟩
      have HB4 : Hid (Below w.heap.size w W4) := Lib.hid (by rw [hW4]; exact Bel.al (Bel.tr (Bel.tr (Bel.tr (HB1.out) HB2.out) HB.out) HBJ.out) _)
      have HB34 : Hid (Below wr.heap.size wr W4) := Lib.hid (by rw [hW4]; exact Bel.al HBJ.out _)
      have f0 := (HB34.out.cell (p := ⟨w.heap.size, 0, none⟩) hs3).trans e0
      have f3 := (HB34.out.cell (p := ⟨w.heap.size, 3, none⟩) hs3).trans e3
      have f4 := (HB34.out.cell (p := ⟨w.heap.size, 4, none⟩) hs3).trans e4
      have hs4 : w.heap.size < W4.heap.size := Nat.lt_of_lt_of_le hs3 HB34.out.size
      have HL4 : Hid (ListsB W4 q4 [.slice auc (encode m.code).length cuc, .slice aj' (4 * m.js.length) cj', .slice ad m.data.length cd, .slice au (namesB m.lx).length cu] (partsI m)) := Lib.hid (by rw [hW4, hq4]; exact HL.out)
      have L0 := encode_len m.code
      have L1 := le4s_length m.js
      have L3 := Hnl.out m.lx.length (Nat.le_refl _)
      rw [List.take_length] at L3
      unfold roomN at hc5
      have HLs : Hid (∀ k, ((partsI m).getD k []).length ≤ 200000) := Lib.hid (fun k => by
        unfold partsI
        match k with
        | 0 => simp; omega
        | 1 => simp; omega
        | 2 => simp; omega
        | 3 => simp; omega
        | k + 4 => simp)
      have HLsum : Hid (((partsI m).map List.length).sum ≤ 800000) := Lib.hid (by
        unfold partsI
        simp only [List.map_cons, List.map_nil, List.sum_cons, List.sum_nil]
        omega)
      have Hz := H3.out.z
      have Hst := H3.out.s
      rw [← hW4, ← hq4]
      clear hW4 hq4 HL P0 PJ P3 H3 HJ KC HS1 e0 e1 e2 e3 e4 HOn HOC HB1 HB2 HB HBJ HB34 oj HO HOC0 H2 H1 Henc Hnl hc2 hc4 hc7 L0 L1 L3
      obtain ⟨j0, hj, hy0, hy1, hy2⟩ := info_parts info32
      have hqlt := HL4.out.hq
      go_wp2_with fail
      go_loopw [12, 70] (fun u i wx => ∃ k : Nat, k ≤ 4 ∧ i = .int .i64 k ∧ wx.ownsRow W4.heap.size 25 1 u k (encN .u32 (((partsI m).map List.length).take k)) ∧ Below W4.heap.size W4 wx) (fun _ i _ => 4 - (intOf i).toNat)
      case atStart => exact ⟨0, by omega, rfl, World.ownsRow_nil _ _ _ _, Below.refl _ _⟩
      case round =>
        obtain ⟨k, hk, rfl, ho, hb⟩ := hrel
        have HO := Lib.hid ho
        have HB := Lib.hid hb
        have HOo := Lib.hid (own_base ho)
        clear ho hb
        by_cases hlt : k < 4
        · obtain ⟨ak, ck, hcell, -⟩ := HL4.out.at k hlt
          have hcell' := (HB.out.cell (p := ⟨q4, k, none⟩) hqlt).trans hcell
          have Ht : Hid (((partsI m).map List.length).take (k + 1) = ((partsI m).map List.length).take k ++ [((partsI m).getD k []).length]) := Lib.hid (by
            have hk4 : k < (partsI m).length := hlt
            rw [List.take_add_one, List.getElem?_map, List.getElem?_eq_getElem hk4, List.getD_eq_getElem?_getD, List.getElem?_eq_getElem hk4]
            rfl)
          have hle := HLs.out k
          clear hcell
          generalize (partsI m).getD k [] = pk at *
          have hw : IntKind.u32.wrap ((pk.length : Nat) : Int) = ((pk.length : Nat) : Int) := u32_wrap _ (by omega)
          have hki : (k : Int) < 4 := by omega
          have hk0 : (0 : Int) ≤ (k : Int) := by omega
          go_wp2_with ((with_reducible refine wpList_append1B (o := ⟨some 79, .call { callee := .builtin .append, args := #[.tmp 74, .tmp 78], argTypes := #[23, 23] }, _, _, _, none⟩) rfl _ _ 23 rfl 25 j0 (.int .u32 0) 1 4 Tryz.underlying23 hj hy0 hy1 hy2 ?_ ?_ _ _ _ HOo.out _ _ wr.heap.size ?_ ?_ ?_ ?_ ?_ ?_ ?_ ?_); rfl; decide; rfl; rfl; rfl; rfl; (simp [Value.oneCell']); (unfold maxLen; omega); omega; intro g c w5 hr1 hg1 hl1)
          go_roundw
          case rel => exact ⟨k + 1, by omega, by go_num, by
              rw [Ht.out, encN_append]
              exact own_from hr1 (fun g' e => by
                rcases hg1.2 g' e with h' | h'
                · exact (HO.out.lt g' h').1
                · have := HB.out.size; omega), HB.out.grown hg1.1 HB.out.size (fun g' e => (HO.out.lt g' e).1)⟩
          case measure => simp [intOf]; omega
        · obtain rfl : k = 4 := by omega
          have hl4 : ((partsI m).map List.length).length = 4 := rfl
          have HW := Lib.hid (show Words wr (u12) ((partsI m).map List.length) from by
            have h := HO.out
            rw [List.take_of_length_le (Nat.le_of_eq hl4)] at h
            exact ⟨Reads.own (own_base h) (by decide), fun j => by
              have := HLs.out j
              have e : ((partsI m).map List.length).getD j 0 = ((partsI m).getD j []).length := by
                simp only [List.getD_eq_getElem?_getD, List.getElem?_map]
                cases (partsI m)[j]? <;> rfl
              omega⟩)
          have HY := Lib.hid (laySpans_any _ 64 ((partsI m).map List.length) (by rw [hl4]; decide) (by have := HLsum.out; omega) wr HW.out)
          have g0 := (HB.out.cell (p := ⟨w.heap.size, 0, none⟩) hs4).trans f0
          have g3 := (HB.out.cell (p := ⟨w.heap.size, 3, none⟩) hs4).trans f3
          have g4 := (HB.out.cell (p := ⟨w.heap.size, 4, none⟩) hs4).trans f4
          have hs5 : w.heap.size < wr.heap.size := Nat.lt_of_lt_of_le hs4 HB.out.size
          clear f0 f3 f4 HW HO HOo
          go_wp2_with fail
          refine HY.out.mono ?_
          rintro e w5 ⟨us, rfl, os, hb5⟩
          have HOS := Lib.hid os
          have HB5 := Lib.hid hb5
          obtain ⟨sa, sc, rfl, -⟩ := own_sl os
          have h0 := (hb5.cell (p := ⟨w.heap.size, 0, none⟩) hs5).trans g0
          have h3 := (hb5.cell (p := ⟨w.heap.size, 3, none⟩) hs5).trans g3
          have h4 := (hb5.cell (p := ⟨w.heap.size, 4, none⟩) hs5).trans g4
          have hs6 : w.heap.size < w5.heap.size := Nat.lt_of_lt_of_le hs5 hb5.size
          clear g0 g3 g4 os hb5 HY
          have hwc : IntKind.u32.wrap ((m.code.length : Nat) : Int) = ((m.code.length : Nat) : Int) := u32_wrap _ (by omega)
          have hcc := Go.Lib.run_convert_bytes_const (P := Tryz.prog) w5 24 5 #[.int .u8 80, .int .u8 69, .int .u8 78, .int .u8 33] 4 4 Tryz.underlying24 Tryz.underlying5
          go_wp2_with fail
          refine (put_at [1, 0, m.code.length] ?_ ?_ ?_ ?_ ?_).mono ?_
          · simp; omega
          · simp
          · simp
          · rfl
          · rfl
          rintro e w6 ⟨uh, rfl, oh, hb6⟩
          obtain ⟨ha, hcp, rfl, -⟩ := own_sl oh
          have PH := Lib.hid (own_bytes oh (le4s_lt _))
          have P4 := Lib.hid ((bytes_new [80, 69, 78, 33] (by decide) (by decide) w5 4 rfl _ _ rfl).below hb6)
          have HB6 := Lib.hid (Bel.tr (Bel.new _ _) hb6)
          have HL6 := Lib.hid (HL4.out.below (Bel.tr (Bel.tr HB.out HB5.out) HB6.out))
          have HBw6 := Lib.hid (Bel.tr (Bel.tr (Bel.tr HB4.out HB.out) HB5.out) HB6.out)
          clear oh hb6
          go_wp2_with fail
          refine (concat2 w6 _ _ [80, 69, 78, 33] (le4s [1, 0, m.code.length]) (by rw [List.length_append, le4s_length]; simp) P4.out PH.out).mono ?_
          rintro e w7 ⟨ux, rfl, ox, hb7⟩
          obtain ⟨sp, hsp⟩ : ∃ sp, sp = spansL 64 ((partsI m).map List.length) := ⟨_, rfl⟩
          have Hspl : sp.length = 4 := by rw [hsp, spansL_length]; exact hl4
          have Hspb := Lib.hid (spansL_lt 4294967296 ((partsI m).map List.length) 64 (by have := HLsum.out; omega))
          rw [← hsp] at HOS Hspb
          have Hsp := Lib.hid hsp
          have HX := Lib.hid (show w7.ownsRow w6.heap.size 5 1 ux (16 + 8 * 0) (encN .u8 (headI m ++ flatS (sp.take 0))) from by
            rw [show (([80, 69, 78, 33] : List Nat) ++ le4s [1, 0, m.code.length]).length = 16 + 8 * 0 from by rw [List.length_append, le4s_length]; rfl] at ox
            rw [List.take_zero, show flatS [] = [] from rfl, List.append_nil]
            exact ox)
          have HHl : Hid ((headI m).length = 16) := Lib.hid (by unfold headI; rw [List.length_append, le4s_length]; rfl)
          have HB7 := Lib.hid hb7
          have PS := Lib.hid (Reads.own (own_base HOS.out) (by decide) : Reads w5 2 (.slice sa ((partsI m).map List.length).length sc) _ _)
          clear hsp ox hb7 P4 PH
          rw [hl4] at PS
          obtain ⟨i0, hi, hz0, hz1, hz2⟩ := info_parts info5
          obtain ⟨a', c', he, -, -, -, -, hp⟩ := PS.out
          cases he
          obtain ⟨b5, o5, rfl, hbl5, hc⟩ := hp (by decide)
          have HC5 := Lib.hid hc
          have hb56 : b5 < w6.heap.size := Nat.lt_of_lt_of_le hbl5 HB6.out.size
          have hs7 : w.heap.size < w6.heap.size := Nat.lt_of_lt_of_le hs6 HB6.out.size
          clear hp hc PS HOS
          go_wp2_with fail
          go_loopw [16, 101] (fun u i wr => ∃ k : Nat, k ≤ 4 ∧ i = .int .i64 k ∧ wr.ownsRow w6.heap.size 5 1 u (16 + 8 * k) (encN .u8 (headI m ++ flatS (sp.take k))) ∧ Below w6.heap.size w6 wr) (fun _ i _ => 4 - (intOf i).toNat)
          case atStart => exact ⟨0, by omega, rfl, HX.out, HB7.out⟩
          case round =>
            obtain ⟨k, hk, rfl, ho, hb⟩ := hrel
            have HO := Lib.hid ho
            have HB := Lib.hid hb
            clear ho hb
            by_cases hlt : k < 4
            · obtain ⟨x1, x2⟩ := encS_at sp k (by omega)
              have n0 := (HB.out.cell (p := ⟨b5, o5 + k * 2, none⟩) hb56).trans ((HB6.out.cell (p := ⟨b5, o5 + k * 2, none⟩) hbl5).trans ((HC5.out (k * 2) (by rw [encS_length]; omega)).trans x1))
              have n1 : wr.cell? ⟨b5, o5 + k * 2 + 1, none⟩ = some (.int .u32 (sp.getD k (0, 0)).2) := (HB.out.cell (p := ⟨b5, o5 + k * 2 + 1, none⟩) hb56).trans ((HB6.out.cell (p := ⟨b5, o5 + k * 2 + 1, none⟩) hbl5).trans ((by rw [Nat.add_assoc]; exact HC5.out (k * 2 + 1) (by rw [encS_length]; omega) : w5.cell? ⟨b5, o5 + k * 2 + 1, none⟩ = _).trans x2))
              have Ht := Lib.hid (flatS_take sp k (by omega))
              have hlt1 : (sp.getD k (0, 0)).1 < 4294967296 ∧ (sp.getD k (0, 0)).2 < 4294967296 := by
                have hks : k < sp.length := by omega
                rw [List.getD_eq_getElem?_getD, List.getElem?_eq_getElem hks]
                exact Hspb.out _ (List.getElem_mem hks)
              clear x1 x2
              generalize sp.getD k (0, 0) = sk at *
              obtain ⟨s1, s2⟩ := sk
              simp only at *
              have hki : (k : Int) < 4 := by omega
              have hk0 : (0 : Int) ≤ (k : Int) := by omega
              obtain ⟨au2, cu2, rfl, -⟩ := own_sl HO.out
              go_wp2_with fail
              refine (put_at [s1, s2] ?_ ?_ ?_ ?_ ?_).mono ?_
              · simp; omega
              · simp
              · simp
              · rfl
              · rfl
              rintro e w8 ⟨up, rfl, op, hb8⟩
              have HBc := Lib.hid (Bel.of hb8)
              have HOc := Lib.hid (own_below (own_base HO.out) HBc.out)
              have Hop : Hid (Reads w8 1 up 8 (encN .u8 (le4s [s1, s2]))) := Lib.hid (Reads.own (own_base op) (by decide))
              have Hone := Lib.hid (encN_one .u8 (le4s [s1, s2]))
              clear op hb8
              go_wp2_with ((with_reducible refine wpList_append_reads (o := ⟨some 112, .call { callee := .builtin .append, args := #[.tmp 105, .tmp 111], argTypes := #[24, 24] }, _, _, _, none⟩) rfl _ _ 24 rfl 5 i0 (.int .u8 0) 1 1 Tryz.underlying24 hi hz0 hz1 hz2 ?_ ?_ _ _ _ ?_ HOc.out _ _ _ ?_ Hop.out Hone.out ?_ ?_ ?_); rfl; decide; rfl; rfl; (unfold maxLen; omega); omega; intro v3 w9 o3 g3)
              have HB9 := Lib.hid (Bel.tr HB.out HBc.out)
              go_roundw
              case rel => exact ⟨k + 1, by omega, by go_num, by
                  rw [Ht.out, ← List.append_assoc, encN_append, show 16 + 8 * (k + 1) = 16 + 8 * k + 8 from by omega]
                  exact own_from o3 (fun g e => by
                    rcases g3.2 g e with h' | h'
                    · exact (HO.out.lt g h').1
                    · have := HB9.out.size; omega), HB9.out.grown g3.1 HB9.out.size (fun g e => (HO.out.lt g e).1)⟩
              case measure => simp [intOf]; omega
            · obtain rfl : k = 4 := by omega
              have htk : sp.take 4 = sp := List.take_of_length_le (by omega)
              have HO2 := Lib.hid (show wr.ownsRow w6.heap.size 5 1 u16 48 (encN .u8 (headI m ++ flatS sp)) from by
                have := HO.out
                rwa [htk] at this)
              have i3 := (HB.out.cell (p := ⟨w.heap.size, 3, none⟩) hs7).trans ((HB6.out.cell (p := ⟨w.heap.size, 3, none⟩) hs6).trans h3)
              have i4 := (HB.out.cell (p := ⟨w.heap.size, 4, none⟩) hs7).trans ((HB6.out.cell (p := ⟨w.heap.size, 4, none⟩) hs6).trans h4)
              clear HO htk h3 h4 HX HC5 h0
              obtain ⟨au2, cu2, rfl, -⟩ := own_sl HO2.out
              go_wp2_with fail
              refine (put_at [m.zero, m.stack, 0, 0] ?_ ?_ ?_ ?_ ?_).mono ?_
              · simp; omega
              · simp
              · rfl
              · rfl
              · rfl
              rintro e w8 ⟨up, rfl, op, hb8⟩
              have HBc := Lib.hid (hb8)
              have HOc := Lib.hid (own_below (own_base HO2.out) HBc.out)
              have Hop : Hid (Reads w8 1 up 16 (encN .u8 (le4s [m.zero, m.stack, 0, 0]))) := Lib.hid (Reads.own (own_base op) (by decide))
              have Hone := Lib.hid (encN_one .u8 (le4s [m.zero, m.stack, 0, 0]))
              clear op hb8
              go_wp2_with ((with_reducible refine wpList_append_reads (o := ⟨some 121, .call { callee := .builtin .append, args := #[.tmp 114, .tmp 120], argTypes := #[24, 24] }, _, _, _, none⟩) rfl _ _ 24 rfl 5 i0 (.int .u8 0) 1 1 Tryz.underlying24 hi hz0 hz1 hz2 ?_ ?_ _ _ _ ?_ HOc.out _ _ _ ?_ Hop.out Hone.out ?_ ?_ ?_); rfl; decide; rfl; rfl; (unfold maxLen; omega); omega; intro v3 w9 o3 g3)
              have HB9 := Lib.hid ((Bel.tr HB.out HBc.out).grown g3.1 (Bel.tr HB.out HBc.out).size (fun g e => (HO2.out.lt g e).1))
              have HX9 := Lib.hid (show w9.ownsRow w6.heap.size 5 1 v3 64 (encN .u8 (headI m ++ flatS sp ++ le4s [m.zero, m.stack, 0, 0])) from by
                rw [encN_append]
                exact own_from o3 (fun g e => by
                  rcases g3.2 g e with h' | h'
                  · exact (HO2.out.lt g h').1
                  · have := (Bel.tr HB.out HBc.out).size; omega))
              have HHr : Hid (headI m ++ flatS sp ++ le4s [m.zero, m.stack, 0, 0] ++ (partsI m).flatten = rawI m) := Lib.hid (by
                rw [rawI, Hsp.out, flatS, List.flatMap_id, List.append_assoc, List.append_assoc])
              have HLl : Hid ((headI m ++ flatS sp ++ le4s [m.zero, m.stack, 0, 0]).length = 64 ∧ ∀ x ∈ headI m ++ flatS sp ++ le4s [m.zero, m.stack, 0, 0], x < 256) := Lib.hid ⟨by
                rw [List.length_append, List.length_append, le4s_length, flatS_length, HHl.out, Hspl]; rfl, fun x hx => by
                rcases List.mem_append.1 hx with hx | hx
                · rcases List.mem_append.1 hx with hx | hx
                  · unfold headI at hx
                    rcases List.mem_append.1 hx with hx | hx
                    · have : ∀ y ∈ ([80, 69, 78, 33] : List Nat), y < 256 := by decide
                      exact this x hx
                    · exact le4s_lt _ x hx
                  · exact flatS_lt _ x hx
                · exact le4s_lt _ x hx⟩
              clear HO2 i3 i4 HB HBc HOc Hop Hone o3 g3
              generalize headI m ++ flatS sp ++ le4s [m.zero, m.stack, 0, 0] = Lp at *
              have HPt : Hid ((partsI m).flatten.length ≤ 800000) := Lib.hid (by rw [List.length_flatten]; exact HLsum.out)
              go_loopw [16, 124] (fun u i wr => ∃ k N : Nat, k ≤ 4 ∧ i = .int .i64 k ∧ N = ((partsI m).take k).flatten.length ∧ wr.ownsRow w6.heap.size 5 1 u (64 + N) (encN .u8 (Lp ++ ((partsI m).take k).flatten)) ∧ Below w6.heap.size w6 wr) (fun _ i _ => 4 - (intOf i).toNat)
              case atStart => exact ⟨0, 0, by omega, rfl, rfl, by rw [List.take_zero, List.flatten_nil, List.append_nil]; exact HX9.out, HB9.out⟩
              case round =>
                obtain ⟨k, N, hk, rfl, hN, ho, hb⟩ := hrel
                have HO := Lib.hid ho
                have HB := Lib.hid hb
                have HN := Lib.hid hN
                clear ho hb hN
                by_cases hlt : k < 4
                · have hkl : k < (partsI m).length := hlt
                  obtain ⟨ak, ck, hcell, hbs⟩ := HL6.out.at k hkl
                  have hcell' := (HB.out.cell (p := ⟨q4, k, none⟩) HL6.out.hq).trans hcell
                  have Hbs := Lib.hid ((hbs.below HB.out).1)
                  have Ht := Lib.hid (flat_take (partsI m) k hkl)
                  have hle := flat_le (partsI m) (k + 1)
                  rw [Ht.out, List.length_append, ← HN.out] at hle
                  have hle2 : N + ((partsI m).getD k []).length ≤ 800000 := Nat.le_trans hle HPt.out
                  clear hcell hbs hle hkl
                  generalize (partsI m).getD k [] = pk at *
                  have Hone := Lib.hid (encN_one .u8 pk)
                  have HOo := Lib.hid (own_base HO.out)
                  have hki : (k : Int) < 4 := by omega
                  have hk0 : (0 : Int) ≤ (k : Int) := by omega
                  obtain ⟨au2, cu2, rfl, -⟩ := own_sl HO.out
                  go_wp2_with ((with_reducible refine wpList_append_reads (o := ⟨some 130, .call { callee := .builtin .append, args := #[.tmp 128, .tmp 129], argTypes := #[24, 24] }, _, _, _, none⟩) rfl _ _ 24 rfl 5 i0 (.int .u8 0) 1 1 Tryz.underlying24 hi hz0 hz1 hz2 ?_ ?_ _ _ _ ?_ HOo.out _ _ _ ?_ Hbs.out Hone.out ?_ ?_ ?_); rfl; decide; rfl; rfl; (unfold maxLen; omega); omega; intro v4 w10 o4 g4)
                  go_roundw
                  case rel => exact ⟨k + 1, N + pk.length, by omega, by go_num, by rw [Ht.out, List.length_append, ← HN.out], by
                      rw [Ht.out, ← List.append_assoc, encN_append, ← Nat.add_assoc]
                      exact own_from o4 (fun g e => by
                        rcases g4.2 g e with h' | h'
                        · exact (HO.out.lt g h').1
                        · have := HB.out.size; omega), HB.out.grown g4.1 HB.out.size (fun g e => (HO.out.lt g e).1)⟩
                  case measure => simp [intOf]; omega
                · obtain rfl : k = 4 := by omega
                  have htk : (partsI m).take 4 = partsI m := List.take_of_length_le (Nat.le_refl 4)
                  have hO := HO.out
                  have hn := HN.out
                  have hLl := HLl.out
                  rw [htk] at hO hn
                  have hplt : ∀ x ∈ (partsI m).flatten, x < 256 := by
                    intro x hx
                    obtain ⟨l, hl, hx⟩ := List.mem_flatten.1 hx
                    obtain ⟨j, hj, rfl⟩ := List.getElem_of_mem hl
                    obtain ⟨_, _, _, hbs⟩ := HL6.out.at j hj
                    have := hbs.2
                    rw [List.getD_eq_getElem?_getD, List.getElem?_eq_getElem hj] at this
                    exact this x hx
                  have HS := Lib.hid (sealed_any u16 (Lp ++ (partsI m).flatten) (by rw [List.length_append]; omega) (by have := HPt.out; rw [List.length_append]; omega) wr (own_bytes hO (fun x hx => (List.mem_append.1 hx).elim (hLl.2 x) (hplt x))))
                  rw [HHr.out] at HS
                  clear hO hn hLl htk hplt
                  go_wp2_with fail
                  refine HS.out.mono ?_
                  rintro e w11 ⟨uz, rfl, oz, hbz⟩
                  go_wp2_with fail
                  go_ret2
                  exact ⟨_, rfl, own_down oz (Bel.tr HBw6.out HB.out).size, Bel.tr (Bel.tr HBw6.out HB.out) hbz⟩
end Go.Proofs.YtgpicmiaanapkaaGreat
/- image.Bits. -/
namespace Go.Proofs.YtgpicmiaanapkaaGreat
open Go.RowKit
set_option linter.unusedVariables false
/-- The least k from a number on for which 2^k is enough. -/
def bitsFrom (n : Nat) : Nat → Nat → Nat
  | 0, k => k
  | f + 1, k => if 2 ^ k < n then bitsFrom n f (k + 1) else k
def bitsI (m : Img) : Nat := bitsFrom (roomN m) 8 8
theorem bitsFrom_spec (n : Nat) : ∀ (f k : Nat), n ≤ 2 ^ (k + f) → k ≤ bitsFrom n f k ∧ bitsFrom n f k ≤ k + f ∧ n ≤ 2 ^ bitsFrom n f k
  | 0, k, h => ⟨Nat.le_refl _, Nat.le_refl _, h⟩
  | f + 1, k, h => by
    unfold bitsFrom
    split
    · obtain ⟨h1, h2, h3⟩ := bitsFrom_spec n f (k + 1) (by rw [show k + 1 + f = k + (f + 1) from by omega]; exact h)
      exact ⟨by omega, by omega, h3⟩
    · exact ⟨Nat.le_refl _, by omega, by omega⟩
theorem bitsI_spec {m : Img} (h : roomN m ≤ 65536) : 8 ≤ bitsI m ∧ bitsI m ≤ 16 ∧ roomN m ≤ 2 ^ bitsI m := bitsFrom_spec (roomN m) 8 8 (by simpa using h)
set_option maxRecDepth 100000 in
set_option maxHeartbeats 2000000 in
theorem bits_any (vc vj vd vn : Value) (m : Img) (hm : checkI m = 0) (hr : roomN m ≤ 65536) (w : World) (h : ImgAt w vc vj vd vn m) :
    Calls Tryz.prog 161 #[.agg #[vc, vj, vd, .int .u32 m.zero, .int .u32 m.stack, vn]] w fun e w' => e = .returned (.tuple #[.int .i64 (bitsI m), .int .i64 0]) ∧ Below w.heap.size w w' := by
  have hb0 := Bel.new w (.cells #[vc, vj, vd, .int .u32 m.zero, .int .u32 m.stack, vn] 28)
  obtain ⟨W0, hW0⟩ : ∃ W0, W0 = w.alloc (.cells #[vc, vj, vd, .int .u32 m.zero, .int .u32 m.stack, vn] 28) := ⟨_, rfl⟩
  have HK := Lib.hid (imgCheck_any vc vj vd vn m W0 (by rw [hW0]; exact h.below hb0))
  rw [hm] at HK
  have HC := Lib.hid (cells_new6 w vc vj vd (.int .u32 m.zero) (.int .u32 m.stack) vn 28)
  have HB0 := Lib.hid (show Below w.heap.size w W0 from by rw [hW0]; exact hb0)
  have hs0 : w.heap.size < W0.heap.size := by rw [hW0]; simp
  obtain ⟨ac, cc, rfl, -⟩ := h.c.1
  obtain ⟨aj, cj, rfl, -⟩ := h.j.1
  obtain ⟨ad, cd, rfl, -, -, hdm, -, -⟩ := h.d.1
  obtain ⟨an, cn, rfl, -⟩ := h.n.1
  have hz := h.z
  have hst := h.s
  have hdl : m.data.length ≤ 9223372036854775807 := by unfold roomN at hr; omega
  have Hr := Lib.hid hr
  have HR := Lib.hid (fun W => room_any m.data.length m.zero m.stack hdl hz hst W)
  have Hrn := Lib.hid (show m.data.length + m.zero + m.stack = roomN m from rfl)
  obtain ⟨r, hrr⟩ : ∃ r, r = bitsI m := ⟨_, rfl⟩
  rw [← hrr]
  have Hrr := Lib.hid (show r = bitsFrom (roomN m) 8 8 from hrr)
  clear h hb0 hr
  go_enter Tryz.func161, Tryz.ntmps161
  go_wp2_with fail
  rw [← hW0]
  refine HK.out.mono ?_
  rintro e w1 ⟨rfl, hb1⟩
  have c2 : w1.cell? ⟨w.heap.size, 2, none⟩ = some (.slice ad m.data.length cd) := (hb1.cell (p := ⟨w.heap.size, 2, none⟩) hs0).trans (by rw [hW0]; exact HC.out.2.2.1)
  have c3 : w1.cell? ⟨w.heap.size, 3, none⟩ = some (.int .u32 m.zero) := (hb1.cell (p := ⟨w.heap.size, 3, none⟩) hs0).trans (by rw [hW0]; exact HC.out.2.2.2.1)
  have c4 : w1.cell? ⟨w.heap.size, 4, none⟩ = some (.int .u32 m.stack) := (hb1.cell (p := ⟨w.heap.size, 4, none⟩) hs0).trans (by rw [hW0]; exact HC.out.2.2.2.2.1)
  have HB1 := Lib.hid (Bel.tr HB0.out hb1)
  rw [Hrn.out] at HR
  clear hb1 hW0 HC HK hrr
  go_wp2_with fail
  have hle : roomN m ≤ 65536 := Hr.out
  generalize roomN m = N at *
  go_loopw [5] (fun k wr => ∃ (j : Nat), k = .int .i64 j ∧ 8 ≤ j ∧ j ≤ 16 ∧ wr.cell? ⟨w.heap.size, 2, none⟩ = some (.slice ad m.data.length cd) ∧ wr.cell? ⟨w.heap.size, 3, none⟩ = some (.int .u32 m.zero) ∧ wr.cell? ⟨w.heap.size, 4, none⟩ = some (.int .u32 m.stack) ∧ Below w.heap.size w wr ∧ bitsFrom N (16 - j) j = r) (fun k _ => 17 - (intOf k).toNat)
  case atStart => exact ⟨8, rfl, by omega, by omega, c2, c3, c4, HB1.out, Hrr.out.symm⟩
  case round =>
    obtain ⟨j, rfl, hj1, hj2, d2, d3, d4, hbw, hbj⟩ := hrel
    have Hbj := Lib.hid hbj
    have Hbw := Lib.hid hbw
    clear hbj c2 c3 c4 hbw
    have hj : j = 8 ∨ j = 9 ∨ j = 10 ∨ j = 11 ∨ j = 12 ∨ j = 13 ∨ j = 14 ∨ j = 15 ∨ j = 16 := by omega
    have HS := Lib.hid (show wr.cell? ⟨w.heap.size, 2, none⟩ = some (.slice ad m.data.length cd) ∧ wr.cell? ⟨w.heap.size, 3, none⟩ = some (.int .u32 m.zero) ∧ wr.cell? ⟨w.heap.size, 4, none⟩ = some (.int .u32 m.stack) from ⟨d2, d3, d4⟩)
    have w8 : IntKind.u64.wrap 256 = 256 := by decide
    have w9 : IntKind.u64.wrap 512 = 512 := by decide
    have w10 : IntKind.u64.wrap 1024 = 1024 := by decide
    have w11 : IntKind.u64.wrap 2048 = 2048 := by decide
    have w12 : IntKind.u64.wrap 4096 = 4096 := by decide
    have w13 : IntKind.u64.wrap 8192 = 8192 := by decide
    have w14 : IntKind.u64.wrap 16384 = 16384 := by decide
    have w15 : IntKind.u64.wrap 32768 = 32768 := by decide
    have w16 : IntKind.u64.wrap 65536 = 65536 := by decide
    have hb := Hbj.out
    obtain ⟨M, hM⟩ : ∃ M : Nat, M = 2 ^ j := ⟨_, rfl⟩
    have HM := Lib.hid hM
    by_cases hlt : 2 ^ j < N
    · have hj16 : j < 16 := by
        by_cases e : j = 16
        · subst e; simp at hlt; omega
        · omega
      have hbn : bitsFrom N (16 - (j + 1)) (j + 1) = r := by
        rw [← hb, show 16 - j = (16 - (j + 1)) + 1 from by omega, bitsFrom, if_pos hlt]
      have Hbn := Lib.hid hbn
      have hN : M < N := by rw [hM]; exact hlt
      have hI : (M : Int) < (N : Int) := by omega
      have hdl : decide ((M : Int) < (N : Int)) = true := decide_eq_true hI
      clear hb hbn hlt hj1 hj2
      rcases hj with rfl | rfl | rfl | rfl | rfl | rfl | rfl | rfl | rfl
      all_goals first
        | omega
        | (simp only [Nat.reducePow] at hM
           subst hM
           go_wp2
           go_region_held3 (fun w' => w'.cell? ⟨w.heap.size, 2, none⟩ = some (.slice ad m.data.length cd) ∧ w'.cell? ⟨w.heap.size, 3, none⟩ = some (.int .u32 m.zero) ∧ w'.cell? ⟨w.heap.size, 4, none⟩ = some (.int .u32 m.stack))
             (first | exact HS.out | assumption) ((go_at_call 203; refine (HR.out _).mono ?_; rintro e w' ⟨rfl, rfl⟩))
           go_wp2
           go_roundw
           case rel => exact ⟨_, by go_num, by omega, by omega, d2, d3, d4, Hbw.out.drew, Hbn.out⟩
           case measure => simp [intOf])
    · have hbr : r = j := by
        rw [← hb]
        cases hf : 16 - j with
        | zero => rfl
        | succ f => rw [bitsFrom, if_neg hlt]
      have Hbr := Lib.hid hbr
      have hN : ¬ M < N := by rw [hM]; exact hlt
      have hI : ¬ (M : Int) < (N : Int) := by omega
      have hdl : decide ((M : Int) < (N : Int)) = false := decide_eq_false hI
      clear hb hbr hlt hj1 hj2
      rcases hj with rfl | rfl | rfl | rfl | rfl | rfl | rfl | rfl | rfl
      all_goals
        simp only [Nat.reducePow] at hM
        subst hM
        go_wp2
        go_region_held3 (fun w' => w'.cell? ⟨w.heap.size, 2, none⟩ = some (.slice ad m.data.length cd) ∧ w'.cell? ⟨w.heap.size, 3, none⟩ = some (.int .u32 m.zero) ∧ w'.cell? ⟨w.heap.size, 4, none⟩ = some (.int .u32 m.stack))
          (first | exact HS.out | assumption) ((go_at_call 203; refine (HR.out _).mono ?_; rintro e w' ⟨rfl, rfl⟩))
        go_wp2
        go_ret2
        exact ⟨by rw [Hbr.out]; rfl, Hbw.out.drew⟩
end Go.Proofs.YtgpicmiaanapkaaGreat
/- The depths of a code: plain. -/
namespace Go.Proofs.YtgpicmiaanapkaaGreat
set_option linter.unusedVariables false
/-- What comes next is given its depth, or has it. -/
def markN (n : Int) : List Nat → List Int → List Nat → Option (List Int × List Nat)
  | [], D, P => some (D, P)
  | t :: ts, D, P => if 0 ≤ D.getD t (-1) ∧ D.getD t (-1) ≠ n then none else if D.getD t (-1) < 0 then markN n ts (D.set t n) (t :: P) else markN n ts D P
/-- The least that waits. -/
def minN : List Nat → Nat
  | [] => 0
  | [x] => x
  | x :: y :: l => min x (minN (y :: l))
def neg (D : List Int) : Nat := (D.filter (· < 0)).length
/-- The fault of an instruction at a depth, 0 for none. -/
def depFault (o : Nat) (d : Int) : Nat :=
  if d < takesOf o then 140 else if 64 < d - takesOf o + givesOf o then 141 else if kindOf o = 7 ∧ d ≠ 1 then 143 else 0
/-- The walk from what waits on: the depths, the most, where it ended and the error. -/
def walkN (code : List (Nat × Nat)) (js : List Nat) : Nat → List Int → List Nat → Int → List Int × Int × Nat × Nat
  | 0, D, _, m => (D, m, 0, 0)
  | f + 1, D, P, m =>
    if P = [] then (D, m, 0, 0) else
    if depFault (opAt code (minN P)) (D.getD (minN P) (-1)) ≠ 0 then (D, 0, minN P, depFault (opAt code (minN P)) (D.getD (minN P) (-1))) else
    match markN (D.getD (minN P) (-1) - takesOf (opAt code (minN P)) + givesOf (opAt code (minN P))) (nextN code js (minN P)) D (P.erase (minN P)) with
    | none => (D, 0, minN P, 142)
    | some (D', P') => walkN code js f D' P' (max (max m (D.getD (minN P) (-1))) (D.getD (minN P) (-1) - takesOf (opAt code (minN P)) + givesOf (opAt code (minN P))))
theorem minN_mem : ∀ {l : List Nat}, l ≠ [] → minN l ∈ l
  | [], h => absurd rfl h
  | [x], _ => by simp [minN]
  | x :: y :: l, _ => by
    have := minN_mem (l := y :: l) (by simp)
    unfold minN
    rcases Nat.le_total x (minN (y :: l)) with h | h
    · rw [Nat.min_eq_left h]; simp
    · rw [Nat.min_eq_right h]; exact List.mem_cons_of_mem _ this
theorem minN_le : ∀ {l : List Nat} {x : Nat}, x ∈ l → minN l ≤ x
  | [], _, h => by cases h
  | [y], x, h => by simp at h; simp [minN, h]
  | y :: z :: l, x, h => by
    unfold minN
    rcases List.mem_cons.1 h with rfl | h
    · exact Nat.min_le_left _ _
    · exact Nat.le_trans (Nat.min_le_right _ _) (minN_le h)
theorem minN_unique {l : List Nat} {x : Nat} (hx : x ∈ l) (h : ∀ y ∈ l, x ≤ y) : minN l = x := by
  have h1 := minN_le hx
  have h2 := h _ (minN_mem (List.ne_nil_of_mem hx))
  omega
theorem minN_perm {l l' : List Nat} (h : l.Perm l') : minN l = minN l' := by
  by_cases hl : l' = []
  · subst hl; rw [h.eq_nil]
  · exact minN_unique (h.mem_iff.2 (minN_mem hl)) (fun y hy => minN_le (h.mem_iff.1 hy))
theorem markN_perm (n : Int) (ts : List Nat) : ∀ (D : List Int) {P P' : List Nat}, P.Perm P' → (markN n ts D P = none ∧ markN n ts D P' = none) ∨ ∃ D' Q Q', markN n ts D P = some (D', Q) ∧ markN n ts D P' = some (D', Q') ∧ Q.Perm Q' := by
  induction ts with
  | nil => intro D P P' h; exact .inr ⟨D, P, P', rfl, rfl, h⟩
  | cons t ts ih =>
    intro D P P' h
    unfold markN
    by_cases h1 : 0 ≤ D.getD t (-1) ∧ D.getD t (-1) ≠ n
    · rw [if_pos h1, if_pos h1]; exact .inl ⟨rfl, rfl⟩
    · rw [if_neg h1, if_neg h1]
      by_cases h2 : D.getD t (-1) < 0
      · rw [if_pos h2, if_pos h2]; exact ih _ (h.cons t)
      · rw [if_neg h2, if_neg h2]; exact ih _ h
/-- The walk asks nothing of the order in which they wait. -/
theorem walkN_perm (code : List (Nat × Nat)) (js : List Nat) (f : Nat) : ∀ (D : List Int) {P P' : List Nat} (m : Int), P.Perm P' → walkN code js f D P m = walkN code js f D P' m := by
  induction f with
  | zero => intro D P P' m h; rfl
  | succ f ih =>
    intro D P P' m h
    unfold walkN
    have hm := minN_perm h
    by_cases hp : P = []
    · subst hp
      rw [h.symm.eq_nil]
    · have hp' : P' ≠ [] := fun e => hp (by rw [e] at h; exact h.eq_nil)
      rw [if_neg hp, if_neg hp', hm]
      by_cases hf : depFault (opAt code (minN P')) (D.getD (minN P') (-1)) ≠ 0
      · rw [if_pos hf, if_pos hf]
      · rw [if_neg hf, if_neg hf]
        rcases markN_perm (D.getD (minN P') (-1) - takesOf (opAt code (minN P')) + givesOf (opAt code (minN P'))) (nextN code js (minN P')) D (h.erase (minN P')) with ⟨h1, h2⟩ | ⟨D', Q, Q', h1, h2, h3⟩
        · rw [h1, h2]
        · rw [h1, h2]; exact ih _ _ h3
end Go.Proofs.YtgpicmiaanapkaaGreat
/- What the walk of the depths needs. -/
namespace Go.Proofs.YtgpicmiaanapkaaGreat
open Go.RowKit
set_option linter.unusedVariables false
def encZ (D : List Int) : List Value := D.map fun x => .int .i64 x
theorem encZ_length (D : List Int) : (encZ D).length = D.length := by simp [encZ]
theorem encZ_set (D : List Int) (t : Nat) (x : Int) : (encZ D).set t (.int .i64 x) = encZ (D.set t x) := by simp [encZ, List.map_set]
theorem own_int {W : World} {B g c : Nat} {D : List Int} {n : Nat} (h : W.ownsRow B 3 1 (.slice (some ⟨g, 0, none⟩) n c) n (encZ D)) {t : Nat} (ht : t < n) : W.cell? ⟨g, t, none⟩ = some (.int .i64 (D.getD t (-1))) := by
  have hl : n = D.length := by have := h.1; rw [encZ_length] at this; omega
  rw [h.cellAt t (by omega)]
  subst hl
  simp [encZ, List.getElem?_map, List.getElem?_eq_getElem ht, List.getD]
theorem own_ilen {W : World} {B : Nat} {v : Value} {D : List Int} {n : Nat} (h : W.ownsRow B 3 1 v n (encZ D)) : D.length = n := by
  have := h.1; rw [encZ_length] at this; omega
def negV : Value → Bool
  | .int .i64 x => decide (x < 0)
  | _ => false
theorem negV_enc (D : List Int) : ((encZ D).filter negV).length = neg D := by
  unfold neg encZ
  induction D with
  | nil => rfl
  | cons x D ih =>
    simp only [List.map_cons, List.filter_cons, negV]
    by_cases h : x < 0
    · simp [h, ih]
    · simp [h, ih]
/-- How much is left to do: what waits, and what has no depth. -/
def musl (W : World) (p g n : Nat) : Nat :=
  (match W.cell? ⟨p, 0, none⟩ with | some (.slice _ k _) => k | _ => 0) + (match W.heap[g]? with | some (.cells cs _ _) => ((cs.toList.take n).filter negV).length | _ => 0)
theorem musl_at {W : World} {B B' p g c n : Nat} {v : Value} {l : List Nat} {D : List Int} (h : HpAt W B p v l) (hD : W.ownsRow B' 3 1 (.slice (some ⟨g, 0, none⟩) n c) n (encZ D)) : musl W p g n = l.length + neg D := by
  unfold musl
  obtain ⟨a, c', hv, -⟩ := own_sl h.o
  rw [h.c, hv]
  rcases hD.2 with ⟨hv', _⟩ | ⟨g', c'', cur, hv', -, hg, -, -, -, ht⟩
  · cases hv'
  · cases hv'
    rw [hg]
    rw [Nat.mul_one] at ht
    simp only [ht, negV_enc]
theorem HpAt.below {W W' : World} {B p : Nat} {v : Value} {l : List Nat} (h : HpAt W B p v l) (hb : Below W.heap.size W W') : HpAt W' B p v l := by
  have hl := World.block_lt_of_cell? _ _ h.c
  exact ⟨(hb.cell (p := ⟨p, 0, none⟩) hl).trans h.c, (hb.frozen (p := ⟨p, 0, none⟩) hl).trans h.f, own_below h.o hb, h.ne, h.hp⟩
theorem HpAt.setOther {W : World} {B p : Nat} {v : Value} {l : List Nat} (h : HpAt W B p v l) (g t : Nat) (hg : g < B) (u : Value) : HpAt (W.setCell ⟨g, t, none⟩ u) B p v l := by
  have hp := h.hp
  have hne : ¬ (⟨g, t, none⟩ : Addr).block = p := fun e => by simp at e; omega
  refine ⟨?_, by rw [World.frozen?_setCell]; exact h.f, ownsRow_setCell_other h.o (a := ⟨g, t, none⟩) (fun e => ?_) _, h.ne, h.hp⟩
  · have : (W.setCell ⟨g, t, none⟩ u).heap[p]? = W.heap[p]? := Below.heap_setCell _ _ _ _ (fun e => hne e.symm)
    exact (World.cell?_of_block (a := ⟨p, 0, none⟩) this).trans h.c
  · have := h.o.lt _ e
    simp at this; omega
theorem HpTo.own {W W' : World} {p B B' e sz g n c : Nat} {v v' : Value} {l : List Nat} {xs : List Value} (ht : HpTo W W' p v v') (h : HpAt W B p v l) (hD : W.ownsRow B' e sz (.slice (some ⟨g, 0, none⟩) n c) n xs) (hg : g < B) : W'.ownsRow B' e sz (.slice (some ⟨g, 0, none⟩) n c) n xs := by
  refine ⟨hD.1, ?_⟩
  rcases hD.2 with hn | ⟨g', cap, cur, hv, hb, hgg, rest⟩
  · exact .inl hn
  · refine .inr ⟨g', cap, cur, hv, hb, ?_, rest⟩
    cases hv
    have hlt : g < W.heap.size := (hD.lt g rfl).2
    rw [ht.block g hlt (by have := h.hp; omega) (fun e => by have := h.o.lt _ e; omega)]
    exact hgg
theorem HpTo.cell {W W' : World} {p B q : Nat} {v v' : Value} {l : List Nat} (ht : HpTo W W' p v v') (hq : q < W.heap.size) (hp : q ≠ p) (hv : v.ownBlock ≠ some q) (t : Nat) : W'.cell? ⟨q, t, none⟩ = W.cell? ⟨q, t, none⟩ :=
  World.cell?_of_block (a := ⟨q, t, none⟩) (ht.block q hq hp hv)
/-- Depths in their range. -/
def Deps (D : List Int) : Prop := ∀ t, -1 ≤ D.getD t (-1) ∧ D.getD t (-1) ≤ 64
theorem getD_setZ (D : List Int) (t k : Nat) (x : Int) : (D.set t x).getD k (-1) = if k = t ∧ t < D.length then x else D.getD k (-1) := by
  rw [List.getD_eq_getElem?_getD, List.getD_eq_getElem?_getD, List.getElem?_set]
  by_cases h : t = k
  · subst h
    by_cases hl : t < D.length
    · simp [hl]
    · simp [hl]
  · rw [if_neg h, if_neg (fun e => h e.1.symm)]
theorem Deps.set {D : List Int} (h : Deps D) (t : Nat) {x : Int} (h0 : -1 ≤ x) (h1 : x ≤ 64) : Deps (D.set t x) := by
  intro k
  rw [getD_setZ]
  split
  · exact ⟨h0, h1⟩
  · exact h k
theorem neg_set {D : List Int} {t : Nat} {x : Int} (ht : t < D.length) (h : D.getD t (-1) < 0) (hx : 0 ≤ x) : neg (D.set t x) + 1 = neg D := by
  induction D generalizing t with
  | nil => simp at ht
  | cons y D ih =>
    cases t with
    | zero =>
      have hy : y < 0 := by simpa [List.getD] using h
      have hx' : ¬ x < 0 := by omega
      simp [neg, hy, hx']
    | succ t =>
      have := ih (t := t) (by simpa using ht) (by simpa [List.getD] using h)
      unfold neg at this ⊢
      simp only [List.set_cons_succ, List.filter_cons]
      split <;> first | (simp only [List.length_cons]; omega) | omega
theorem neg_le (D : List Int) : neg D ≤ D.length := List.length_filter_le _ _
theorem neg_set_le (D : List Int) (t : Nat) {x : Int} (hx : 0 ≤ x) : neg (D.set t x) ≤ neg D := by
  by_cases ht : t < D.length
  · by_cases h : D.getD t (-1) < 0
    · have := neg_set ht h hx; omega
    · induction D generalizing t with
      | nil => simp at ht
      | cons y D ih =>
        cases t with
        | zero =>
          have hy : ¬ y < 0 := by simpa [List.getD] using h
          have hx' : ¬ x < 0 := by omega
          simp [neg, hy, hx']
        | succ t =>
          have := ih t (by simpa using ht) (by simpa [List.getD] using h)
          unfold neg at this ⊢
          simp only [List.set_cons_succ, List.filter_cons]
          split <;> first | (simp only [List.length_cons]; omega) | omega
  · rw [List.set_eq_of_length_le (by omega)]; exact Nat.le_refl _
theorem takes_le (o : Nat) : takesOf o ≤ 64 ∧ givesOf o ≤ 64 := by
  by_cases h : o < 60
  · have : ∀ o < 60, takesOf o ≤ 64 ∧ givesOf o ≤ 64 := by decide +kernel
    exact this o h
  · have : rowOf o = ([], 0, 0, 0, 0, 0) := by
      unfold rowOf; rw [List.getD_eq_getElem?_getD, List.getElem?_eq_none (by show 60 ≤ o; omega)]; rfl
    unfold takesOf givesOf; rw [this]; decide
theorem grown_belowB {w w' : World} {B g : Nat} (hg : w.grownBy w' (some g)) (hB : B ≤ w.heap.size) (hgB : B ≤ g) : Below B w w' :=
  ⟨hg.os, hg.tape, hg.output, hg.size, fun k hk => hg.block k (by omega) (fun e => by cases e; omega)⟩
theorem cell_al {W : World} {a : Addr} {v : Value} (h : W.cell? a = some v) (o : Obj) : (W.alloc o).cell? a = some v := by
  have hl := World.block_lt_of_cell? _ _ h
  exact (World.cell?_of_block (Below.heap_alloc _ _ _ hl)).trans h
end Go.Proofs.YtgpicmiaanapkaaGreat
/- max of three. -/
namespace Go.Proofs.YtgpicmiaanapkaaGreat
open Go.RowKit
set_option linter.unusedVariables false
/-- The greatest of three, which the walk leaves standing. -/
def mx3 (x y z : Int) : Int := max (max x y) z
theorem run_mx3 (P : Program) (ts : Array TypeId) (t : TypeId) (x y z : Int) (w : World) : (Builtin.max_ ts t #[.int .i64 x, .int .i64 y, .int .i64 z]).run P w = .ok (.int .i64 (mx3 x y z)) w := by
  have h2 := fun (a b : Int) => run_max_int2 (P := P) w ts t .i64 .i64 a b
  have e : (Builtin.max_ ts t #[.int .i64 x, .int .i64 y, .int .i64 z]) = (do let u ← Builtin.max_ ts t #[.int .i64 x, .int .i64 y]; Builtin.max_ ts t #[u, .int .i64 z]) := by
    simp [Builtin.max_]
  rw [e, Sem.run_bind, h2]
  simp only [Result.andThen_ok, h2]
  congr 2
  unfold mx3
  split <;> split <;> omega
theorem wpList_max3 {P : Program} {w : World} {ops : Array Oper} {rest : List Oper} {o : Oper} {a : Act} {Q : Exit → Act → World → Prop} (hgd : o.guard = none) (p q r : Operand) (ts : Array TypeId)
    (ho : o.op = .call { callee := .builtin .max, args := #[p, q, r], argTypes := ts }) (x y z : Int) (hp : a.eval p = .int .i64 x) (hq : a.eval q = .int .i64 y) (hr : a.eval r = .int .i64 z)
    (h : wpList P ops Q rest (a.put o.dst (.int .i64 (mx3 x y z))) w) : wpList P ops Q (o :: rest) a w := by
  refine wpList_plain hgd fun K hK => ?_
  have hrun := run_mx3 P ts o.type x y z w
  unfold Oper.wp
  simp only [execOp, ho, resolve, invoke, builtin, Sem.run_bind, Sem.run_pure, Result.andThen_ok, List.map_toArray, List.map_cons, List.map_nil, hp, hq, hr, hrun]
  exact hK _ _ h
end Go.Proofs.YtgpicmiaanapkaaGreat
