import Derived.Test.YtflpbgdghaaiaaaGreatS4
import Derived.Test.YtflpbgdghaaiaaaGreatS2
import Derived.Test.YtflpbgdghaaiaaaGreatS3
import Derived.Test.YtflpbgdghaaiaaaGreatS1
import Derived.Deep.RegionHeld3
namespace Go.Proofs.YtflpbgdghaaiaaaGreat
open Go.RowKit
set_option linter.unusedVariables false
set_option maxRecDepth 100000 in
set_option maxHeartbeats 2000000 in
theorem whereof_any {w : World} {B b : Nat} {vp vo vt vm : Value} {ps : List (Nat × Nat × Nat)} {ofs : List Nat} {us : List Value} {ts : List (List Nat)} {ms : List Int} (h : PAt w B b vp vo vt ps ofs us ts)
    (hv : w.ownsRow 0 3 1 vm ms.length (encZ ms)) (hof : ∀ x, x < ofs.length → ofs.getD x 0 < ps.length) (hml : ms.length = ps.length) (x : Nat) (hx : x < 4294967296) :
    Calls Tryz.prog 50 #[.agg #[.pointer (some ⟨b, 0, none⟩), vm], .int .u32 x] w fun e w' =>
      e = .returned (.tuple #[prcV (if x < ofs.length then ps.getD (ofs.getD x 0) (0, 0, 0) else (0, 0, 0)) (if x < ofs.length then ms.getD (ofs.getD x 0) 0 else 0), .bool (decide (x < ofs.length))]) ∧ Below w.heap.size w w' := by
  have hz39 := zero39
  have hb39 := run_build39
  have Hml := Lib.hid hml
  clear hml
  obtain ⟨am, nm, rfl, hnc, hcm, hp⟩ := own_sl hv
  obtain ⟨Wa, hWa⟩ : ∃ Wa, Wa = (w.alloc (.cells #[.pointer (some ⟨b, 0, none⟩), .slice am ms.length nm] 95)).alloc (.cells #[.int .u32 0, .int .u32 0, .int .u32 0, .int .i64 0] 71) := ⟨_, rfl⟩
  have hba : Below w.heap.size w Wa := by rw [hWa]; exact Bel.al (Bel.new _ _) _
  have hs0 : Wa.heap.size = w.heap.size + 2 := by rw [hWa]; simp
  have HO := Lib.hid (of_any (h.below hba) x hx)
  unfold ofN at HO
  have b0 : Wa.cell? ⟨w.heap.size, 0, none⟩ = some (.pointer (some ⟨b, 0, none⟩)) := by rw [hWa]; simp [go_sem]
  have b1 : Wa.cell? ⟨w.heap.size, 1, none⟩ = some (.slice am ms.length nm) := by rw [hWa]; simp [go_sem]
  have hh0 : Wa.heap[w.heap.size + 1]? = some (.cells #[.int .u32 0, .int .u32 0, .int .u32 0, .int .i64 0] 71) := by
    rw [hWa]
    have := heap_alloc_new (w.alloc (.cells #[.pointer (some ⟨b, 0, none⟩), .slice am ms.length nm] 95)) (.cells #[.int .u32 0, .int .u32 0, .int .u32 0, .int .i64 0] 71)
    simpa using this
  have HH0 := Lib.hid hh0
  have HBa := Lib.hid hba
  by_cases hlt : x < ofs.length
  · have HP := Lib.hid (whereproc_any (h.below hba) (own_below hv hba) (ofs.getD x 0) (hof x hlt) (by rw [Hml.out]; exact hof x hlt))
    rw [if_pos hlt] at HO
    rw [if_pos hlt, if_pos hlt, decide_eq_true hlt]
    have hz0 : (0 : Int) ≤ ((ofs.getD x 0 : Nat) : Int) := by omega
    have hzd : ¬ (((ofs.getD x 0 : Nat) : Int) < 0) := by omega
    generalize ofs.getD x 0 = k at *
    unfold prcV at HP ⊢
    generalize ps.getD k (0, 0, 0) = p at *
    obtain ⟨p0, p1, p2⟩ := p
    generalize ms.getD k 0 = q at *
    clear h hv hp hh0 hba hlt
    go_enter Tryz.func50, Tryz.ntmps50
    go_wp2_with fail
    rw [← hWa]; clear hWa
    refine HO.out.mono ?_
    rintro e w1 ⟨rfl, rfl⟩
    go_wp2_with fail
    refine HP.out.mono ?_
    rintro e w1 ⟨rfl, hb1⟩
    have HH1 := Lib.hid ((hb1.block (w.heap.size + 1) (by omega)).trans HH0.out)
    have HB1 := Lib.hid (Bel.tr HBa.out hb1)
    have hsz := size259 (.int .u32 p0) (.int .u32 p1) (.int .u32 p2) (.int .i64 q)
    clear hb1 b1 HP HO
    go_wp2_with (((with_reducible refine wpList_store_row (o := ⟨none, .store 71 (.tmp 4) (.tmp 16), _, _, _, none⟩) rfl 71 _ _ rfl (w.heap.size + 1) #[.int .u32 p0, .int .u32 p1, .int .u32 p2, .int .i64 q] ?_ ?_ 71 _ HH1.out ?_ ?_ ?_ ?_); rfl; rfl; exact hsz; rfl; (simp [Value.oneCell'])))
    refine bodyPost_ret (v := .tuple #[.agg #[.int .u32 p0, .int .u32 p1, .int .u32 p2, .int .i64 q], .bool true]) (results_cell_tmp Tryz.results50 _ _ (w.heap.size + 1) 71 _ (0, 0) _ rfl (setRow_heap _ _ _ _ _ _ HH1.out) Tryz.underlying71 rfl hsz _ rfl) rfl ⟨rfl, ?_⟩
    exact below_setRow HB1.out _ (by omega) _
  · rw [if_neg hlt] at HO
    rw [if_neg hlt, if_neg hlt, decide_eq_false hlt]
    unfold prcV
    clear h hv hp hh0 hba hlt
    go_enter Tryz.func50, Tryz.ntmps50
    go_wp2_with fail
    rw [← hWa]; clear hWa
    refine HO.out.mono ?_
    rintro e w1 ⟨rfl, rfl⟩
    have hsz := size259 (.int .u32 0) (.int .u32 0) (.int .u32 0) (.int .i64 0)
    clear b1 HO
    go_wp2_with (((with_reducible refine wpList_store_row (o := ⟨none, .store 71 (.tmp 4) (.tmp 13), _, _, _, none⟩) rfl 71 _ _ rfl (w.heap.size + 1) #[.int .u32 0, .int .u32 0, .int .u32 0, .int .i64 0] ?_ ?_ 71 _ HH0.out ?_ ?_ ?_ ?_); rfl; rfl; exact hsz; rfl; (simp [Value.oneCell'])))
    refine bodyPost_ret (v := .tuple #[.agg #[.int .u32 0, .int .u32 0, .int .u32 0, .int .i64 0], .bool false]) (results_cell_tmp Tryz.results50 _ _ (w.heap.size + 1) 71 _ (0, 0) _ rfl (setRow_heap _ _ _ _ _ _ HH0.out) Tryz.underlying71 rfl hsz _ rfl) rfl ⟨rfl, ?_⟩
    exact below_setRow HBa.out _ (by omega) _
theorem prc_eq {m : Img} (hk : TakeOk m) (x : Nat) : (ofTo m.code m.code.length).length = m.code.length ∧ (flowN m.code m.js).2.1.length = (psTo m.code m.code.length).length ∧ ∀ y, y < (ofTo m.code m.code.length).length → (ofTo m.code m.code.length).getD y 0 < (psTo m.code m.code.length).length := by
  have hf := findOk_nil hk.f
  refine ⟨hf.tl.ol, (flowN_spec hf hk.r).ml, fun y hy => hf.tl.lt y (by rw [← hf.tl.ol]; exact hy)⟩
set_option maxRecDepth 100000 in
set_option maxHeartbeats 2000000 in
theorem procOf_any (mb : Nat) (m : Img) (B : Nat) (w : World) (hk : TakeOk m) (h : ModAt w B mb m) (x : Nat) (hx : x < 4294967296) :
    Calls Tryz.prog 26 #[.pointer (some ⟨mb, 0, none⟩), .int .u32 x] w fun e w' => e = .returned (.tuple #[prcV (prcN m x) (needN m x), .bool (decide (x < m.code.length))]) ∧ Below w.heap.size w w' := by
  have hz39 := zero39
  obtain ⟨Wa, hWa⟩ : ∃ Wa, Wa = w.alloc (.cells #[.int .u32 0, .int .u32 0, .int .u32 0, .int .i64 0] 71) := ⟨_, rfl⟩
  have hba : Below w.heap.size w Wa := by rw [hWa]; exact Bel.new _ _
  have hs0 : Wa.heap.size = w.heap.size + 1 := by rw [hWa]; simp
  obtain ⟨h0, tb, b, vm, uc, vd, uj, ud, un, hm, ht, ⟨c0, c1, c2, c3, c4, c5, c6, c7, c8, c9, c10, c11⟩, hi, ⟨B', hB, hf⟩, hd, hv⟩ := h.below hba
  have HA := Lib.hid (all_mod mb tb Wa hm)
  obtain ⟨vp, vo, vt, us, hA⟩ := hf
  obtain ⟨e1, e2, e3⟩ := prc_eq hk x
  have HP := Lib.hid (whereof_any hA (own_downT hv (Nat.zero_le _)) e3 e2 x hx)
  rw [e1] at HP
  have hh0 : Wa.heap[w.heap.size]? = some (.cells #[.int .u32 0, .int .u32 0, .int .u32 0, .int .i64 0] 71) := by rw [hWa]; exact heap_alloc_new _ _
  have HH0 := Lib.hid hh0
  have HBa := Lib.hid hba
  obtain ⟨am, nm, rfl, -⟩ := own_sl hv
  obtain ⟨p, hp⟩ : ∃ p, p = prcN m x := ⟨_, rfl⟩
  obtain ⟨q, hq⟩ : ∃ q, q = needN m x := ⟨_, rfl⟩
  rw [← hp, ← hq]
  unfold prcN at hp
  unfold needN at hq
  rw [← hp, ← hq] at HP
  unfold prcV at HP ⊢
  obtain ⟨p0, p1, p2⟩ := p
  simp only at HP
  generalize decide (x < m.code.length) = bb at *
  clear hi hd hv hA hp hq hh0 hba e1 e2 e3 h
  go_enter Tryz.func26, Tryz.ntmps26
  go_wp2_with fail
  rw [← hWa]; clear hWa
  refine HA.out.mono ?_
  rintro e w1 ⟨rfl, rfl⟩
  go_wp2_with fail
  refine HP.out.mono ?_
  rintro e w1 ⟨rfl, hb1⟩
  have HH1 := Lib.hid ((hb1.block w.heap.size (by omega)).trans HH0.out)
  have HB1 := Lib.hid (Bel.tr HBa.out hb1)
  have hsz := size259 (.int .u32 p0) (.int .u32 p1) (.int .u32 p2) (.int .i64 q)
  clear hb1 HP HA c0 c1 c2 c3 c4 c5 c6 c7 c8 c9 c10 c11
  go_wp2_with (((with_reducible refine wpList_store_row (o := ⟨none, .store 71 (.tmp 4) (.tmp 13), _, _, _, none⟩) rfl 71 _ _ rfl w.heap.size #[.int .u32 p0, .int .u32 p1, .int .u32 p2, .int .i64 q] ?_ ?_ 71 _ HH1.out ?_ ?_ ?_ ?_); rfl; rfl; exact hsz; rfl; (simp [Value.oneCell'])))
  refine bodyPost_ret (v := .tuple #[.agg #[.int .u32 p0, .int .u32 p1, .int .u32 p2, .int .i64 q], .bool bb]) (results_cell_tmp Tryz.results26 _ _ w.heap.size 71 _ (0, 0) _ rfl (setRow_heap _ _ _ _ _ _ HH1.out) Tryz.underlying71 rfl hsz _ rfl) rfl ⟨rfl, ?_⟩
  exact below_setRow HB1.out _ (Nat.le_refl _) _
theorem none_any (mb : Nat) (m : Img) (B : Nat) (w : World) (hk : TakeOk m) (h : ModAt w B mb m) :
    Calls Tryz.prog 20 #[.pointer (some ⟨mb, 0, none⟩)] w fun e w' => e = .returned (.bool false) ∧ w = w' := by
  have HB := Lib.hid (bitsOf_any mb m B w h)
  have hb8 := (moOk hk).k8
  have hne : ((bitsI m : Int) == 0) = false := by
    have : 8 ≤ bitsI m := hb8
    simp; omega
  clear hb8
  generalize bitsI m = k at *
  clear h
  go_enter Tryz.func20, Tryz.ntmps20
  go_wp2_with fail
  refine HB.out.mono ?_
  rintro e w1 ⟨rfl, rfl⟩
  go_wp2_with fail
  go_ret
  exact ⟨rfl, rfl⟩
theorem pow_cases {k : Nat} (h1 : 8 ≤ k) (h2 : k ≤ 16) : k = 8 ∨ k = 9 ∨ k = 10 ∨ k = 11 ∨ k = 12 ∨ k = 13 ∨ k = 14 ∨ k = 15 ∨ k = 16 := by omega
theorem top_any (mb : Nat) (m : Img) (B : Nat) (w : World) (hk : TakeOk m) (h : ModAt w B mb m) :
    Calls Tryz.prog 23 #[.pointer (some ⟨mb, 0, none⟩)] w fun e w' => e = .returned (.int .u32 ((moOf m).top : Nat)) ∧ w = w' := by
  have HB := Lib.hid (bitsOf_any mb m B w h)
  have hb8 : 8 ≤ bitsI m := (moOk hk).k8
  have hb16 : bitsI m ≤ 16 := (moOk hk).k16
  have htop : (moOf m).top = 2 ^ bitsI m - 64 := rfl
  rw [htop]
  generalize bitsI m = k at *
  clear h htop
  rcases pow_cases hb8 hb16 with rfl | rfl | rfl | rfl | rfl | rfl | rfl | rfl | rfl
  all_goals
    clear hb8 hb16
    go_enter Tryz.func23, Tryz.ntmps23
    go_wp2_with fail
    refine HB.out.mono ?_
    rintro e w1 ⟨rfl, rfl⟩
    go_wp2_with fail
    go_ret
    exact ⟨rfl, rfl⟩
open Go.ChangeShapes Go.WideShapes Go.ChangeAt Go.RowKit Go.Joins Go.Deep
def stV (vo vd : Value) (s : St) : Value := .agg #[.int .u8 s.life, .int .u32 s.pc, .int .u32 s.sp, vo, vd, .int .u32 s.value, .int .u8 s.fault]
structure StAt (w : World) (vo vd : Value) (s : St) : Prop where
  o : Words w vo s.ops
  d : Bytes w vd s.data
  sm : s.Small
theorem StAt.below {w w' : World} {vo vd : Value} {s : St} (h : StAt w vo vd s) (hb : Below w.heap.size w w') : StAt w' vo vd s := ⟨h.o.below hb, h.d.below hb, h.sm⟩
section
variable {H : Type} {enc : TypeId × Value → H} {w : World} {base : Nat}
theorem ocells51 : Tryz.prog.cellsOf 32 = 7 := by kernel_rfl
theorem ocells104 : Tryz.prog.cellsOf 53 = 2 := by kernel_rfl
theorem getD_all {l : List Nat} {m : Nat} (h : ∀ k, l.getD k 0 < m) : ∀ x ∈ l, x < m := by
  intro x hx
  obtain ⟨k, hk, rfl⟩ := List.mem_iff_getElem.1 hx
  have := h k
  rwa [getD_get l 0 hk] at this
structure St.Sized (s : St) : Prop where
  o : s.ops.length * 4 ≤ 140737488351232
  d : s.data.length * 1 ≤ 140737488351232
set_option maxRecDepth 100000 in
theorem open_state {r : Reach} {b0 : Nat} {v : Value} {d : DataW H} {p : List MemPlace} (hv : Value.okWide Tryz.prog w r b0 32 v) (h : DataW.Trod enc Tryz.prog w base (fun _ => true) true 32 v d p)
    (hsz : ∀ parts, d = .agg parts → (DataW.weightsEach Tryz.prog [29, 25, 25, 23, 24, 25, 30] parts).all (· ≤ reachBytes) = true) :
    ∃ (vo vd : Value) (s : St), v = stV vo vd s ∧ StAt w vo vd s ∧ s.Sized := by
  obtain ⟨cs, ys, n, rfl, hcs, hd, hyl, hf⟩ := open_aggN Tryz.underlying32 (by kernel_rfl) ocells51 hv h
  obtain ⟨u0, y0, c0, e0, t0⟩ := hf 0 _ rfl
  obtain ⟨u1, y1, c1, e1, t1⟩ := hf 1 _ rfl
  obtain ⟨u2, y2, c2, e2, t2⟩ := hf 2 _ rfl
  obtain ⟨u3, y3, c3, e3, t3⟩ := hf 3 _ rfl
  obtain ⟨u4, y4, c4, e4, t4⟩ := hf 4 _ rfl
  obtain ⟨u5, y5, c5, e5, t5⟩ := hf 5 _ rfl
  obtain ⟨u6, y6, c6, e6, t6⟩ := hf 6 _ rfl
  have hs := hsz _ hd
  have at_ : ∀ (j : Nat) (y : DataW H × List MemPlace), ys[j]? = some y → (ys.map (·.1))[j]? = some y.1 := fun j y e => by rw [List.getElem?_map, e]; rfl
  obtain ⟨ops, ho, lo⟩ := open_words2 t3 (fun els sp e => by
    have := sized_slice hs (j := 3) (t := 23) (e := 25) rfl (by rw [at_ 3 _ e3, e]) Tryz.underlying23
    rwa [show Tryz.prog.bytesOf 25 = 4 from by kernel_rfl] at this)
  obtain ⟨data, hdt, ld⟩ := open_bytes2 t4 (fun els sp e => by
    have := sized_slice hs (j := 4) (t := 24) (e := 5) rfl (by rw [at_ 4 _ e4, e]) Tryz.underlying24
    rwa [show Tryz.prog.bytesOf 5 = 1 from by kernel_rfl] at this)
  obtain ⟨x0, f0, _, w0⟩ := DataW.trod_int Tryz.underlying29 t0
  obtain ⟨x1, f1, _, w1⟩ := DataW.trod_int Tryz.underlying25 t1
  obtain ⟨x2, f2, _, w2⟩ := DataW.trod_int Tryz.underlying25 t2
  obtain ⟨x5, f5, _, w5⟩ := DataW.trod_int Tryz.underlying25 t5
  obtain ⟨x6, f6, _, w6⟩ := DataW.trod_int Tryz.underlying30 t6
  simp at f0 f1 f2 f5 f6
  subst f0 f1 f2 f5 f6
  obtain ⟨k0, rfl, g0⟩ := u8_of w0
  obtain ⟨k1, rfl, g1⟩ := u32_of w1
  obtain ⟨k2, rfl, g2⟩ := u32_of w2
  obtain ⟨k5, rfl, g5⟩ := u32_of w5
  obtain ⟨k6, rfl, g6⟩ := u8_of w6
  refine ⟨u3, u4, ⟨k0, k1, k2, ops, data, k5, k6⟩, ?_, ⟨ho, hdt, ⟨g0, g1, g2, getD_all ho.2, hdt.2, g5, g6⟩⟩, lo, ld⟩
  unfold stV
  congr 1
  have h7 : cs.size = 7 := hcs
  apply Array.ext
  · exact h7
  · intro i h1 h2
    have key : ∀ (k : Nat) (u : Value), cs[k]? = some u → ∀ (hk : k < cs.size), cs[k] = u := fun k u e hk => by rw [Array.getElem?_eq_getElem hk] at e; injection e
    match i, h1 with
    | 0, h1 => exact key 0 _ c0 h1
    | 1, h1 => exact key 1 _ c1 h1
    | 2, h1 => exact key 2 _ c2 h1
    | 3, h1 => exact key 3 _ c3 h1
    | 4, h1 => exact key 4 _ c4 h1
    | 5, h1 => exact key 5 _ c5 h1
    | 6, h1 => exact key 6 _ c6 h1
    | (i + 7), h1 => omega
set_option maxRecDepth 100000 in
theorem open_turn {r : Reach} {b0 : Nat} {v : Value} {d : DataW H} {p : List MemPlace} (hv : Value.okWide Tryz.prog w r b0 53 v) (h : DataW.Trod enc Tryz.prog w base (fun _ => true) true 53 v d p) :
    ∃ (at_ : Int) (by_ : Nat), v = .agg #[.int .i64 at_, .int .u8 by_] ∧ (Lit.int .i64 at_).wf = true ∧ by_ < 256 := by
  obtain ⟨cs, ys, n, rfl, hcs, hd, hyl, hf⟩ := open_aggN Tryz.underlying53 (by kernel_rfl) ocells104 hv h
  obtain ⟨u0, y0, c0, e0, t0⟩ := hf 0 _ rfl
  obtain ⟨u1, y1, c1, e1, t1⟩ := hf 1 _ rfl
  obtain ⟨x0, f0, _, w0⟩ := DataW.trod_int Tryz.underlying3 t0
  obtain ⟨x1, f1, _, w1⟩ := DataW.trod_int Tryz.underlying5 t1
  simp at f0 f1
  subst f0 f1
  obtain ⟨k1, rfl, g1⟩ := u8_of w1
  refine ⟨x0, k1, ?_, w0, g1⟩
  congr 1
  have h7 : cs.size = 2 := hcs
  apply Array.ext
  · exact h7
  · intro i h1 h2
    have key : ∀ (k : Nat) (u : Value), cs[k]? = some u → ∀ (hk : k < cs.size), cs[k] = u := fun k u e hk => by rw [Array.getElem?_eq_getElem hk] at e; injection e
    match i, h1 with
    | 0, h1 => exact key 0 _ c0 h1
    | 1, h1 => exact key 1 _ c1 h1
    | (i + 2), h1 => omega
set_option maxRecDepth 100000 in
theorem open_bytes {r : Reach} {b0 : Nat} {v : Value} {d : DataW H} {p : List MemPlace} (hv : Value.okWide Tryz.prog w r b0 24 v) (h : DataW.Trod enc Tryz.prog w base (fun _ => true) true 24 v d p)
    (hs : ∀ el sp, d = .slice el sp → (el.length + sp.length) * Tryz.prog.bytesOf 5 ≤ reachBytes) :
    ∃ l : List Nat, Bytes w v l ∧ l.length ≤ 140737488351232 := by
  obtain ⟨a0, len0, cap0, rfl⟩ := okWide_slice Tryz.underlying24 hv
  obtain ⟨fuel, hf⟩ := h
  obtain ⟨l, h1, h2⟩ := open_bytes2 (v := .slice a0 len0 cap0) hf (fun els sp e => by
    have := hs els sp e
    rwa [show Tryz.prog.bytesOf 5 = 1 from by kernel_rfl] at this)
  exact ⟨l, h1, by omega⟩
end
theorem markN_bd {n : Int} (h0 : -1 ≤ n) (h1 : n ≤ 64) : ∀ (ts : List Nat) (D : List Int) (P : List Nat) (D' : List Int) (P' : List Nat), Deps D → markN n ts D P = some (D', P') → Deps D'
  | [], D, P, D', P', hD, h => by
    simp only [markN, Option.some.injEq, Prod.mk.injEq] at h
    rw [← h.1]; exact hD
  | t :: ts, D, P, D', P', hD, h => by
    unfold markN at h
    split at h
    · cases h
    · split at h
      · exact markN_bd h0 h1 ts _ _ D' P' (hD.set t h0 h1) h
      · exact markN_bd h0 h1 ts _ _ D' P' hD h
theorem walkN_bd (code : List (Nat × Nat)) (js : List Nat) : ∀ (f : Nat) (D : List Int) (P : List Nat) (m : Int), Deps D → 0 ≤ m → m ≤ 64 →
    Deps (walkN code js f D P m).1 ∧ 0 ≤ (walkN code js f D P m).2.1 ∧ (walkN code js f D P m).2.1 ≤ 64
  | 0, D, P, m, hD, h0, h1 => ⟨hD, h0, h1⟩
  | f + 1, D, P, m, hD, h0, h1 => by
    unfold walkN
    by_cases c1 : P = []
    · rw [if_pos c1]; exact ⟨hD, h0, h1⟩
    rw [if_neg c1]
    by_cases c2 : depFault (opAt code (minN P)) (D.getD (minN P) (-1)) ≠ 0
    · rw [if_pos c2]; exact ⟨hD, Int.le_refl _, show (0 : Int) ≤ 64 by decide⟩
    rw [if_neg c2]
    obtain ⟨f1, f2, -⟩ := depFault_zero (Classical.not_not.1 c2)
    have hd := hD (minN P)
    generalize D.getD (minN P) (-1) = d at *
    have g0 : -1 ≤ d - takesOf (opAt code (minN P)) + givesOf (opAt code (minN P)) := by omega
    generalize hn : d - (takesOf (opAt code (minN P)) : Int) + (givesOf (opAt code (minN P)) : Int) = n at *
    cases hm : markN n (nextN code js (minN P)) D (P.erase (minN P)) with
    | none => exact ⟨hD, Int.le_refl _, show (0 : Int) ≤ 64 by decide⟩
    | some r =>
      obtain ⟨D', P'⟩ := r
      exact walkN_bd code js f D' P' _ (markN_bd g0 f2 _ _ _ _ _ hD hm) (by omega) (by omega)
theorem deps_nil : Deps [] := fun t => by simp
theorem depthsN_bd (code : List (Nat × Nat)) (js : List Nat) : ∀ (qs : List Nat) (D ms : List Int), Deps D → (∀ x ∈ ms, 0 ≤ x ∧ x ≤ 64) →
    Deps (depthsN code js qs D ms).1 ∧ ∀ x ∈ (depthsN code js qs D ms).2.1, 0 ≤ x ∧ x ≤ 64
  | [], D, ms, hD, hm => ⟨hD, hm⟩
  | a :: qs, D, ms, hD, hm => by
    unfold depthsN
    split
    · exact ⟨deps_nil, fun x hx => by cases hx⟩
    · obtain ⟨w1, w2, w3⟩ := walkN_bd code js (code.length + 1) (D.set a 0) [a] 0 (hD.set a (by decide) (by decide)) (Int.le_refl _) (by decide)
      refine depthsN_bd code js qs _ _ w1 fun x hx => ?_
      rcases List.mem_append.1 hx with hx | hx
      · exact hm x hx
      · rw [List.mem_singleton.1 hx]; exact ⟨w2, w3⟩
theorem flowN_bd (code : List (Nat × Nat)) (js : List Nat) : (∀ i, -1 ≤ (flowN code js).1.getD i (-1) ∧ (flowN code js).1.getD i (-1) ≤ 64) ∧ ∀ i, 0 ≤ (flowN code js).2.1.getD i 0 ∧ (flowN code js).2.1.getD i 0 ≤ 64 := by
  obtain ⟨h1, h2⟩ := depthsN_bd code js ((psTo code code.length).map (·.1)) (List.replicate code.length (-1)) [] (deps_none _) (fun x hx => by cases hx)
  refine ⟨h1, fun i => ?_⟩
  have h3 : ∀ l : List Int, (∀ x ∈ l, 0 ≤ x ∧ x ≤ 64) → 0 ≤ l.getD i 0 ∧ l.getD i 0 ≤ 64 := fun l h => by
    rw [List.getD_eq_getElem?_getD]
    cases hk : l[i]? with
    | none => exact ⟨Int.le_refl _, show (0 : Int) ≤ 64 by decide⟩
    | some v => exact h v (List.mem_of_getElem? hk)
  exact h3 _ h2
theorem file_drop (dig delta mark : Nat) (base : List Nat) (s : St) : (fileN dig delta mark base s).drop 28 = bodyN s base := List.drop_left' (headN_length ..)
theorem file_take (dig delta mark : Nat) (base : List Nat) (s : St) : (fileN dig delta mark base s).take 16 = [83, 65, 86, 33] ++ (leW 4 1 ++ leW 8 dig) := by
  have e : fileN dig delta mark base s = ([83, 65, 86, 33] ++ (leW 4 1 ++ leW 8 dig)) ++ (leW 4 delta ++ (leW 4 mark ++ (leW 4 (sumN (headN dig delta mark 0 ++ bodyN s base)) ++ bodyN s base))) := by
    simp only [fileN, headN, List.append_assoc]
  rw [e, List.take_left' (by simp [leW_length])]
theorem body_length (s : St) (base : List Nat) : (bodyN s base).length = 20 + 4 * s.ops.length + ((runsN base s.data).flatMap runB).length := by
  simp only [bodyN, List.length_append, leW_length, flat4_length, List.length_cons, List.length_nil]; omega
theorem body_self (s : St) : (bodyN s s.data).length = 20 + 4 * s.ops.length := by rw [body_length, runsN_self]; rfl
def Mo.fresh (m : Mo) : List Nat := m.im.data ++ List.replicate (2 ^ m.k - m.im.data.length) 0
def Mo.dig (m : Mo) : Nat := digN m.im
def Mo.fst (m : Mo) : St := ⟨0, 0, m.top, [], m.fresh, 0, 0⟩
def saveN (m : Mo) (s : St) : List Nat := fileN m.dig 0 0 m.fresh s
def markS (m : Mo) (s : St) : Nat := sumN (bodyN s m.fresh)
def deltaN (m : Mo) (a b : St) : List Nat := fileN m.dig 1 (markS m a) a.data b
def readN (m : Mo) (b : List Nat) (delta mark : Nat) (base : List Nat) : Except (Nat × Nat) St :=
  match takenN b m.dig delta mark base with
  | .error e => .error e
  | .ok s => if m.fits s = true then .ok s else .error (28, 3)
theorem fits_len {m : Mo} {s : St} (h : m.fits s = true) : s.data.length = 2 ^ m.k := by
  unfold Mo.fits at h
  rw [Bool.and_eq_true] at h
  exact of_decide_eq_true h.1
theorem fits_ops {m : Mo} (hm : m.Ok) {s : St} (h : m.fits s = true) : s.ops.length ≤ 64 := by
  have room : ∀ n a, m.room n a = true → n ≤ 64 := by
    intro n a hr
    obtain ⟨r0, r1, r2⟩ := room_iff.1 hr
    have := (Mo.Ok.step hm r0).2.2.1
    omega
  unfold Mo.fits at h
  simp only [Bool.and_eq_true] at h
  obtain ⟨_, _, _, _, _, _, h⟩ := h
  by_cases c0 : s.life = 0
  · rw [if_pos c0] at h
    simp only [Bool.and_eq_true, decide_eq_true_eq] at h
    omega
  · rw [if_neg c0] at h
    by_cases c3 : s.life = 3
    · rw [if_pos c3] at h
      simp only [Bool.and_eq_true, decide_eq_true_eq] at h
      exact room _ _ h.2.2
    · rw [if_neg c3] at h
      by_cases c1 : s.life = 1
      · rw [if_pos c1] at h
        exact room _ _ h
      · rw [if_neg c1] at h
        by_cases c2 : s.life = 2
        · rw [if_pos c2] at h
          simp only [Bool.and_eq_true, decide_eq_true_eq] at h
          obtain ⟨h1, h2, h3⟩ := h
          have hs := Mo.Ok.step hm h1
          have : (0 : Int) ≤ m.need s.pc := by
            have := hs.2.2.1
            omega
          omega
        · rw [if_neg c2] at h
          cases h
theorem pow_le16 {m : Mo} (hm : m.Ok) : 256 ≤ 2 ^ m.k ∧ 2 ^ m.k ≤ 65536 := by
  have h := Mo.Ok.sizes hm
  exact ⟨h.1, h.2.1⟩
theorem fresh_length {m : Mo} (hm : m.Ok) : m.fresh.length = 2 ^ m.k := by
  have h := hm.r
  unfold roomN at h
  unfold Mo.fresh
  rw [List.length_append, List.length_replicate]
  omega
theorem fits_fst {m : Mo} (hm : m.Ok) : m.fits m.fst = true := by
  have h1 := fresh_length hm
  obtain ⟨s1, s2, s3, s4, s5, s6⟩ := Mo.Ok.sizes hm
  have ht : m.top = 2 ^ m.k - 64 := rfl
  unfold Mo.fits Mo.fst
  simp only [h1, ht]
  generalize 2 ^ m.k = K at *
  simp
  omega
theorem fst_small {m : Mo} (hm : m.Ok) (hd : ∀ x ∈ m.im.data, x < 256) : m.fst.Small := by
  have h2 := (pow_le16 hm).2
  refine ⟨by show (0 : Nat) < 256; decide, by show (0 : Nat) < 4294967296; decide, by show m.top < 4294967296; unfold Mo.top; omega, (fun x hx => by cases hx), ?_, by show (0 : Nat) < 4294967296; decide, by show (0 : Nat) < 256; decide⟩
  intro x hx
  rcases List.mem_append.1 (show x ∈ m.im.data ++ List.replicate (2 ^ m.k - m.im.data.length) 0 from hx) with hx | hx
  · exact hd x hx
  · rw [(List.mem_replicate.1 hx).2]; decide
theorem save_back {m : Mo} (hm : m.Ok) (hd : m.dig < 18446744073709551616) {s : St} (hs : s.Small) (hf : m.fits s = true) : readN m (saveN m s) 0 0 m.fresh = .ok s := by
  have h1 := fits_len hf
  have h2 := fits_ops hm hf
  have h3 := fresh_length hm
  have h4 := (pow_le16 hm).2
  have := taken_file m.dig 0 0 m.fresh s hd (by decide) (by decide) (fun _ => rfl) hs (by omega) (by omega) (by omega)
  unfold readN saveN
  rw [this]
  simp only [hf, if_true]
theorem delta_back {m : Mo} (hm : m.Ok) (hd : m.dig < 18446744073709551616) {a s : St} (hs : s.Small) (ha : m.fits a = true) (hf : m.fits s = true) : readN m (deltaN m a s) 1 (markS m a) a.data = .ok s := by
  have h1 := fits_len hf
  have h2 := fits_ops hm hf
  have h3 := fits_len ha
  have h4 := (pow_le16 hm).2
  have := taken_file m.dig 1 (markS m a) a.data s hd (by decide) (sumN_lt _) (fun h => by cases h) hs (by omega) (by omega) (by omega)
  unfold readN deltaN
  rw [this]
  simp only [hf, if_true]
theorem taken_ok {b : List Nat} {dig delta mark : Nat} {base : List Nat} {s : St} (h : takenN b dig delta mark base = .ok s) :
    (lookN b).2 = 0 ∧ ((numAt 4 b 16 = 1) = (delta = 1)) ∧ fileN dig delta mark base s = b := by
  unfold takenN at h
  by_cases c1 : (lookN b).2 ≠ 0
  · rw [if_pos c1] at h; cases h
  rw [if_neg c1] at h
  by_cases c2 : numAt 8 b 8 ≠ dig
  · rw [if_pos c2] at h; cases h
  rw [if_neg c2] at h
  by_cases c3 : (numAt 4 b 16 = 1) ≠ (delta = 1)
  · rw [if_pos c3] at h; cases h
  rw [if_neg c3] at h
  by_cases c4 : numAt 4 b 20 ≠ mark
  · rw [if_pos c4] at h; cases h
  rw [if_neg c4] at h
  by_cases c5 : b.length < 48 + 4 * numAt 2 b 30
  · rw [if_pos c5] at h; cases h
  rw [if_neg c5] at h
  cases hr : rdRuns b (numAt 4 b 44) (48 + 4 * numAt 2 b 30) [] with
  | none => rw [hr] at h; cases h
  | some rs =>
    rw [hr] at h
    simp only at h
    by_cases c6 : mendOk base.length 0 rs = false
    · rw [if_pos c6] at h; cases h
    rw [if_neg c6] at h
    split at h
    · rename_i c7
      cases h
      exact ⟨Classical.not_not.1 c1, Classical.not_not.1 c3, c7⟩
    · cases h
theorem read_ok {m : Mo} {b : List Nat} {delta mark : Nat} {base : List Nat} {s : St} (h : readN m b delta mark base = .ok s) :
    m.fits s = true ∧ (lookN b).2 = 0 ∧ ((numAt 4 b 16 = 1) = (delta = 1)) ∧ fileN m.dig delta mark base s = b := by
  unfold readN at h
  cases ht : takenN b m.dig delta mark base with
  | error e => rw [ht] at h; cases h
  | ok t =>
    rw [ht] at h
    simp only at h
    by_cases c : m.fits t = true
    · rw [if_pos c] at h
      cases h
      exact ⟨c, taken_ok ht⟩
    · rw [if_neg c] at h; cases h
theorem read_not {m : Mo} {b : List Nat} {mark : Nat} {base base' : List Nat} {s t : St} (h : readN m b 0 0 base = .ok s) (h2 : readN m b 1 mark base' = .ok t) : False := by
  have e1 := (read_ok h).2.2.1
  have e2 := (read_ok h2).2.2.1
  rw [e1] at e2
  have : (0 : Nat) = 1 := by rw [e2]
  cases this
theorem read_small {m : Mo} {b : List Nat} {delta mark : Nat} {base : List Nat} {e : Nat × Nat} (h : readN m b delta mark base = .error e) : e.2 ≠ 0 := by
  unfold readN at h
  cases ht : takenN b m.dig delta mark base with
  | ok t =>
    rw [ht] at h
    simp only at h
    by_cases c : m.fits t = true
    · rw [if_pos c] at h; cases h
    · rw [if_neg c] at h; cases h; decide
  | error e' =>
    rw [ht] at h
    cases h
    unfold takenN at ht
    by_cases c1 : (lookN b).2 ≠ 0
    · rw [if_pos c1] at ht; cases ht; exact c1
    rw [if_neg c1] at ht
    by_cases c2 : numAt 8 b 8 ≠ m.dig
    · rw [if_pos c2] at ht; cases ht; decide
    rw [if_neg c2] at ht
    by_cases c3 : (numAt 4 b 16 = 1) ≠ (delta = 1)
    · rw [if_pos c3] at ht; cases ht; decide
    rw [if_neg c3] at ht
    by_cases c4 : numAt 4 b 20 ≠ mark
    · rw [if_pos c4] at ht; cases ht; decide
    rw [if_neg c4] at ht
    by_cases c5 : b.length < 48 + 4 * numAt 2 b 30
    · rw [if_pos c5] at ht; cases ht; decide
    rw [if_neg c5] at ht
    cases hr : rdRuns b (numAt 4 b 44) (48 + 4 * numAt 2 b 30) [] with
    | none => rw [hr] at ht; cases ht; decide
    | some rs =>
      rw [hr] at ht
      simp only at ht
      by_cases c6 : mendOk base.length 0 rs = false
      · rw [if_pos c6] at ht; cases ht; decide
      rw [if_neg c6] at ht
      split at ht
      · cases ht
      · cases ht; decide
theorem read_turned {m : Mo} {b : List Nat} (hb : ∀ x ∈ b, x < 256) (h : (lookN b).2 = 0) {k x : Nat} (hk : k < b.length) (hx : x < 256) (hne : x ≠ b.getD k 0) (delta mark : Nat) (base : List Nat) :
    ∃ e, readN m (b.set k x) delta mark base = .error e ∧ e.2 ≠ 0 := by
  have hl := look_turned hb h hk hx hne
  refine ⟨lookN (b.set k x), ?_, hl⟩
  unfold readN takenN
  rw [if_pos hl]
theorem look_save {m : Mo} (hd : m.dig < 18446744073709551616) (s : St) : (lookN (saveN m s)).2 = 0 := by
  unfold saveN; rw [look_file m.dig 0 0 m.fresh s hd (by decide) (by decide) (fun _ => rfl)]
theorem look_delta {m : Mo} (hd : m.dig < 18446744073709551616) (a s : St) : (lookN (deltaN m a s)).2 = 0 := by
  unfold deltaN; rw [look_file m.dig 1 (markS m a) a.data s hd (by decide) (sumN_lt _) (fun h => by cases h)]
theorem delta_self (m : Mo) (a : St) : (deltaN m a a).length = 48 + 4 * a.ops.length := by
  unfold deltaN; rw [fileN_length, body_self]; omega
theorem delta_ge (m : Mo) (a b : St) : 48 + 4 * b.ops.length ≤ (deltaN m a b).length := by
  unfold deltaN; rw [fileN_length, body_length]; omega
theorem save_fresh (m : Mo) (s : St) : (saveN m s).drop 28 = (deltaN m m.fst s).drop 28 ∧ (saveN m s).take 16 = (deltaN m m.fst s).take 16 ∧ (saveN m s).length = (deltaN m m.fst s).length ∧ 48 ≤ (saveN m s).length := by
  unfold saveN deltaN
  refine ⟨by rw [file_drop, file_drop]; rfl, by rw [file_take, file_take], by rw [fileN_length, fileN_length]; rfl, by rw [fileN_length, body_length]; omega⟩
theorem file_lt {dig delta mark : Nat} {base : List Nat} {s : St} (hs : s.Small) (hb : base.length = s.data.length) : ∀ x ∈ fileN dig delta mark base s, x < 256 := by
  have runs : ∀ r ∈ runsN base s.data, ∀ x ∈ r.2, x < 256 := by
    have key : ∀ k, (∀ r ∈ (runsTo base s.data k).1, ∀ x ∈ r.2, x < 256) ∧ ∀ r, (runsTo base s.data k).2 = some r → ∀ x ∈ r.2, x < 256 := by
      have hget : ∀ k, s.data.getD k 0 < 256 := by
        intro k
        rw [List.getD_eq_getElem?_getD]
        cases hk : s.data[k]? with
        | none => decide
        | some v => exact hs.d v (List.mem_of_getElem? hk)
      intro k
      induction k with
      | zero => exact ⟨fun r hr => (by cases hr), fun r hr => (by cases hr)⟩
      | succ k ih =>
        obtain ⟨i1, i2⟩ := ih
        unfold runsTo runStep
        by_cases c : base.getD k 0 = s.data.getD k 0
        · rw [if_pos c]
          cases h2 : (runsTo base s.data k).2 with
          | none => exact ⟨i1, fun r hr => (by rw [h2] at hr; cases hr)⟩
          | some q =>
            refine ⟨fun r hr => ?_, fun r hr => by cases hr⟩
            rcases List.mem_append.1 hr with hr | hr
            · exact i1 r hr
            · rw [List.mem_singleton.1 hr]; exact i2 q h2
        · rw [if_neg c]
          cases h2 : (runsTo base s.data k).2 with
          | none =>
            refine ⟨i1, fun r hr => ?_⟩
            cases hr
            intro x hx
            rw [List.mem_singleton.1 hx]; exact hget k
          | some q =>
            refine ⟨i1, fun r hr => ?_⟩
            cases hr
            intro x hx
            rcases List.mem_append.1 hx with hx | hx
            · exact i2 q h2 x hx
            · rw [List.mem_singleton.1 hx]; exact hget k
    intro r hr
    unfold runsN closeR at hr
    cases h2 : (runsTo base s.data base.length).2 with
    | none => rw [h2] at hr; exact (key _).1 r hr
    | some q =>
      rw [h2] at hr
      rcases List.mem_append.1 hr with hr | hr
      · exact (key _).1 r hr
      · rw [List.mem_singleton.1 hr]; exact (key _).2 q h2
  have flat : ∀ (l : List Nat), ∀ x ∈ l.flatMap (leW 4), x < 256 := fun l x hx => by
    obtain ⟨y, _, hy⟩ := List.mem_flatMap.1 hx
    exact leW_lt 4 y x hy
  have hl := hs.l
  have hf := hs.f
  have magic : ∀ x ∈ ([83, 65, 86, 33] : List Nat), x < 256 := by decide
  intro x hx
  unfold fileN headN bodyN at hx
  simp only [List.mem_append] at hx
  rcases hx with (h | h | h | h | h | h) | (h | h | h | h | h | h | h | h)
  · exact magic x h
  · exact leW_lt _ _ x h
  · exact leW_lt _ _ x h
  · exact leW_lt _ _ x h
  · exact leW_lt _ _ x h
  · exact leW_lt _ _ x h
  · simp only [List.mem_cons, List.not_mem_nil, or_false] at h
    rcases h with rfl | rfl
    · exact hl
    · exact hf
  · exact leW_lt _ _ x h
  · exact leW_lt _ _ x h
  · exact leW_lt _ _ x h
  · exact leW_lt _ _ x h
  · exact leW_lt _ _ x h
  · exact flat _ x h
  · obtain ⟨r, hr, hx⟩ := List.mem_flatMap.1 h
    unfold runB at hx
    rcases List.mem_append.1 hx with hx | hx
    · exact leW_lt _ _ x hx
    · rcases List.mem_append.1 hx with hx | hx
      · exact leW_lt _ _ x hx
      · exact runs r hr x hx
set_option linter.unusedSimpArgs false
structure MAt (w : World) (mb : Nat) (m : Img) : Prop where
  k : TakeOk m
  a : ∃ B, ModAt w B mb m
  x : ∃ w0 xc xj xd xn, ImgAt w0 xc xj xd xn m
theorem MAt.below {w w' : World} {mb : Nat} {m : Img} (h : MAt w mb m) (hb : Below w.heap.size w w') : MAt w' mb m := by
  obtain ⟨B, hB⟩ := h.a
  exact ⟨h.k, ⟨B, hB.below hb⟩, h.x⟩
theorem MAt.bits {w : World} {mb : Nat} {m : Img} (h : MAt w mb m) :
    Calls Tryz.prog 21 #[.pointer (some ⟨mb, 0, none⟩)] w fun e w' => e = .returned (.int .i64 (bitsI m)) ∧ w = w' := by
  obtain ⟨B, hB⟩ := h.a
  exact bitsOf_any mb m B w hB
theorem MAt.image {w : World} {mb : Nat} {m : Img} (h : MAt w mb m) :
    Calls Tryz.prog 22 #[.pointer (some ⟨mb, 0, none⟩)] w fun e w' => ∃ uc uj ud un, e = .returned (.agg #[uc, uj, ud, .int .u32 m.zero, .int .u32 m.stack, un]) ∧ ImgOwn w' w.heap.size uc uj ud un m ∧ Below w.heap.size w w' := by
  obtain ⟨B, hB⟩ := h.a
  obtain ⟨w0, xc, xj, xd, xn, hx⟩ := h.x
  exact image_any mb m B w (small_of_check h.k.k) hB w0 xc xj xd xn hx
theorem MAt.empty {w : World} {mb : Nat} {m : Img} (h : MAt w mb m) :
    Calls Tryz.prog 20 #[.pointer (some ⟨mb, 0, none⟩)] w fun e w' => e = .returned (.bool false) ∧ w = w' := by
  obtain ⟨B, hB⟩ := h.a
  exact none_any mb m B w h.k hB
theorem MAt.top {w : World} {mb : Nat} {m : Img} (h : MAt w mb m) :
    Calls Tryz.prog 23 #[.pointer (some ⟨mb, 0, none⟩)] w fun e w' => e = .returned (.int .u32 ((moOf m).top : Nat)) ∧ w = w' := by
  obtain ⟨B, hB⟩ := h.a
  exact top_any mb m B w h.k hB
theorem MAt.depth {w : World} {mb : Nat} {m : Img} (h : MAt w mb m) (i : Nat) (hi : i < 4294967296) :
    Calls Tryz.prog 27 #[.pointer (some ⟨mb, 0, none⟩), .int .u32 i] w fun e w' => e = .returned (.int .i64 (depthAt (flowN m.code m.js).1 i)) ∧ Below w.heap.size w w' := by
  obtain ⟨B, hB⟩ := h.a
  exact depthOf_any mb m B w hB i hi
theorem MAt.proc {w : World} {mb : Nat} {m : Img} (h : MAt w mb m) (i : Nat) (hi : i < 4294967296) :
    Calls Tryz.prog 26 #[.pointer (some ⟨mb, 0, none⟩), .int .u32 i] w fun e w' => e = .returned (.tuple #[prcV (prcN m i) (needN m i), .bool (decide (i < m.code.length))]) ∧ Below w.heap.size w w' := by
  obtain ⟨B, hB⟩ := h.a
  exact procOf_any mb m B w h.k hB i hi
theorem MAt.instr {w : World} {mb : Nat} {m : Img} (h : MAt w mb m) (i : Nat) (hi : i < 4294967296) :
    Calls Tryz.prog 25 #[.pointer (some ⟨mb, 0, none⟩), .int .u32 i] w fun e w' => e = .returned (.tuple #[instrV m.code i, .bool (decide (i < m.code.length))]) ∧ Below w.heap.size w w' := by
  obtain ⟨B, hB⟩ := h.a
  exact at_any mb m B w hB i hi (checkI_ok h.k.k).1
theorem MAt.digest {w : World} {mb : Nat} {m : Img} (h : MAt w mb m) :
    Calls Tryz.prog 56 #[.pointer (some ⟨mb, 0, none⟩)] w fun e w' => e = .returned (.int .u64 (digN m)) ∧ w = w' := by
  obtain ⟨B, hB⟩ := h.a
  exact digest_any mb m B w hB
theorem MAt.count {w : World} {mb : Nat} {m : Img} (h : MAt w mb m) :
    Calls Tryz.prog 61 #[.pointer (some ⟨mb, 0, none⟩)] w fun e w' => e = .returned (.int .i64 m.code.length) ∧ w = w' := by
  obtain ⟨B, hB⟩ := h.a
  exact cnt_any mb m B w hB
theorem mo_depth (m : Img) (i : Nat) : (moOf m).depth i = depthAt (flowN m.code m.js).1 i := by
  unfold Mo.depth depthAt
  split
  · rfl
  · rename_i h
    rw [List.getD_eq_getElem?_getD, List.getElem?_eq_none (show (flowN m.code m.js).1.length ≤ i from Nat.le_of_not_lt h)]
    rfl
theorem mo_need {m : Img} (hk : TakeOk m) (i : Nat) : (moOf m).need i = needN m i := by
  obtain ⟨e1, -, -⟩ := prc_eq hk i
  unfold Mo.need needN
  show (if i < (ofTo m.code m.code.length).length then _ else _) = _
  rw [e1]
  rfl
theorem depth_bd (m : Img) (i : Nat) : -1 ≤ depthAt (flowN m.code m.js).1 i ∧ depthAt (flowN m.code m.js).1 i ≤ 64 := (flowN_bd m.code m.js).1 i
theorem need_bd (m : Img) (i : Nat) : 0 ≤ needN m i ∧ needN m i ≤ 64 := by
  unfold needN
  split
  · exact (flowN_bd m.code m.js).2 _
  · exact ⟨Int.le_refl _, by decide⟩
set_option maxRecDepth 100000 in
set_option maxHeartbeats 1000000 in
theorem room_any' {w : World} {mb : Nat} {m : Img} (h : MAt w mb m) (n i : Nat) (hn : n ≤ 140737488355328) (hi : i < 4294967296) :
    Calls Tryz.prog 24 #[.pointer (some ⟨mb, 0, none⟩), .int .i64 n, .int .u32 i] w fun e w' => e = .returned (.bool ((moOf m).room n i)) ∧ Below w.heap.size w w' := by
  have HD := Lib.hid (h.depth i hi)
  have HP := Lib.hid (fun W (hW : Below w.heap.size w W) => (h.below hW).proc i hi)
  have hd := depth_bd m i
  have hq := need_bd m i
  have Hr := Lib.hid (show (moOf m).room n i = (decide (0 ≤ depthAt (flowN m.code m.js).1 i) && (decide (depthAt (flowN m.code m.js).1 i ≤ n) && decide ((n : Int) - depthAt (flowN m.code m.js).1 i + needN m i ≤ 64))) from by
    unfold Mo.room; rw [mo_depth, mo_need h.k])
  generalize depthAt (flowN m.code m.js).1 i = d at *
  generalize needN m i = q at *
  generalize decide (i < m.code.length) = bb at *
  unfold prcV at HP
  generalize prcN m i = p at *
  obtain ⟨p0, p1, p2⟩ := p
  simp only at HP
  clear h
  go_enter Tryz.func24, Tryz.ntmps24
  go_wp2_with fail
  refine HD.out.mono ?_
  rintro e w1 ⟨rfl, hb1⟩
  have HP1 := Lib.hid (HP.out w1 hb1)
  have HB1 := Lib.hid hb1
  clear hb1 HP HD
  go_wp2_with fail
  refine HP1.out.mono ?_
  rintro e w2 ⟨rfl, hb2⟩
  have HB2 := Lib.hid (Bel.al (Bel.tr HB1.out hb2) (.cells #[.int .u32 p0, .int .u32 p1, .int .u32 p2, .int .i64 q] 71))
  clear hb2 HP1
  by_cases h0 : 0 ≤ d
  · by_cases h1 : d ≤ (n : Int)
    all_goals
      go_wp2_with fail
      all_goals
        go_ret
        exact ⟨ret_boolE (by rw [Hr.out, Bool.eq_iff_iff]; simp only [Bool.and_eq_true, decide_eq_true_eq, Bool.false_eq_true, false_iff, true_iff]; omega), HB2.out⟩
  · go_wp2_with fail
    go_ret
    exact ⟨ret_boolE (by rw [Hr.out, Bool.eq_iff_iff]; simp only [Bool.and_eq_true, decide_eq_true_eq, Bool.false_eq_true, false_iff, true_iff]; omega), HB2.out⟩
theorem fld28_4 (a1 a2 a3 a4 : Option Addr) (l1 n1 l2 n2 l3 n3 l4 n4 : Nat) (z t : Int) (w : World) : (Instr.field 28 (.agg #[.slice a1 l1 n1, .slice a2 l2 n2, .slice a3 l3 n3, .int .u32 z, .int .u32 t, .slice a4 l4 n4]) 4).run Tryz.prog w = .ok (.int .u32 t) w := by kernel_rfl
theorem mfollows : Tryz.prog.follows .mixedOrders = true := by kernel_rfl
structure StB (w : World) (q : Nat) (vo vd : Value) (s : St) : Prop where
  c0 : w.cell? ⟨q, 0, none⟩ = some (.int .u8 s.life)
  c1 : w.cell? ⟨q, 1, none⟩ = some (.int .u32 s.pc)
  c2 : w.cell? ⟨q, 2, none⟩ = some (.int .u32 s.sp)
  c3 : w.cell? ⟨q, 3, none⟩ = some vo
  c4 : w.cell? ⟨q, 4, none⟩ = some vd
  c5 : w.cell? ⟨q, 5, none⟩ = some (.int .u32 s.value)
  c6 : w.cell? ⟨q, 6, none⟩ = some (.int .u8 s.fault)
theorem StB.below {w w' : World} {q : Nat} {vo vd : Value} {s : St} (h : StB w q vo vd s) (hb : Below w.heap.size w w') : StB w' q vo vd s := by
  have hl := World.block_lt_of_cell? _ _ h.c0
  exact ⟨(hb.cell (p := ⟨q, 0, none⟩) hl).trans h.c0, (hb.cell (p := ⟨q, 1, none⟩) hl).trans h.c1, (hb.cell (p := ⟨q, 2, none⟩) hl).trans h.c2, (hb.cell (p := ⟨q, 3, none⟩) hl).trans h.c3,
    (hb.cell (p := ⟨q, 4, none⟩) hl).trans h.c4, (hb.cell (p := ⟨q, 5, none⟩) hl).trans h.c5, (hb.cell (p := ⟨q, 6, none⟩) hl).trans h.c6⟩
theorem StB.row {w : World} {q : Nat} {vo vd : Value} {s : St} (h : w.heap[q]? = some (.cells #[.int .u8 s.life, .int .u32 s.pc, .int .u32 s.sp, vo, vd, .int .u32 s.value, .int .u8 s.fault] 32 (0, 0))) : StB w q vo vd s :=
  ⟨cell_of_row w q 0 _ _ _ h, cell_of_row w q 1 _ _ _ h, cell_of_row w q 2 _ _ _ h, cell_of_row w q 3 _ _ _ h, cell_of_row w q 4 _ _ _ h, cell_of_row w q 5 _ _ _ h, cell_of_row w q 6 _ _ _ h⟩
section
variable {m : Mo} {s : St}
theorem fits_no1 (h : s.data.length ≠ 2 ^ m.k) : m.fits s = false := by unfold Mo.fits; simp [h]
theorem fits_no2 (h : s.sp % 4 ≠ 0) : m.fits s = false := by unfold Mo.fits; simp [h]
theorem fits_no3 (h : s.sp < 2 ^ m.k - m.im.stack) : m.fits s = false := by unfold Mo.fits; simp [show ¬ 2 ^ m.k - m.im.stack ≤ s.sp by omega]
theorem fits_no4 (h : m.top < s.sp) : m.fits s = false := by unfold Mo.fits; simp [show ¬ s.sp ≤ m.top by omega]
theorem fits_no5 (h : s.life ≠ 2) (h2 : s.value ≠ 0) : m.fits s = false := by
  unfold Mo.fits; simp only [show decide (s.life ≠ 2 → s.value = 0) = false from decide_eq_false (fun f => h2 (f h)), Bool.false_and, Bool.and_false]
theorem fits_no6 (h : s.life ≠ 3) (h2 : s.fault ≠ 0) : m.fits s = false := by
  unfold Mo.fits; simp only [show decide (s.life ≠ 3 → s.fault = 0) = false from decide_eq_false (fun f => h2 (f h)), Bool.false_and, Bool.and_false]
theorem fits_go (h1 : s.data.length = 2 ^ m.k) (h2 : s.sp % 4 = 0) (h3 : 2 ^ m.k - m.im.stack ≤ s.sp) (h4 : s.sp ≤ m.top) (h5 : s.life ≠ 2 → s.value = 0) (h6 : s.life ≠ 3 → s.fault = 0) :
    m.fits s = (if s.life = 0 then decide (s.pc = 0) && (decide (s.sp = m.top) && decide (s.ops.length = 0))
   else if s.life = 3 then decide (1 ≤ s.fault) && (decide (s.fault ≤ 8) && m.room s.ops.length s.pc)
   else if s.life = 1 then m.room s.ops.length s.pc
   else if s.life = 2 then decide (0 ≤ m.depth s.pc) && (decide (opAt m.im.code s.pc = 4) && decide ((s.ops.length : Int) + m.need s.pc ≤ 64))
   else false) := by
  unfold Mo.fits
  rw [decide_eq_true h1, decide_eq_true h2, decide_eq_true h3, decide_eq_true h4, decide_eq_true h5, decide_eq_true h6]
  simp only [Bool.true_and]
end
theorem quiet_at {W0 : World} {f : FuncId} {args : Array Value} {v : Value} (H : ∀ W, Below W0.heap.size W0 W → Calls Tryz.prog f args W fun e w' => e = .returned v ∧ W = w') :
    ∀ T : BelW W0, Calls Tryz.prog f args T.val fun e w' => e = .returned v ∧ ∃ S : BelW W0, w' = S.val := fun T => (H T.val T.2).mono fun e w' h => ⟨h.1, T, h.2.symm⟩
set_option maxRecDepth 100000 in
set_option maxHeartbeats 8000000 in
theorem fits_any {w : World} {mb : Nat} {m : Img} (h : MAt w mb m) {vo vd : Value} {s : St} (hs : StAt w vo vd s) (hn : s.ops.length ≤ 140737488355328) :
    Calls Tryz.prog 9 #[.pointer (some ⟨mb, 0, none⟩), stV vo vd s] w fun e w' => e = .returned (.bool ((moOf m).fits s)) ∧ Below w.heap.size w w' := by
  have hmx := mfollows
  have hf28 := fld28_4
  obtain ⟨W0, hW0⟩ : ∃ W0, W0 = w.alloc (.cells #[.int .u8 s.life, .int .u32 s.pc, .int .u32 s.sp, vo, vd, .int .u32 s.value, .int .u8 s.fault] 32) := ⟨_, rfl⟩
  have hb0 : Below w.heap.size w W0 := by rw [hW0]; exact Bel.new _ _
  have HS0 := Lib.hid (StB.row (s := s) (vo := vo) (vd := vd) (by rw [hW0]; exact heap_alloc_new w _) : StB W0 w.heap.size vo vd s)
  have HM := Lib.hid (h.below hb0)
  have hok := moOk h.k
  obtain ⟨s1, s2, s3, s4, s5, s6⟩ := Mo.Ok.sizes hok
  have hk8 : 8 ≤ bitsI m := hok.k8
  have hk16 : bitsI m ≤ 16 := hok.k16
  have HB0 := Lib.hid hb0
  obtain ⟨ao, co, rfl, -, hno, hmo, -⟩ := hs.o.1
  obtain ⟨ad, cd, rfl, -, hnd, hmd, -⟩ := hs.d.1
  have hpc := hs.sm.p
  have hne : Nonempty (BelW W0) := ⟨⟨W0, Below.refl _ _⟩⟩
  have Q140 := Lib.hid (quiet_at fun W hW => (HM.out.below hW).empty)
  have Q112 := Lib.hid (quiet_at fun W hW => (HM.out.below hW).bits)
  have Q141 := Lib.hid (quiet_at fun W hW => (HM.out.below hW).top)
  have T2 := BelW.cell HS0.out.c2
  have T4 := BelW.cell HS0.out.c4
  have hK : ∃ K : Nat, K = 2 ^ bitsI m := ⟨_, rfl⟩
  obtain ⟨K, hK⟩ := hK
  have HK := Lib.hid hK
  have s1' : 256 ≤ K := by rw [hK]; exact s1
  have s2' : K ≤ 65536 := by rw [hK]; exact s2
  have s3' : m.stack ≤ K := by rw [hK]; exact s3
  have hp2 : (2 : Int) ^ bitsI m = (K : Int) := by rw [hK]; simp
  have hwK : IntKind.i64.wrap (K : Int) = (K : Int) := IntWalk.i64_in _ (by omega)
  have hwK2 : IntKind.u32.wrap (K : Int) = (K : Int) := by rw [IntKind.wrap_u32]; omega
  have htop : (moOf m).top = K - 64 := by rw [hK]; rfl
  have Htop := Lib.hid htop
  have hkk : (moOf m).k = bitsI m := rfl
  have F1 := Lib.hid (show s.data.length ≠ K → (moOf m).fits s = false from fun h => fits_no1 (by rw [hkk, ← HK.out]; exact h))
  have F2 := Lib.hid (show s.sp % 4 ≠ 0 → (moOf m).fits s = false from fits_no2)
  have F3 := Lib.hid (show s.sp < K - m.stack → (moOf m).fits s = false from fun h => fits_no3 (by rw [hkk, ← HK.out]; exact h))
  have F4 := Lib.hid (show K - 64 < s.sp → (moOf m).fits s = false from fun h => fits_no4 (by rw [Htop.out]; exact h))
  have F5 := Lib.hid (show s.life ≠ 2 → s.value ≠ 0 → (moOf m).fits s = false from fits_no5)
  have F6 := Lib.hid (show s.life ≠ 3 → s.fault ≠ 0 → (moOf m).fits s = false from fits_no6)
  have FG := Lib.hid (show s.data.length = K → s.sp % 4 = 0 → K - m.stack ≤ s.sp → s.sp ≤ K - 64 → (s.life ≠ 2 → s.value = 0) → (s.life ≠ 3 → s.fault = 0) → (moOf m).fits s = _ from fun h1 h2 h3 h4 h5 h6 => fits_go (by rw [hkk, ← HK.out]; exact h1) h2 (by rw [hkk, ← HK.out]; exact h3) (by rw [Htop.out]; exact h4) h5 h6)
  rw [htop] at Q141 FG
  have HR := Lib.hid (fun W (hW : Below W0.heap.size W0 W) => room_any' (HM.out.below hW) s.ops.length s.pc hn hpc)
  have HIm := Lib.hid (fun W (hW : Below W0.heap.size W0 W) => (HM.out.below hW).image)
  have HTo := Lib.hid (fun W (hW : Below W0.heap.size W0 W) => (HM.out.below hW).top)
  rw [htop] at HTo
  have HBi := Lib.hid (fun W (hW : Below W0.heap.size W0 W) => (HM.out.below hW).bits)
  have HNo := Lib.hid (fun W (hW : Below W0.heap.size W0 W) => (HM.out.below hW).empty)
  have HKp := Lib.hid (fun (W W' : World) (hb : Below W.heap.size W W') (hS : ((W.cell? ⟨w.heap.size, 0, none⟩ = some (.int .u8 s.life) ∧ W.cell? ⟨w.heap.size, 2, none⟩ = some (.int .u32 s.sp) ∧ W.cell? ⟨w.heap.size, 4, none⟩ = some (.slice ad s.data.length cd)) ∧ Below W0.heap.size W0 W)) =>
    (⟨⟨(HS0.out.below (Bel.tr hS.2 hb)).c0, (HS0.out.below (Bel.tr hS.2 hb)).c2, (HS0.out.below (Bel.tr hS.2 hb)).c4⟩, Bel.tr hS.2 hb⟩ : ((W'.cell? ⟨w.heap.size, 0, none⟩ = some (.int .u8 s.life) ∧ W'.cell? ⟨w.heap.size, 2, none⟩ = some (.int .u32 s.sp) ∧ W'.cell? ⟨w.heap.size, 4, none⟩ = some (.slice ad s.data.length cd)) ∧ Below W0.heap.size W0 W')))
  generalize hfit : (moOf m).fits s = ff at *
  have Hsm := Lib.hid hs.sm
  have hLl : s.data.length ≤ 9223372036854775807 := by unfold maxLen at hmd; omega
  have hsp := hs.sm.s
  generalize bitsI m = k at *
  clear hfit hs h hb0 hok s1 s2 s3 s4 s5 s6 hkk htop hK
  unfold stV
  by_cases c1 : s.data.length = K
  · have C1 := Lib.hid c1
    have hd0 : (((s.data.length : Nat) : Int) == (K : Int)) = true := by simp; omega
    have hd1 : (((s.data.length : Nat) : Int) != (K : Int)) = false := by simp; omega
    clear c1
    by_cases c2 : s.sp % 4 = 0
    · have C2 := Lib.hid c2
      have hd2 : (((s.sp : Nat) : Int).tmod 4 == 0) = true := by rw [Int.tmod_eq_emod_of_nonneg (by omega)]; simp; omega
      have hd3 : (((s.sp : Nat) : Int).tmod 4 != 0) = false := by rw [Int.tmod_eq_emod_of_nonneg (by omega)]; simp; omega
      have hd4 : (((s.sp : Nat) : Int) % 4 == 0) = true := by simp; omega
      have hd5 : (((s.sp : Nat) : Int) % 4 != 0) = false := by simp; omega
      clear c2
      obtain ⟨Y, hY⟩ : ∃ Y, Y = K - m.stack := ⟨_, rfl⟩
      obtain ⟨Z, hZ⟩ : ∃ Z, Z = K - 64 := ⟨_, rfl⟩
      have hw3 : IntKind.u32.wrap ((K : Int) - (m.stack : Int)) = (Y : Int) := by rw [IntKind.wrap_u32]; omega
      rw [← hY] at F3 FG
      rw [← hZ] at F4 FG HTo
      have H00 := Lib.hid (⟨⟨HS0.out.c0, HS0.out.c2, HS0.out.c4⟩, (Below.refl _ _).drew⟩ : (W0.drew.cell? ⟨w.heap.size, 0, none⟩ = some (.int .u8 s.life) ∧ W0.drew.cell? ⟨w.heap.size, 2, none⟩ = some (.int .u32 s.sp) ∧ W0.drew.cell? ⟨w.heap.size, 4, none⟩ = some (.slice ad s.data.length cd)) ∧ Below W0.heap.size W0 W0.drew)
      by_cases c3 : s.sp < Y
      · have hff : ff = false := F3.out c3
        subst hff
        have hc3 : ((s.sp : Nat) : Int) < (Y : Int) := by omega
        clear hY hZ
        go_enter Tryz.func9, Tryz.ntmps9
        go_wp2_with fail
        rw [← hW0]
        clear hW0
        refine wp_region_held_drew (S := ((fun w' => (w'.cell? ⟨w.heap.size, 0, none⟩ = some (.int .u8 s.life) ∧ w'.cell? ⟨w.heap.size, 2, none⟩ = some (.int .u32 s.sp) ∧ w'.cell? ⟨w.heap.size, 4, none⟩ = some (.slice ad s.data.length cd)) ∧ Below W0.heap.size W0 w'))) (by kernel_rfl) H00.out (fun hHeld => ?_)
        refine wpAnyH_take (i := 0) (v := ?_) (by simp only [List.getElem?_toArray, List.getElem?_cons_succ, List.getElem?_cons_zero, Option.some.injEq]; rfl) (by kernel_rfl) (by kernel_rfl) (by kernel_rfl) (by exact fun _ _ _ h => h) (Or.inl ⟨by rfl, ?_⟩) hHeld ?_
        rotate_left
        · intro wq hSw; (try dsimp only at hSw); go_simp; (try with_reducible rfl)
        rotate_left
        try simp only [Act.put, List.setIfInBounds_toArray, List.set_cons_zero, List.set_cons_succ]
        refine wpAnyH_ready (rs := [1]) (by kernel_rfl) (by simp) (AllReadyH.cons rfl (fun K hK => ?_) AllReadyH.nil)
        go_simp
        refine (HNo.out _ hHeld.2).mono ?_
        rintro e wN ⟨rfl, rfl⟩
        refine hK.out _ _ hHeld (fun _ => ?_)
        clear hK K
        try simp only [Act.put, List.setIfInBounds_toArray, List.set_cons_zero, List.set_cons_succ]
        refine wpAnyH_take (i := 2) (v := ?_) (by simp only [List.getElem?_toArray, List.getElem?_cons_succ, List.getElem?_cons_zero, Option.some.injEq]; rfl) (by kernel_rfl) (by kernel_rfl) (by kernel_rfl) (by exact fun _ _ _ h => h) (Or.inl ⟨by rfl, ?_⟩) hHeld ?_
        rotate_left
        · intro wq hSw; (try dsimp only at hSw); go_simp; (try with_reducible rfl)
        rotate_left
        try simp only [Act.put, List.setIfInBounds_toArray, List.set_cons_zero, List.set_cons_succ]
        refine wpAnyH_take (i := 3) (v := ?_) (by simp only [List.getElem?_toArray, List.getElem?_cons_succ, List.getElem?_cons_zero, Option.some.injEq]; rfl) (by kernel_rfl) (by kernel_rfl) (by kernel_rfl) (by exact fun _ _ _ h => h) (Or.inl ⟨by rfl, ?_⟩) hHeld ?_
        rotate_left
        · intro wq hSw; (try dsimp only at hSw); go_simp; (try with_reducible rfl)
        rotate_left
        try simp only [Act.put, List.setIfInBounds_toArray, List.set_cons_zero, List.set_cons_succ]
        refine wpAnyH_take (i := 4) (v := ?_) (by simp only [List.getElem?_toArray, List.getElem?_cons_succ, List.getElem?_cons_zero, Option.some.injEq]; rfl) (by kernel_rfl) (by kernel_rfl) (by kernel_rfl) (by exact fun _ _ _ h => h) (Or.inl ⟨by rfl, ?_⟩) hHeld ?_
        rotate_left
        · intro wq hSw; (try dsimp only at hSw); go_simp; (try with_reducible rfl)
        rotate_left
        try simp only [Act.put, List.setIfInBounds_toArray, List.set_cons_zero, List.set_cons_succ]
        refine wpAnyH_take (i := 5) (v := ?_) (by simp only [List.getElem?_toArray, List.getElem?_cons_succ, List.getElem?_cons_zero, Option.some.injEq]; rfl) (by kernel_rfl) (by kernel_rfl) (by kernel_rfl) (by exact fun _ _ _ h => h) (Or.inl ⟨by rfl, ?_⟩) hHeld ?_
        rotate_left
        · intro wq hSw; (try dsimp only at hSw); go_simp; (try with_reducible rfl)
        rotate_left
        try simp only [Act.put, List.setIfInBounds_toArray, List.set_cons_zero, List.set_cons_succ]
        refine wpAnyH_take (i := 6) (v := ?_) (by simp only [List.getElem?_toArray, List.getElem?_cons_succ, List.getElem?_cons_zero, Option.some.injEq]; rfl) (by kernel_rfl) (by kernel_rfl) (by kernel_rfl) (by exact fun _ _ _ h => h) (Or.inl ⟨by rfl, ?_⟩) hHeld ?_
        rotate_left
        · intro wq hSw; (try dsimp only at hSw); go_simp; (try with_reducible rfl)
        rotate_left
        try simp only [Act.put, List.setIfInBounds_toArray, List.set_cons_zero, List.set_cons_succ]
        refine wpAnyH_ready (rs := [7]) (by kernel_rfl) (by simp) (AllReadyH.cons rfl (fun K hK => ?_) AllReadyH.nil)
        go_simp
        refine (HBi.out _ hHeld.2).mono ?_
        rintro e wN ⟨rfl, rfl⟩
        refine hK.out _ _ hHeld (fun _ => ?_)
        clear hK K
        try simp only [Act.put, List.setIfInBounds_toArray, List.set_cons_zero, List.set_cons_succ]
        refine wpAnyH_take (i := 8) (v := ?_) (by simp only [List.getElem?_toArray, List.getElem?_cons_succ, List.getElem?_cons_zero, Option.some.injEq]; rfl) (by kernel_rfl) (by kernel_rfl) (by kernel_rfl) (by exact fun _ _ _ h => h) (Or.inl ⟨by rfl, ?_⟩) hHeld ?_
        rotate_left
        · intro wq hSw; (try dsimp only at hSw); go_simp; (try with_reducible rfl)
        rotate_left
        try simp only [Act.put, List.setIfInBounds_toArray, List.set_cons_zero, List.set_cons_succ]
        refine wpAnyH_take (i := 9) (v := ?_) (by simp only [List.getElem?_toArray, List.getElem?_cons_succ, List.getElem?_cons_zero, Option.some.injEq]; rfl) (by kernel_rfl) (by kernel_rfl) (by kernel_rfl) (by exact fun _ _ _ h => h) (Or.inl ⟨by rfl, ?_⟩) hHeld ?_
        rotate_left
        · intro wq hSw; (try dsimp only at hSw); go_simp; (try with_reducible rfl)
        rotate_left
        try simp only [Act.put, List.setIfInBounds_toArray, List.set_cons_zero, List.set_cons_succ]
        refine wpAnyH_take (i := 10) (v := ?_) (by simp only [List.getElem?_toArray, List.getElem?_cons_succ, List.getElem?_cons_zero, Option.some.injEq]; rfl) (by kernel_rfl) (by kernel_rfl) (by kernel_rfl) (by exact fun _ _ _ h => h) (Or.inl ⟨by rfl, ?_⟩) hHeld ?_
        rotate_left
        · intro wq hSw; (try dsimp only at hSw); go_simp; (try with_reducible rfl)
        rotate_left
        try simp only [Act.put, List.setIfInBounds_toArray, List.set_cons_zero, List.set_cons_succ]
        refine wpAnyH_take (i := 11) (v := ?_) (by simp only [List.getElem?_toArray, List.getElem?_cons_succ, List.getElem?_cons_zero, Option.some.injEq]; rfl) (by kernel_rfl) (by kernel_rfl) (by kernel_rfl) (by exact fun _ _ _ h => h) (Or.inl ⟨by rfl, ?_⟩) hHeld ?_
        rotate_left
        · intro wq hSw; (try dsimp only at hSw); go_simp; (try with_reducible rfl)
        rotate_left
        try simp only [Act.put, List.setIfInBounds_toArray, List.set_cons_zero, List.set_cons_succ]
        refine wpAnyH_take (i := 12) (v := ?_) (by simp only [List.getElem?_toArray, List.getElem?_cons_succ, List.getElem?_cons_zero, Option.some.injEq]; rfl) (by kernel_rfl) (by kernel_rfl) (by kernel_rfl) (by exact fun _ _ _ h => h) (Or.inl ⟨by rfl, ?_⟩) hHeld ?_
        rotate_left
        · intro wq hSw; (try dsimp only at hSw); go_simp; (try with_reducible rfl)
        rotate_left
        try simp only [Act.put, List.setIfInBounds_toArray, List.set_cons_zero, List.set_cons_succ]
        refine wpAnyH_take (i := 13) (v := ?_) (by simp only [List.getElem?_toArray, List.getElem?_cons_succ, List.getElem?_cons_zero, Option.some.injEq]; rfl) (by kernel_rfl) (by kernel_rfl) (by kernel_rfl) (by exact fun _ _ _ h => h) (Or.inl ⟨by rfl, ?_⟩) hHeld ?_
        rotate_left
        · intro wq hSw; (try dsimp only at hSw); go_simp; (try with_reducible rfl)
        rotate_left
        try simp only [Act.put, List.setIfInBounds_toArray, List.set_cons_zero, List.set_cons_succ]
        refine wpAnyH_take (i := 14) (v := ?_) (by simp only [List.getElem?_toArray, List.getElem?_cons_succ, List.getElem?_cons_zero, Option.some.injEq]; rfl) (by kernel_rfl) (by kernel_rfl) (by kernel_rfl) (by exact fun _ _ _ h => h) (Or.inl ⟨by rfl, ?_⟩) hHeld ?_
        rotate_left
        · intro wq hSw; (try dsimp only at hSw); go_simp; (try with_reducible rfl)
        rotate_left
        try simp only [Act.put, List.setIfInBounds_toArray, List.set_cons_zero, List.set_cons_succ]
        refine wpAnyH_take (i := 15) (v := ?_) (by simp only [List.getElem?_toArray, List.getElem?_cons_succ, List.getElem?_cons_zero, Option.some.injEq]; rfl) (by kernel_rfl) (by kernel_rfl) (by kernel_rfl) (by exact fun _ _ _ h => h) (Or.inl ⟨by rfl, ?_⟩) hHeld ?_
        rotate_left
        · intro wq hSw; (try dsimp only at hSw); go_simp; (try with_reducible rfl)
        rotate_left
        try simp only [Act.put, List.setIfInBounds_toArray, List.set_cons_zero, List.set_cons_succ]
        refine wpAnyH_take (i := 16) (v := ?_) (by simp only [List.getElem?_toArray, List.getElem?_cons_succ, List.getElem?_cons_zero, Option.some.injEq]; rfl) (by kernel_rfl) (by kernel_rfl) (by kernel_rfl) (by exact fun _ _ _ h => h) (Or.inl ⟨by rfl, ?_⟩) hHeld ?_
        rotate_left
        · intro wq hSw; (try dsimp only at hSw); go_simp; (try with_reducible rfl)
        rotate_left
        try simp only [Act.put, List.setIfInBounds_toArray, List.set_cons_zero, List.set_cons_succ]
        refine wpAnyH_take (i := 17) (v := ?_) (by simp only [List.getElem?_toArray, List.getElem?_cons_succ, List.getElem?_cons_zero, Option.some.injEq]; rfl) (by kernel_rfl) (by kernel_rfl) (by kernel_rfl) (by exact fun _ _ _ h => h) (Or.inl ⟨by rfl, ?_⟩) hHeld ?_
        rotate_left
        · intro wq hSw; (try dsimp only at hSw); go_simp; (try with_reducible rfl)
        rotate_left
        try simp only [Act.put, List.setIfInBounds_toArray, List.set_cons_zero, List.set_cons_succ]
        refine wpAnyH_take (i := 18) (v := ?_) (by simp only [List.getElem?_toArray, List.getElem?_cons_succ, List.getElem?_cons_zero, Option.some.injEq]; rfl) (by kernel_rfl) (by kernel_rfl) (by kernel_rfl) (by exact fun _ _ _ h => h) (Or.inl ⟨by rfl, ?_⟩) hHeld ?_
        rotate_left
        · intro wq hSw; (try dsimp only at hSw); go_simp; (try with_reducible rfl)
        rotate_left
        try simp only [Act.put, List.setIfInBounds_toArray, List.set_cons_zero, List.set_cons_succ]
        refine wpAnyH_take (i := 19) (v := ?_) (by simp only [List.getElem?_toArray, List.getElem?_cons_succ, List.getElem?_cons_zero, Option.some.injEq]; rfl) (by kernel_rfl) (by kernel_rfl) (by kernel_rfl) (by exact fun _ _ _ h => h) (Or.inl ⟨by rfl, ?_⟩) hHeld ?_
        rotate_left
        · intro wq hSw; (try dsimp only at hSw); go_simp; (try with_reducible rfl)
        rotate_left
        try simp only [Act.put, List.setIfInBounds_toArray, List.set_cons_zero, List.set_cons_succ]
        refine wpAnyH_take (i := 20) (v := ?_) (by simp only [List.getElem?_toArray, List.getElem?_cons_succ, List.getElem?_cons_zero, Option.some.injEq]; rfl) (by kernel_rfl) (by kernel_rfl) (by kernel_rfl) (by exact fun _ _ _ h => h) (Or.inl ⟨by rfl, ?_⟩) hHeld ?_
        rotate_left
        · intro wq hSw; (try dsimp only at hSw); go_simp; (try with_reducible rfl)
        rotate_left
        try simp only [Act.put, List.setIfInBounds_toArray, List.set_cons_zero, List.set_cons_succ]
        refine wpAnyH_take (i := 23) (v := ?_) (by simp only [List.getElem?_toArray, List.getElem?_cons_succ, List.getElem?_cons_zero, Option.some.injEq]; rfl) (by kernel_rfl) (by kernel_rfl) (by kernel_rfl) (by exact fun _ _ _ h => h) (Or.inl ⟨by rfl, ?_⟩) hHeld ?_
        rotate_left
        · intro wq hSw; (try dsimp only at hSw); go_simp; (try with_reducible rfl)
        rotate_left
        try simp only [Act.put, List.setIfInBounds_toArray, List.set_cons_zero, List.set_cons_succ]
        refine wpAnyH_ready (rs := [21]) (by kernel_rfl) (by simp) (AllReadyH.cons rfl (fun K hK => ?_) AllReadyH.nil)
        go_simp
        refine (HBi.out _ hHeld.2).mono ?_
        rintro e wN ⟨rfl, rfl⟩
        refine hK.out _ _ hHeld (fun _ => ?_)
        clear hK K
        try simp only [Act.put, List.setIfInBounds_toArray, List.set_cons_zero, List.set_cons_succ]
        refine wpAnyH_take (i := 22) (v := ?_) (by simp only [List.getElem?_toArray, List.getElem?_cons_succ, List.getElem?_cons_zero, Option.some.injEq]; rfl) (by kernel_rfl) (by kernel_rfl) (by kernel_rfl) (by exact fun _ _ _ h => h) (Or.inl ⟨by rfl, ?_⟩) hHeld ?_
        rotate_left
        · intro wq hSw; (try dsimp only at hSw); go_simp; (try with_reducible rfl)
        rotate_left
        try simp only [Act.put, List.setIfInBounds_toArray, List.set_cons_zero, List.set_cons_succ]
        refine wpAnyH_ready (rs := [24]) (by kernel_rfl) (by simp) (AllReadyH.cons rfl (fun K hK => ?_) AllReadyH.nil)
        go_simp
        refine (HIm.out _ hHeld.2).mono ?_
        rintro e wI ⟨uc, uj, ud, un, rfl, hio, hbI⟩
        obtain ⟨a1, n1, rfl, -⟩ := own_sl hio.c
        obtain ⟨a2, n2, rfl, -⟩ := own_sl hio.j
        obtain ⟨a3, n3, rfl, -⟩ := own_sl hio.d
        obtain ⟨a4, n4, rfl, -⟩ := own_sl hio.n
        have hHeld := HKp.out _ _ hbI hHeld
        refine hK.out _ _ hHeld (fun _ => ?_)
        clear hK K
        try simp only [Act.put, List.setIfInBounds_toArray, List.set_cons_zero, List.set_cons_succ]
        refine wpAnyH_take (i := 25) (v := ?_) (by simp only [List.getElem?_toArray, List.getElem?_cons_succ, List.getElem?_cons_zero, Option.some.injEq]; rfl) (by kernel_rfl) (by kernel_rfl) (by kernel_rfl) (by exact fun _ _ _ h => h) (Or.inl ⟨by rfl, ?_⟩) hHeld ?_
        rotate_left
        · intro wq hSw; (try dsimp only at hSw); go_simp; (try with_reducible rfl)
        rotate_left
        try simp only [Act.put, List.setIfInBounds_toArray, List.set_cons_zero, List.set_cons_succ]
        refine wpAnyH_take (i := 26) (v := ?_) (by simp only [List.getElem?_toArray, List.getElem?_cons_succ, List.getElem?_cons_zero, Option.some.injEq]; rfl) (by kernel_rfl) (by kernel_rfl) (by kernel_rfl) (by exact fun _ _ _ h => h) (Or.inl ⟨by rfl, ?_⟩) hHeld ?_
        rotate_left
        · intro wq hSw; (try dsimp only at hSw); go_simp; (try with_reducible rfl)
        rotate_left
        try simp only [Act.put, List.setIfInBounds_toArray, List.set_cons_zero, List.set_cons_succ]
        refine wpAnyH_take (i := 27) (v := ?_) (by simp only [List.getElem?_toArray, List.getElem?_cons_succ, List.getElem?_cons_zero, Option.some.injEq]; rfl) (by kernel_rfl) (by kernel_rfl) (by kernel_rfl) (by exact fun _ _ _ h => h) (Or.inl ⟨by rfl, ?_⟩) hHeld ?_
        rotate_left
        · intro wq hSw; (try dsimp only at hSw); go_simp; (try with_reducible rfl)
        rotate_left
        try simp only [Act.put, List.setIfInBounds_toArray, List.set_cons_zero, List.set_cons_succ]
        refine wpAnyH_take (i := 28) (v := ?_) (by simp only [List.getElem?_toArray, List.getElem?_cons_succ, List.getElem?_cons_zero, Option.some.injEq]; rfl) (by kernel_rfl) (by kernel_rfl) (by kernel_rfl) (by exact fun _ _ _ h => h) (Or.inl ⟨by rfl, ?_⟩) hHeld ?_
        rotate_left
        · intro wq hSw; (try dsimp only at hSw); go_simp; (try with_reducible rfl)
        rotate_left
        try simp only [Act.put, List.setIfInBounds_toArray, List.set_cons_zero, List.set_cons_succ]
        refine wpAnyH_take (i := 29) (v := ?_) (by simp only [List.getElem?_toArray, List.getElem?_cons_succ, List.getElem?_cons_zero, Option.some.injEq]; rfl) (by kernel_rfl) (by kernel_rfl) (by kernel_rfl) (by exact fun _ _ _ h => h) (Or.inl ⟨by rfl, ?_⟩) hHeld ?_
        rotate_left
        · intro wq hSw; (try dsimp only at hSw); go_simp; (try with_reducible rfl)
        rotate_left
        try simp only [Act.put, List.setIfInBounds_toArray, List.set_cons_zero, List.set_cons_succ]
        refine wpAnyH_take (i := 30) (v := undef) (by simp only [List.getElem?_toArray, List.getElem?_cons_succ, List.getElem?_cons_zero, Option.some.injEq]; rfl) (by kernel_rfl) (by kernel_rfl) (by kernel_rfl) (by exact fun _ _ _ h => h) (Or.inr ⟨by rfl, rfl⟩) hHeld ?_
        try simp only [Act.put, List.setIfInBounds_toArray, List.set_cons_zero, List.set_cons_succ]
        refine wpAnyH_take (i := 31) (v := undef) (by simp only [List.getElem?_toArray, List.getElem?_cons_succ, List.getElem?_cons_zero, Option.some.injEq]; rfl) (by kernel_rfl) (by kernel_rfl) (by kernel_rfl) (by exact fun _ _ _ h => h) (Or.inr ⟨by rfl, rfl⟩) hHeld ?_
        try simp only [Act.put, List.setIfInBounds_toArray, List.set_cons_zero, List.set_cons_succ]
        refine wpAnyH_take (i := 32) (v := undef) (by simp only [List.getElem?_toArray, List.getElem?_cons_succ, List.getElem?_cons_zero, Option.some.injEq]; rfl) (by kernel_rfl) (by kernel_rfl) (by kernel_rfl) (by exact fun _ _ _ h => h) (Or.inr ⟨by rfl, rfl⟩) hHeld ?_
        try simp only [Act.put, List.setIfInBounds_toArray, List.set_cons_zero, List.set_cons_succ]
        refine wpAnyH_take (i := 33) (v := undef) (by simp only [List.getElem?_toArray, List.getElem?_cons_succ, List.getElem?_cons_zero, Option.some.injEq]; rfl) (by kernel_rfl) (by kernel_rfl) (by kernel_rfl) (by exact fun _ _ _ h => h) (Or.inr ⟨by rfl, rfl⟩) hHeld ?_
        try simp only [Act.put, List.setIfInBounds_toArray, List.set_cons_zero, List.set_cons_succ]
        refine wpAnyH_take (i := 34) (v := undef) (by simp only [List.getElem?_toArray, List.getElem?_cons_succ, List.getElem?_cons_zero, Option.some.injEq]; rfl) (by kernel_rfl) (by kernel_rfl) (by kernel_rfl) (by exact fun _ _ _ h => h) (Or.inr ⟨by rfl, rfl⟩) hHeld ?_
        try simp only [Act.put, List.setIfInBounds_toArray, List.set_cons_zero, List.set_cons_succ]
        refine wpAnyH_take (i := 35) (v := ?_) (by simp only [List.getElem?_toArray, List.getElem?_cons_succ, List.getElem?_cons_zero, Option.some.injEq]; rfl) (by kernel_rfl) (by kernel_rfl) (by kernel_rfl) (by exact fun _ _ _ h => h) (Or.inl ⟨by rfl, ?_⟩) hHeld ?_
        rotate_left
        · intro wq hSw; (try dsimp only at hSw); go_simp; (try with_reducible rfl)
        rotate_left
        try simp only [Act.put, List.setIfInBounds_toArray, List.set_cons_zero, List.set_cons_succ]
        refine wpAnyH_done (by kernel_rfl) ?_ _
        have HB2 := Lib.hid (Bel.tr HB0.out hHeld.2)
        go_wp2_with fail
        go_ret
        exact ⟨rfl, HB2.out⟩
      · by_cases c4 : Z < s.sp
        · have hff : ff = false := F4.out c4
          subst hff
          have hc3 : ¬ ((s.sp : Nat) : Int) < (Y : Int) := by omega
          have hc4 : (Z : Int) < ((s.sp : Nat) : Int) := by omega
          clear hY hZ
          go_enter Tryz.func9, Tryz.ntmps9
          go_wp2_with fail
          rw [← hW0]
          clear hW0
          first | (go_region_held3 (fun w' => (w'.cell? ⟨w.heap.size, 0, none⟩ = some (.int .u8 s.life) ∧ w'.cell? ⟨w.heap.size, 2, none⟩ = some (.int .u32 s.sp) ∧ w'.cell? ⟨w.heap.size, 4, none⟩ = some (.slice ad s.data.length cd)) ∧ Below W0.heap.size W0 w')
          (first | assumption | exact H00.out | exact HKp.out _ _ hbI (by assumption))
          (first
            | (go_at_call 20; refine (HNo.out _ ?_).mono ?_; exact (by assumption : (_ ∧ _) ∧ Below W0.heap.size W0 _).2; rintro e wN ⟨rfl, rfl⟩)
            | (go_at_call 21; refine (HBi.out _ ?_).mono ?_; exact (by assumption : (_ ∧ _) ∧ Below W0.heap.size W0 _).2; rintro e wN ⟨rfl, rfl⟩)
            | (go_at_call 23; refine (HTo.out _ ?_).mono ?_; exact (by assumption : (_ ∧ _) ∧ Below W0.heap.size W0 _).2; rintro e wN ⟨rfl, rfl⟩)
            | (go_at_call 22; refine (HIm.out _ ?_).mono ?_; exact (by assumption : (_ ∧ _) ∧ Below W0.heap.size W0 _).2; rintro e wI ⟨uc, uj, ud, un, rfl, hio, hbI⟩; obtain ⟨a1, n1, rfl, -⟩ := own_sl hio.c; obtain ⟨a2, n2, rfl, -⟩ := own_sl hio.j; obtain ⟨a3, n3, rfl, -⟩ := own_sl hio.d; obtain ⟨a4, n4, rfl, -⟩ := own_sl hio.n))) | fail "held"
          all_goals
            have HB2 := Lib.hid (Bel.tr HB0.out (by assumption : (_ ∧ _) ∧ Below W0.heap.size W0 _).2)
            go_wp2_with fail
            go_ret
            exact ⟨rfl, HB2.out⟩
        · have hc3 : ¬ ((s.sp : Nat) : Int) < (Y : Int) := by omega
          have hc4 : ¬ (Z : Int) < ((s.sp : Nat) : Int) := by omega
          have FG2 := Lib.hid (FG.out C1.out C2.out (by omega) (by omega))
          clear hY hZ
          go_enter Tryz.func9, Tryz.ntmps9
          go_wp2_with fail
          rw [← hW0]
          clear hW0
          first | (go_region_held3 (fun w' => (w'.cell? ⟨w.heap.size, 0, none⟩ = some (.int .u8 s.life) ∧ w'.cell? ⟨w.heap.size, 2, none⟩ = some (.int .u32 s.sp) ∧ w'.cell? ⟨w.heap.size, 4, none⟩ = some (.slice ad s.data.length cd)) ∧ Below W0.heap.size W0 w')
          (first | assumption | exact H00.out | exact HKp.out _ _ hbI (by assumption))
          (first
            | (go_at_call 20; refine (HNo.out _ ?_).mono ?_; exact (by assumption : (_ ∧ _) ∧ Below W0.heap.size W0 _).2; rintro e wN ⟨rfl, rfl⟩)
            | (go_at_call 21; refine (HBi.out _ ?_).mono ?_; exact (by assumption : (_ ∧ _) ∧ Below W0.heap.size W0 _).2; rintro e wN ⟨rfl, rfl⟩)
            | (go_at_call 23; refine (HTo.out _ ?_).mono ?_; exact (by assumption : (_ ∧ _) ∧ Below W0.heap.size W0 _).2; rintro e wN ⟨rfl, rfl⟩)
            | (go_at_call 22; refine (HIm.out _ ?_).mono ?_; exact (by assumption : (_ ∧ _) ∧ Below W0.heap.size W0 _).2; rintro e wI ⟨uc, uj, ud, un, rfl, hio, hbI⟩; obtain ⟨a1, n1, rfl, -⟩ := own_sl hio.c; obtain ⟨a2, n2, rfl, -⟩ := own_sl hio.j; obtain ⟨a3, n3, rfl, -⟩ := own_sl hio.d; obtain ⟨a4, n4, rfl, -⟩ := own_sl hio.n))) | fail "held"
          have HB1 := Lib.hid (by assumption : (_ ∧ _) ∧ Below W0.heap.size W0 _).2
          have HBw := Lib.hid (Bel.tr HB0.out HB1.out)
          obtain ⟨d0, d1, d2, d3, d4, d5, d6⟩ := HS0.out.below HB1.out
          have HR1 := Lib.hid (HR.out _ HB1.out)
          rename_i wE
          have QT := Lib.hid (quiet_at fun W hW => HTo.out W (Bel.tr HB1.out hW))
          clear HR HIm HBi HNo Q140 Q112 Q141 T2 T4 H00 hc3 hc4 HTo
          have hne1 : Nonempty (BelW wI) := ⟨⟨wI, Below.refl _ _⟩⟩
          have HAt := Lib.hid (fun W (hW : Below wI.heap.size wI W) => (HM.out.below (Bel.tr HB1.out hW)).instr s.pc hpc)
          have HPr := Lib.hid (fun W (hW : Below wI.heap.size wI W) => (HM.out.below (Bel.tr HB1.out hW)).proc s.pc hpc)
          have HDe := Lib.hid (fun W (hW : Below wI.heap.size wI W) => (HM.out.below (Bel.tr HB1.out hW)).depth s.pc hpc)
          generalize s.life = life at *
          by_cases v0 : s.value = 0
          · have hv1 : (((s.value : Nat) : Int) == 0) = true := by simp; omega
            have hv2 : (((s.value : Nat) : Int) != 0) = false := by simp; omega
            by_cases f0 : s.fault = 0
            · have hf1 : (((s.fault : Nat) : Int) == 0) = true := by simp; omega
              have hf2 : (((s.fault : Nat) : Int) != 0) = false := by simp; omega
              have HG := Lib.hid (FG2.out (fun _ => v0) (fun _ => f0))
              have hg1 : ¬ (1 : Int) ≤ ((s.fault : Nat) : Int) := by omega
              rcases (by omega : life = 0 ∨ life = 1 ∨ life = 2 ∨ life = 3 ∨ 4 ≤ life) with rfl | rfl | rfl | rfl | hl
              · have T1 := BelW.cell d1
                have T2 := BelW.cell d2
                have T3 := BelW.cell d3
                by_cases p0 : s.pc = 0
                · have hp1 : (((s.pc : Nat) : Int) == 0) = true := by simp; omega
                  by_cases z0 : s.sp = Z
                  · have hz1 : (((s.sp : Nat) : Int) == (Z : Int)) = true := by simp; omega
                    by_cases o0 : s.ops.length = 0
                    · have ho1 : (((s.ops.length : Nat) : Int) == 0) = true := by rw [o0]; rfl
                      go_wp2_with fail
                      refine wp_region_quietB hmx (by kernel_rfl) ?_
                      repeat (go_big_quiet_step (first | (go_at_call 23; exact QT.out _)))
                      refine wpQuiet_nil ?_
                      rintro w5 ⟨⟨w6, hb6⟩, rfl⟩
                      have HB6 := Lib.hid (Bel.tr HBw.out hb6)
                      clear hb6
                      go_wp2_with fail
                      go_ret
                      exact ⟨ret_boolE (HG.out.trans (by simp [*])).symm, HB6.out⟩
                    · have ho1 : (((s.ops.length : Nat) : Int) == 0) = false := int_beq_ne o0
                      go_wp2_with fail
                      refine wp_region_quietB hmx (by kernel_rfl) ?_
                      repeat (go_big_quiet_step (first | (go_at_call 23; exact QT.out _)))
                      refine wpQuiet_nil ?_
                      rintro w5 ⟨⟨w6, hb6⟩, rfl⟩
                      have HB6 := Lib.hid (Bel.tr HBw.out hb6)
                      clear hb6
                      go_wp2_with fail
                      go_ret
                      exact ⟨ret_boolE (HG.out.trans (by simp [*])).symm, HB6.out⟩
                  · have hz1 := int_beq_ne z0
                    go_wp2_with fail
                    refine wp_region_quietB hmx (by kernel_rfl) ?_
                    repeat (go_big_quiet_step (first | (go_at_call 23; exact QT.out _)))
                    refine wpQuiet_nil ?_
                    rintro w5 ⟨⟨w6, hb6⟩, rfl⟩
                    have HB6 := Lib.hid (Bel.tr HBw.out hb6)
                    clear hb6
                    go_wp2_with fail
                    go_ret
                    exact ⟨ret_boolE (HG.out.trans (by simp [*])).symm, HB6.out⟩
                · have hp1 : (((s.pc : Nat) : Int) == 0) = false := int_beq_ne p0
                  go_wp2_with fail
                  refine wp_region_quietB hmx (by kernel_rfl) ?_
                  repeat (go_big_quiet_step (first | (go_at_call 23; exact QT.out _)))
                  refine wpQuiet_nil ?_
                  rintro w5 ⟨⟨w6, hb6⟩, rfl⟩
                  have HB6 := Lib.hid (Bel.tr HBw.out hb6)
                  clear hb6
                  go_wp2_with fail
                  go_ret
                  exact ⟨ret_boolE (HG.out.trans (by simp [*])).symm, HB6.out⟩
              · go_wp2_with fail
                refine HR1.out.mono ?_
                rintro e w5 ⟨rfl, hb5⟩
                go_wp2_with fail
                go_ret
                exact ⟨ret_boolE (HG.out.trans (by simp)).symm, Bel.tr HBw.out hb5⟩
              · have HA1 := Lib.hid (HAt.out wI (Below.refl _ _))
                unfold instrV at HA1
                unfold prcV at HPr
                go_wp2_with fail
                refine HA1.out.mono ?_
                rintro e w5 ⟨rfl, hb5⟩
                have HP1 := Lib.hid (fun o => HPr.out (w5.alloc o) (Bel.al hb5 o))
                obtain ⟨w5a, hw5a⟩ : ∃ x, x = w5.alloc (.cells #[.int .u8 (opAt m.code s.pc), .int .u32 (argAt m.code s.pc)] 62) := ⟨_, rfl⟩
                have HB5 := Lib.hid (show Below wI.heap.size wI w5a from by rw [hw5a]; exact Bel.al hb5 _)
                have H5 := Lib.hid (show w5a.heap[w5.heap.size]? = some (.cells #[.int .u8 (opAt m.code s.pc), .int .u32 (argAt m.code s.pc)] 62 (0, 0)) from by rw [hw5a]; exact heap_alloc_new _ _)
                obtain ⟨e1, e2, e3, e4, e5, e6, e7⟩ := HS0.out.below (Bel.tr HB1.out hb5)
                have hlt5 : w.heap.size < w5.heap.size := World.block_lt_of_cell? _ _ e1
                have HP5 := Lib.hid (HPr.out w5a HB5.out)
                clear hb5 HP1
                go_wp2_with fail
                rw [← hw5a]
                clear hw5a
                refine HP5.out.mono ?_
                rintro e w6 ⟨rfl, hb6⟩
                obtain ⟨w7, hw7⟩ : ∃ x, x = w6.alloc (.cells #[.int .u32 (prcN m s.pc).1, .int .u32 (prcN m s.pc).2.1, .int .u32 (prcN m s.pc).2.2, .int .i64 (needN m s.pc)] 71) := ⟨_, rfl⟩
                have HB67 := Lib.hid (show Below w5a.heap.size w5a w7 from by rw [hw7]; exact Bel.al hb6 _)
                have HB7 := Lib.hid (Bel.tr HB5.out HB67.out)
                have H7 := Lib.hid (show w7.heap[w6.heap.size]? = some (.cells #[.int .u32 (prcN m s.pc).1, .int .u32 (prcN m s.pc).2.1, .int .u32 (prcN m s.pc).2.2, .int .i64 (needN m s.pc)] 71 (0, 0)) from by rw [hw7]; exact heap_alloc_new _ _)
                clear e1 e2 e3 e4 e5 e6 e7
                obtain ⟨e1, e2, e3, e4, e5, e6, e7⟩ := HS0.out.below (Bel.tr HB1.out (Bel.tr HB5.out hb6))
                have hlt6 : w.heap.size < w6.heap.size := World.block_lt_of_cell? _ _ e1
                clear hb6
                have HD7 := Lib.hid (HDe.out w7 HB7.out)
                have Hbd := depth_bd m s.pc
                have Hnd := need_bd m s.pc
                have HG2 := Lib.hid (show ff = (decide (0 ≤ depthAt (flowN m.code m.js).1 s.pc) && (decide (opAt m.code s.pc = 4) && decide ((s.ops.length : Int) + needN m s.pc ≤ 64))) from HG.out.trans (by rw [if_neg (by decide), if_neg (by decide), if_neg (by decide), if_pos (by first | trivial | rfl), mo_depth, mo_need HM.out.k]; rfl))
                have h50 := World.block_lt_of_cell? _ _ (cell_of_row w5a w5.heap.size 0 _ _ _ H5.out)
                go_wp2_with fail
                rw [← hw7]
                clear hw7
                refine HD7.out.mono ?_
                rintro e w8 ⟨rfl, hb8⟩
                have HB8 := Lib.hid (Bel.tr HB7.out hb8)
                have c50 := ((Bel.tr HB67.out hb8).cell (p := ⟨w5.heap.size, 0, none⟩) h50).trans (cell_of_row w5a w5.heap.size 0 _ _ _ H5.out)
                have c73 := (hb8.cell (p := ⟨w6.heap.size, 3, none⟩) (World.block_lt_of_cell? _ _ (cell_of_row w7 w6.heap.size 3 _ _ _ H7.out))).trans (cell_of_row w7 w6.heap.size 3 _ _ _ H7.out)
                clear e1 e2 e3 e4 e5 e6 e7 hb8
                obtain ⟨e1, e2, e3, e4, e5, e6, e7⟩ := HS0.out.below (Bel.tr HB1.out HB8.out)
                generalize depthAt (flowN m.code m.js).1 s.pc = dd at *
                generalize needN m s.pc = nd at *
                generalize opAt m.code s.pc = oa at *
                by_cases q1 : 0 ≤ dd
                · by_cases q2 : oa = 4
                  · have q3 : ((oa : Nat) : Int) == 4 := by simp; omega
                    have hwn : IntKind.i64.wrap ((s.ops.length : Int) + nd) = (s.ops.length : Int) + nd := IntWalk.i64_in _ (by omega)
                    go_wp2_with fail
                    go_ret
                    exact ⟨ret_boolE (HG2.out.trans (by simp [q1, q2])).symm, Bel.tr HBw.out HB8.out⟩
                  · have q3 : (((oa : Nat) : Int) == 4) = false := by simp; omega
                    go_wp2_with fail
                    go_ret
                    exact ⟨ret_boolE (HG2.out.trans (by simp [q1, q2])).symm, Bel.tr HBw.out HB8.out⟩
                · go_wp2_with fail
                  go_ret
                  exact ⟨ret_boolE (HG2.out.trans (by simp; omega)).symm, Bel.tr HBw.out HB8.out⟩
              · go_wp2_with fail
                go_ret
                exact ⟨ret_boolE (HG.out.trans (by simp [f0])).symm, HBw.out⟩
              · have hl0 : (((life : Nat) : Int) == 0) = false := by simp; omega
                have hl1 : (((life : Nat) : Int) == 1) = false := by simp; omega
                have hl2 : (((life : Nat) : Int) == 2) = false := by simp; omega
                have hl3 : (((life : Nat) : Int) == 3) = false := by simp; omega
                have hl4 : (((life : Nat) : Int) != 2) = true := by simp; omega
                have hl5 : (((life : Nat) : Int) != 3) = true := by simp; omega
                go_wp2_with fail
                go_ret
                exact ⟨ret_boolE (HG.out.trans (by simp [show life ≠ 0 by omega, show life ≠ 1 by omega, show life ≠ 2 by omega, show life ≠ 3 by omega])).symm, HBw.out⟩
            · have hf1 : (((s.fault : Nat) : Int) == 0) = false := by simp; omega
              have hf2 : (((s.fault : Nat) : Int) != 0) = true := by simp; omega
              rcases (by omega : life = 3 ∨ life ≠ 3) with rfl | hl
              · have HG := Lib.hid (FG2.out (fun _ => v0) (fun h => absurd rfl h))
                have hg1 : (1 : Int) ≤ ((s.fault : Nat) : Int) := by omega
                by_cases f8 : s.fault ≤ 8
                · have hg2 : ((s.fault : Nat) : Int) ≤ 8 := by omega
                  go_wp2_with fail
                  refine HR1.out.mono ?_
                  rintro e w5 ⟨rfl, hb5⟩
                  go_wp2_with fail
                  go_ret
                  exact ⟨ret_boolE (HG.out.trans (by simp [f8, show 1 ≤ s.fault by omega])).symm, Bel.tr HBw.out hb5⟩
                · have hg2 : ¬ ((s.fault : Nat) : Int) ≤ 8 := by omega
                  go_wp2_with fail
                  go_ret
                  exact ⟨ret_boolE (HG.out.trans (by simp [f8])).symm, HBw.out⟩
              · have hl2 : (((life : Nat) : Int) == 3) = false := by simp; omega
                have hl3 : (((life : Nat) : Int) != 3) = true := by simp; omega
                rcases (by omega : life = 2 ∨ life ≠ 2) with rfl | hq
                · go_wp2_with fail
                  go_ret
                  exact ⟨ret_boolE (F6.out hl f0).symm, HBw.out⟩
                · have hq2 : (((life : Nat) : Int) == 2) = false := by simp; omega
                  have hq3 : (((life : Nat) : Int) != 2) = true := by simp; omega
                  go_wp2_with fail
                  go_ret
                  exact ⟨ret_boolE (F6.out hl f0).symm, HBw.out⟩
          · have hv1 : (((s.value : Nat) : Int) == 0) = false := by simp; omega
            have hv2 : (((s.value : Nat) : Int) != 0) = true := by simp; omega
            rcases (by omega : life = 2 ∨ life ≠ 2) with rfl | hl
            · by_cases f0 : s.fault = 0
              · have hf1 : (((s.fault : Nat) : Int) == 0) = true := by simp; omega
                have hf2 : (((s.fault : Nat) : Int) != 0) = false := by simp; omega
                have HG := Lib.hid (FG2.out (fun h => absurd rfl h) (fun _ => f0))
                have HA1 := Lib.hid (HAt.out wI (Below.refl _ _))
                unfold instrV at HA1
                unfold prcV at HPr
                go_wp2_with fail
                refine HA1.out.mono ?_
                rintro e w5 ⟨rfl, hb5⟩
                have HP1 := Lib.hid (fun o => HPr.out (w5.alloc o) (Bel.al hb5 o))
                obtain ⟨w5a, hw5a⟩ : ∃ x, x = w5.alloc (.cells #[.int .u8 (opAt m.code s.pc), .int .u32 (argAt m.code s.pc)] 62) := ⟨_, rfl⟩
                have HB5 := Lib.hid (show Below wI.heap.size wI w5a from by rw [hw5a]; exact Bel.al hb5 _)
                have H5 := Lib.hid (show w5a.heap[w5.heap.size]? = some (.cells #[.int .u8 (opAt m.code s.pc), .int .u32 (argAt m.code s.pc)] 62 (0, 0)) from by rw [hw5a]; exact heap_alloc_new _ _)
                obtain ⟨e1, e2, e3, e4, e5, e6, e7⟩ := HS0.out.below (Bel.tr HB1.out hb5)
                have hlt5 : w.heap.size < w5.heap.size := World.block_lt_of_cell? _ _ e1
                have HP5 := Lib.hid (HPr.out w5a HB5.out)
                clear hb5 HP1
                go_wp2_with fail
                rw [← hw5a]
                clear hw5a
                refine HP5.out.mono ?_
                rintro e w6 ⟨rfl, hb6⟩
                obtain ⟨w7, hw7⟩ : ∃ x, x = w6.alloc (.cells #[.int .u32 (prcN m s.pc).1, .int .u32 (prcN m s.pc).2.1, .int .u32 (prcN m s.pc).2.2, .int .i64 (needN m s.pc)] 71) := ⟨_, rfl⟩
                have HB67 := Lib.hid (show Below w5a.heap.size w5a w7 from by rw [hw7]; exact Bel.al hb6 _)
                have HB7 := Lib.hid (Bel.tr HB5.out HB67.out)
                have H7 := Lib.hid (show w7.heap[w6.heap.size]? = some (.cells #[.int .u32 (prcN m s.pc).1, .int .u32 (prcN m s.pc).2.1, .int .u32 (prcN m s.pc).2.2, .int .i64 (needN m s.pc)] 71 (0, 0)) from by rw [hw7]; exact heap_alloc_new _ _)
                clear e1 e2 e3 e4 e5 e6 e7
                obtain ⟨e1, e2, e3, e4, e5, e6, e7⟩ := HS0.out.below (Bel.tr HB1.out (Bel.tr HB5.out hb6))
                have hlt6 : w.heap.size < w6.heap.size := World.block_lt_of_cell? _ _ e1
                clear hb6
                have HD7 := Lib.hid (HDe.out w7 HB7.out)
                have Hbd := depth_bd m s.pc
                have Hnd := need_bd m s.pc
                have HG2 := Lib.hid (show ff = (decide (0 ≤ depthAt (flowN m.code m.js).1 s.pc) && (decide (opAt m.code s.pc = 4) && decide ((s.ops.length : Int) + needN m s.pc ≤ 64))) from HG.out.trans (by rw [if_neg (by decide), if_neg (by decide), if_neg (by decide), if_pos (by first | trivial | rfl), mo_depth, mo_need HM.out.k]; rfl))
                have h50 := World.block_lt_of_cell? _ _ (cell_of_row w5a w5.heap.size 0 _ _ _ H5.out)
                go_wp2_with fail
                rw [← hw7]
                clear hw7
                refine HD7.out.mono ?_
                rintro e w8 ⟨rfl, hb8⟩
                have HB8 := Lib.hid (Bel.tr HB7.out hb8)
                have c50 := ((Bel.tr HB67.out hb8).cell (p := ⟨w5.heap.size, 0, none⟩) h50).trans (cell_of_row w5a w5.heap.size 0 _ _ _ H5.out)
                have c73 := (hb8.cell (p := ⟨w6.heap.size, 3, none⟩) (World.block_lt_of_cell? _ _ (cell_of_row w7 w6.heap.size 3 _ _ _ H7.out))).trans (cell_of_row w7 w6.heap.size 3 _ _ _ H7.out)
                clear e1 e2 e3 e4 e5 e6 e7 hb8
                obtain ⟨e1, e2, e3, e4, e5, e6, e7⟩ := HS0.out.below (Bel.tr HB1.out HB8.out)
                generalize depthAt (flowN m.code m.js).1 s.pc = dd at *
                generalize needN m s.pc = nd at *
                generalize opAt m.code s.pc = oa at *
                by_cases q1 : 0 ≤ dd
                · by_cases q2 : oa = 4
                  · have q3 : ((oa : Nat) : Int) == 4 := by simp; omega
                    have hwn : IntKind.i64.wrap ((s.ops.length : Int) + nd) = (s.ops.length : Int) + nd := IntWalk.i64_in _ (by omega)
                    go_wp2_with fail
                    go_ret
                    exact ⟨ret_boolE (HG2.out.trans (by simp [q1, q2])).symm, Bel.tr HBw.out HB8.out⟩
                  · have q3 : (((oa : Nat) : Int) == 4) = false := by simp; omega
                    go_wp2_with fail
                    go_ret
                    exact ⟨ret_boolE (HG2.out.trans (by simp [q1, q2])).symm, Bel.tr HBw.out HB8.out⟩
                · go_wp2_with fail
                  go_ret
                  exact ⟨ret_boolE (HG2.out.trans (by simp; omega)).symm, Bel.tr HBw.out HB8.out⟩
              · have hf1 : (((s.fault : Nat) : Int) == 0) = false := by simp; omega
                have hf2 : (((s.fault : Nat) : Int) != 0) = true := by simp; omega
                go_wp2_with fail
                go_ret
                exact ⟨ret_boolE (F6.out (by decide) f0).symm, HBw.out⟩
            · have hl2 : (((life : Nat) : Int) == 2) = false := by simp; omega
              have hl3 : (((life : Nat) : Int) != 2) = true := by simp; omega
              go_wp2_with fail
              go_ret
              exact ⟨ret_boolE (F5.out hl v0).symm, HBw.out⟩
    · have hd2 : (((s.sp : Nat) : Int).tmod 4 == 0) = false := by rw [Int.tmod_eq_emod_of_nonneg (by omega)]; simp; omega
      have hd3 : (((s.sp : Nat) : Int).tmod 4 != 0) = true := by rw [Int.tmod_eq_emod_of_nonneg (by omega)]; simp; omega
      have hd4 : (((s.sp : Nat) : Int) % 4 == 0) = false := by simp; omega
      have hd5 : (((s.sp : Nat) : Int) % 4 != 0) = true := by simp; omega
      have hff : ff = false := F2.out c2
      subst hff
      go_enter Tryz.func9, Tryz.ntmps9
      go_wp2_with fail
      rw [← hW0]
      clear hW0
      refine wp_region_quietB hmx (by kernel_rfl) ?_
      repeat (go_big_quiet_step (first | (go_at_call 20; exact Q140.out _) | (go_at_call 21; exact Q112.out _)))
      refine wpQuiet_nil ?_
      rintro w1 ⟨⟨w2, hb2⟩, rfl⟩
      have HB2 := Lib.hid (Bel.tr HB0.out hb2)
      clear hb2
      go_wp2_with fail
      go_ret
      exact ⟨rfl, HB2.out⟩
  · have hd0 : (((s.data.length : Nat) : Int) == (K : Int)) = false := by simp; omega
    have hd1 : (((s.data.length : Nat) : Int) != (K : Int)) = true := by simp; omega
    have hff : ff = false := F1.out c1
    subst hff
    go_enter Tryz.func9, Tryz.ntmps9
    go_wp2_with fail
    rw [← hW0]
    clear hW0
    refine wp_region_quietB hmx (by kernel_rfl) ?_
    repeat (go_big_quiet_step (first | (go_at_call 20; exact Q140.out _) | (go_at_call 21; exact Q112.out _)))
    refine wpQuiet_nil ?_
    rintro w1 ⟨⟨w2, hb2⟩, rfl⟩
    have HB2 := Lib.hid (Bel.tr HB0.out hb2)
    clear hb2
    go_wp2_with fail
    go_ret
    exact ⟨rfl, HB2.out⟩
theorem leW_shift : ∀ (w x i : Nat), i < w → (leW w x).take (i + 1) = (leW w x).take i ++ [x / 2 ^ (8 * i) % 256]
  | 0, x, i, h => absurd h (Nat.not_lt_zero i)
  | w + 1, x, 0, h => by simp [leW]
  | w + 1, x, i + 1, h => by
    have := leW_shift w (x / 256) i (by omega)
    rw [leW, List.take_succ_cons, this, List.take_succ_cons, List.cons_append, Nat.div_div_eq_div_mul]
    rw [show 256 * 2 ^ (8 * i) = 2 ^ (8 * (i + 1)) from by rw [Nat.mul_add, Nat.pow_add, Nat.mul_comm]]
theorem flatW_succ (w : Nat) (l : List Nat) (k : Nat) (hk : k < l.length) : (l.take (k + 1)).flatMap (leW w) = (l.take k).flatMap (leW w) ++ leW w (l.getD k 0) := by
  rw [List.take_add_one, List.getElem?_eq_getElem hk, List.flatMap_append]
  simp [List.getElem?_eq_getElem hk]
set_option maxRecDepth 100000 in
set_option maxHeartbeats 400000 in
theorem width16_any (w : World) : Calls Tryz.prog 140 #[] w fun e w' => e = .returned (.int .i64 2) ∧ w = w' := by
  have hx : bits BinOp.xor .u16 IntKind.u16.max 0 = 65535 := by kernel_rfl
  go_enter Tryz.func140, Tryz.ntmps140
  go_wp2
  refine wp_loop_rounds 3 ?_
  rw [rounds_succ]
  go_wp2
  rw [rounds_succ]
  go_wp2
  rw [rounds_succ]
  go_wp2
  go_ret
  exact ⟨rfl, rfl⟩
set_option maxRecDepth 100000 in
set_option maxHeartbeats 1000000 in
theorem lay16_any (v : Value) (n : Nat) (xs : List Value) (x : Nat) (hx : x < 65536) (w : World) (hown : w.ownsRow 0 5 1 v n xs) (hn : n + 2 ≤ 140737488355328) :
    Calls Tryz.prog 119 #[v, .int .u16 x] w fun e w' => ∃ v', e = .returned v' ∧ w'.ownsRow 0 5 1 v' (n + 2) (xs ++ encN .u8 (leW 2 x)) ∧ Grew w w' v v' := by
  obtain ⟨i0, hi, hz0, hz1, hz2⟩ := info_parts info5
  go_enter Tryz.func119, Tryz.ntmps119
  go_wp2_with fail
  refine (width16_any _).mono ?_
  rintro e w1 ⟨rfl, rfl⟩
  go_wp2_with fail
  go_loopw [0, 7] (fun u i wr => ∃ k : Nat, k ≤ 2 ∧ i = .int .i64 k ∧ wr.ownsRow 0 5 1 u (n + k) (xs ++ encN .u8 ((leW 2 x).take k)) ∧ Grew w wr v u) (fun _ i _ => 2 - (intOf i).toNat)
  case atStart => exact ⟨0, by omega, rfl, by simpa [encN] using hown, Grew.refl _ _⟩
  case round =>
    obtain ⟨k, hk, rfl, hr, hg⟩ := hrel
    by_cases hlt : k < 2
    · go_wp2_with ((with_reducible refine wpList_append1 (o := ⟨some 18, .call { callee := .builtin .append, args := #[.tmp 10, .tmp 17], argTypes := #[24, 24] }, _, _, _, none⟩) rfl _ _ 24 rfl 5 i0 (.int .u8 0) 1 1 Tryz.underlying24 hi hz0 hz1 hz2 ?_ ?_ _ _ _ hr _ _ ?_ ?_ ?_ ?_ ?_ ?_ ?_); rfl; decide; rfl; rfl; rfl; (simp [Value.oneCell']); (unfold maxLen; omega); omega; intro g c w1 hr1 hg1 hl1)
      go_roundw
      case rel => exact ⟨k + 1, by omega, by go_num, by
        rw [leW_shift 2 x k hlt, encN_append, ← List.append_assoc]
        exact hr1, hg.trans hg1⟩
      case measure => simp [intOf]; omega
    · have : k = 2 := by omega
      subst this
      go_wp2
      go_ret
      rw [List.take_of_length_le (by rw [leW_length]; exact Nat.le_refl _)] at hr
      exact ⟨_, rfl, hr, hg⟩
set_option maxRecDepth 100000 in
set_option maxHeartbeats 1000000 in
theorem put16_any (a : Option Addr) (cap : Nat) (l : List Nat) (hl : ∀ i ∈ l, i < 65536) (w : World) (hr : Reads w 1 (.slice a l.length cap) l.length (encN .u16 l)) (hn : 2 * l.length + 2 ≤ 140737488355328) :
    Calls Tryz.prog 94 #[.slice a l.length cap] w fun e w' => ∃ v', e = .returned v' ∧ w'.ownsRow 0 5 1 v' (2 * l.length) (encN .u8 (l.flatMap (leW 2))) ∧ Grew w w' (.slice none 0 0) v' := by
  obtain ⟨a', cap', hv, hlen, hnc, hm, hnil, hp⟩ := hr
  simp only [Value.slice.injEq, true_and] at hv
  obtain ⟨rfl, rfl⟩ := hv
  have hcell : ∀ k, k < l.length → ∃ b off, a = some ⟨b, off, none⟩ ∧ b < w.heap.size ∧ w.cell? ⟨b, off + k, none⟩ = some (.int .u16 (l.getD k 0 : Nat)) := by
    intro k hk
    obtain ⟨b, off, e, hlt, hc⟩ := hp (by omega)
    exact ⟨b, off, e, hlt, by rw [hc k (by rw [encN_length]; exact hk), encN_at _ l k hk]⟩
  have Hcell := Lib.hid hcell
  clear hp hnil hcell hlen
  go_enter Tryz.func94, Tryz.ntmps94
  go_wp2_with fail
  go_loopw [3, 8] (fun u i wr => ∃ k : Nat, k ≤ l.length ∧ i = .int .i64 k ∧ wr.ownsRow 0 5 1 u (2 * k) (encN .u8 ((l.take k).flatMap (leW 2))) ∧ Grew w wr (.slice none 0 0) u) (fun _ i _ => l.length - (intOf i).toNat)
  case atStart => exact ⟨0, by omega, rfl, World.ownsRow_nil _ _ _ _, Grew.refl _ _⟩
  case round =>
    obtain ⟨k, hk, rfl, hr, hg⟩ := hrel
    by_cases hlt : k < l.length
    · obtain ⟨b, off, rfl, hbl, hc⟩ := Hcell.out k hlt
      have hc2 : wr.cell? ⟨b, off + k, none⟩ = some (.int .u16 (l.getD k 0 : Nat)) := ((Grew.bel hg).cell (p := ⟨b, off + k, none⟩) hbl).trans hc
      have hx : l.getD k 0 < 65536 := by
        rw [List.getD_eq_getElem?_getD, List.getElem?_eq_getElem hlt]; exact hl _ (List.getElem_mem hlt)
      have hs := flatW_succ 2 l k hlt
      have Hs := Lib.hid hs
      clear hs hc
      generalize l.getD k 0 = x at hc2 hx Hs
      have h60 := lay16_any u3 (2 * k) (encN .u8 ((l.take k).flatMap (leW 2))) x hx wr hr (by omega)
      go_wp2_with fail
      refine h60.mono ?_
      rintro e w1 ⟨v', rfl, hr1, hg1⟩
      clear h60
      go_wp2
      go_roundw
      case rel => exact ⟨k + 1, by omega, by go_num, by rw [Hs.out, encN_append]; exact hr1, hg.trans hg1⟩
      case measure => simp [intOf]; omega
    · have : k = l.length := by omega
      subst this
      rw [List.take_length] at hr
      go_wp2
      go_ret
      exact ⟨_, rfl, hr, hg⟩
set_option maxRecDepth 100000 in
set_option maxHeartbeats 400000 in
theorem width64_any (w : World) : Calls Tryz.prog 121 #[] w fun e w' => e = .returned (.int .i64 8) ∧ w = w' := by
  have hx : bits BinOp.xor .u64 IntKind.u64.max 0 = 18446744073709551615 := by kernel_rfl
  go_enter Tryz.func121, Tryz.ntmps121
  go_wp2
  refine wp_loop_rounds 9 ?_
  rw [rounds_succ]
  go_wp2
  rw [rounds_succ]
  go_wp2
  rw [rounds_succ]
  go_wp2
  rw [rounds_succ]
  go_wp2
  rw [rounds_succ]
  go_wp2
  rw [rounds_succ]
  go_wp2
  rw [rounds_succ]
  go_wp2
  rw [rounds_succ]
  go_wp2
  rw [rounds_succ]
  go_wp2
  go_ret
  exact ⟨rfl, rfl⟩
set_option maxRecDepth 100000 in
set_option maxHeartbeats 1000000 in
theorem lay64_any (v : Value) (n : Nat) (xs : List Value) (x : Nat) (hx : x < 18446744073709551616) (w : World) (hown : w.ownsRow 0 5 1 v n xs) (hn : n + 8 ≤ 140737488355328) :
    Calls Tryz.prog 97 #[v, .int .u64 x] w fun e w' => ∃ v', e = .returned v' ∧ w'.ownsRow 0 5 1 v' (n + 8) (xs ++ encN .u8 (leW 8 x)) ∧ Grew w w' v v' := by
  obtain ⟨i0, hi, hz0, hz1, hz2⟩ := info_parts info5
  go_enter Tryz.func97, Tryz.ntmps97
  go_wp2_with fail
  refine (width64_any _).mono ?_
  rintro e w1 ⟨rfl, rfl⟩
  go_wp2_with fail
  go_loopw [0, 7] (fun u i wr => ∃ k : Nat, k ≤ 8 ∧ i = .int .i64 k ∧ wr.ownsRow 0 5 1 u (n + k) (xs ++ encN .u8 ((leW 8 x).take k)) ∧ Grew w wr v u) (fun _ i _ => 8 - (intOf i).toNat)
  case atStart => exact ⟨0, by omega, rfl, by simpa [encN] using hown, Grew.refl _ _⟩
  case round =>
    obtain ⟨k, hk, rfl, hr, hg⟩ := hrel
    by_cases hlt : k < 8
    · go_wp2_with ((with_reducible refine wpList_append1 (o := ⟨some 17, .call { callee := .builtin .append, args := #[.tmp 10, .tmp 16], argTypes := #[24, 24] }, _, _, _, none⟩) rfl _ _ 24 rfl 5 i0 (.int .u8 0) 1 1 Tryz.underlying24 hi hz0 hz1 hz2 ?_ ?_ _ _ _ hr _ _ ?_ ?_ ?_ ?_ ?_ ?_ ?_); rfl; decide; rfl; rfl; rfl; (simp [Value.oneCell']); (unfold maxLen; omega); omega; intro g c w1 hr1 hg1 hl1)
      go_roundw
      case rel => exact ⟨k + 1, by omega, by go_num, by
        rw [leW_shift 8 x k hlt, encN_append, ← List.append_assoc]
        exact hr1, hg.trans hg1⟩
      case measure => simp [intOf]; omega
    · have : k = 8 := by omega
      subst this
      go_wp2
      go_ret
      rw [List.take_of_length_le (by rw [leW_length]; exact Nat.le_refl _)] at hr
      exact ⟨_, rfl, hr, hg⟩
set_option maxRecDepth 100000 in
set_option maxHeartbeats 1000000 in
theorem put64_any (a : Option Addr) (cap : Nat) (l : List Nat) (hl : ∀ i ∈ l, i < 18446744073709551616) (w : World) (hr : Reads w 1 (.slice a l.length cap) l.length (encN .u64 l)) (hn : 8 * l.length + 8 ≤ 140737488355328) :
    Calls Tryz.prog 55 #[.slice a l.length cap] w fun e w' => ∃ v', e = .returned v' ∧ w'.ownsRow 0 5 1 v' (8 * l.length) (encN .u8 (l.flatMap (leW 8))) ∧ Grew w w' (.slice none 0 0) v' := by
  obtain ⟨a', cap', hv, hlen, hnc, hm, hnil, hp⟩ := hr
  simp only [Value.slice.injEq, true_and] at hv
  obtain ⟨rfl, rfl⟩ := hv
  have hcell : ∀ k, k < l.length → ∃ b off, a = some ⟨b, off, none⟩ ∧ b < w.heap.size ∧ w.cell? ⟨b, off + k, none⟩ = some (.int .u64 (l.getD k 0 : Nat)) := by
    intro k hk
    obtain ⟨b, off, e, hlt, hc⟩ := hp (by omega)
    exact ⟨b, off, e, hlt, by rw [hc k (by rw [encN_length]; exact hk), encN_at _ l k hk]⟩
  have Hcell := Lib.hid hcell
  clear hp hnil hcell hlen
  go_enter Tryz.func55, Tryz.ntmps55
  go_wp2_with fail
  go_loopw [3, 8] (fun u i wr => ∃ k : Nat, k ≤ l.length ∧ i = .int .i64 k ∧ wr.ownsRow 0 5 1 u (8 * k) (encN .u8 ((l.take k).flatMap (leW 8))) ∧ Grew w wr (.slice none 0 0) u) (fun _ i _ => l.length - (intOf i).toNat)
  case atStart => exact ⟨0, by omega, rfl, World.ownsRow_nil _ _ _ _, Grew.refl _ _⟩
  case round =>
    obtain ⟨k, hk, rfl, hr, hg⟩ := hrel
    by_cases hlt : k < l.length
    · obtain ⟨b, off, rfl, hbl, hc⟩ := Hcell.out k hlt
      have hc2 : wr.cell? ⟨b, off + k, none⟩ = some (.int .u64 (l.getD k 0 : Nat)) := ((Grew.bel hg).cell (p := ⟨b, off + k, none⟩) hbl).trans hc
      have hx : l.getD k 0 < 18446744073709551616 := by
        rw [List.getD_eq_getElem?_getD, List.getElem?_eq_getElem hlt]; exact hl _ (List.getElem_mem hlt)
      have hs := flatW_succ 8 l k hlt
      have Hs := Lib.hid hs
      clear hs hc
      generalize l.getD k 0 = x at hc2 hx Hs
      have h60 := lay64_any u3 (8 * k) (encN .u8 ((l.take k).flatMap (leW 8))) x hx wr hr (by omega)
      go_wp2_with fail
      refine h60.mono ?_
      rintro e w1 ⟨v', rfl, hr1, hg1⟩
      clear h60
      go_wp2
      go_roundw
      case rel => exact ⟨k + 1, by omega, by go_num, by rw [Hs.out, encN_append]; exact hr1, hg.trans hg1⟩
      case measure => simp [intOf]; omega
    · have : k = l.length := by omega
      subst this
      rw [List.take_length] at hr
      go_wp2
      go_ret
      exact ⟨_, rfl, hr, hg⟩
structure BaseAt (w : World) (f p : Nat) (base : List Nat) : Prop where
  lt : p < w.heap.size
  cf : ∀ (args : Array Value) (W : World), (callFunc f args).run Tryz.prog W = .ok (.enter f args) W
  call : ∀ W, Below w.heap.size w W → Calls Tryz.prog f #[.pointer (some ⟨p, 0, none⟩)] W fun e W' => ∃ a c, e = .returned (.slice a base.length c) ∧ Bytes W' (.slice a base.length c) base ∧ Below W.heap.size W W'
theorem BaseAt.below {w w' : World} {f p : Nat} {base : List Nat} (h : BaseAt w f p base) (hb : Below w.heap.size w w') : BaseAt w' f p base :=
  ⟨Nat.lt_of_lt_of_le h.lt hb.size, h.cf, fun W hW => h.call W (Bel.tr hb hW)⟩
def baseV (delta mark f p : Nat) : Value := .agg #[.int .u32 delta, .int .u32 mark, .func (.func f) #[] #[.pointer (some ⟨p, 0, none⟩)]]
theorem le4s_flat (l : List Nat) : le4s l = l.flatMap (leW 4) := by
  unfold le4s
  congr 1
  funext x
  exact (leW4 x).symm
theorem bs24_2 (x y : Int) (w : World) : (Instr.buildSlice 24 2 #[(0, .int .u8 x), (1, .int .u8 y)]).run Tryz.prog w = .ok (.slice (some ⟨w.heap.size, 0, none⟩) 2 2) (w.alloc (.cells #[.int .u8 x, .int .u8 y] 5)) := by kernel_rfl
theorem bs554_1 (x : Int) (w : World) : (Instr.buildSlice 205 1 #[(0, .int .u16 x)]).run Tryz.prog w = .ok (.slice (some ⟨w.heap.size, 0, none⟩) 1 1) (w.alloc (.cells #[.int .u16 x] 168)) := by kernel_rfl
theorem bs23_4w (x y z t : Int) (w : World) : (Instr.buildSlice 23 4 #[(0, .int .u32 x), (1, .int .u32 y), (2, .int .u32 z), (3, .int .u32 t)]).run Tryz.prog w = .ok (.slice (some ⟨w.heap.size, 0, none⟩) 4 4) (w.alloc (.cells #[.int .u32 x, .int .u32 y, .int .u32 z, .int .u32 t] 25)) := by kernel_rfl
theorem bs23_2w (x y : Int) (w : World) : (Instr.buildSlice 23 2 #[(0, .int .u32 x), (1, .int .u32 y)]).run Tryz.prog w = .ok (.slice (some ⟨w.heap.size, 0, none⟩) 2 2) (w.alloc (.cells #[.int .u32 x, .int .u32 y] 25)) := by kernel_rfl
theorem put8_at (l : List Nat) {w : World} {b n : Nat} {cs : Array Value} (hl : ∀ i ∈ l, i < 256) (hn : l.length ≤ 1000) (hb : b = w.heap.size) (hn2 : n = l.length) (hcs : cs.toList = encN .u8 l) :
    Calls Tryz.prog 79 #[.slice (some ⟨b, 0, none⟩) n n] (w.alloc (.cells cs 5)) fun e w' => ∃ v, e = .returned v ∧ w'.ownsRow w.heap.size 5 1 v l.length (encN .u8 l) ∧ Below w.heap.size w w' := by
  subst hb
  subst hn2
  refine (put8_any (some ⟨w.heap.size, 0, none⟩) l.length l hl _ ⟨some ⟨w.heap.size, 0, none⟩, l.length, rfl, by rw [encN_length, Nat.mul_one], Nat.le_refl _, by unfold maxLen; omega, (fun h => by cases h), fun _ => ⟨w.heap.size, 0, rfl, by simp, fun j hj => ?_⟩⟩ (by omega)).mono ?_
  · rw [← hcs] at hj ⊢
    simp [go_sem]
  · rintro e w' ⟨v', rfl, hown, hg⟩
    exact ⟨v', rfl, own_from hown (fun g e => by
      have := (hg.2 g e).resolve_left (by simp [Value.ownBlock])
      simp at this
      omega), Bel.of hg.bel⟩
theorem put16_at (l : List Nat) {w : World} {b n : Nat} {cs : Array Value} (hl : ∀ i ∈ l, i < 65536) (hn : l.length ≤ 1000) (hb : b = w.heap.size) (hn2 : n = l.length) (hcs : cs.toList = encN .u16 l) :
    Calls Tryz.prog 94 #[.slice (some ⟨b, 0, none⟩) n n] (w.alloc (.cells cs 168)) fun e w' => ∃ v, e = .returned v ∧ w'.ownsRow w.heap.size 5 1 v (2 * l.length) (encN .u8 (l.flatMap (leW 2))) ∧ Below w.heap.size w w' := by
  subst hb
  subst hn2
  refine (put16_any (some ⟨w.heap.size, 0, none⟩) l.length l hl _ ⟨some ⟨w.heap.size, 0, none⟩, l.length, rfl, by rw [encN_length, Nat.mul_one], Nat.le_refl _, by unfold maxLen; omega, (fun h => by cases h), fun _ => ⟨w.heap.size, 0, rfl, by simp, fun j hj => ?_⟩⟩ (by omega)).mono ?_
  · rw [← hcs] at hj ⊢
    simp [go_sem]
  · rintro e w' ⟨v', rfl, hown, hg⟩
    exact ⟨v', rfl, own_from hown (fun g e => by
      have := (hg.2 g e).resolve_left (by simp [Value.ownBlock])
      simp at this
      omega), Bel.of hg.bel⟩
theorem put_words {w : World} {v : Value} {l : List Nat} (h : Words w v l) (hn : l.length ≤ 1000000) :
    Calls Tryz.prog 54 #[v] w fun e w' => ∃ u, e = .returned u ∧ w'.ownsRow w.heap.size 5 1 u (4 * l.length) (encN .u8 (l.flatMap (leW 4))) ∧ Below w.heap.size w w' := by
  obtain ⟨a, c, rfl, -⟩ := h.1
  refine (put_any a c l (words_lt h) w h.1 (by omega)).mono ?_
  rintro e w' ⟨v', rfl, hown, hg⟩
  exact ⟨v', rfl, by rw [← le4s_flat]; exact own_from hown (fun g e => (hg.2 g e).resolve_left (by simp [Value.ownBlock])), hg.bel⟩
theorem grew_own {w0 w w' : World} {e sz n k : Nat} {v v' : Value} {xs ys : List Value} (hb : Below w0.heap.size w0 w) (ho : w.ownsRow w0.heap.size e sz v k xs) (hg : Grew w w' v v') (h : w'.ownsRow 0 e sz v' n ys) :
    w'.ownsRow w0.heap.size e sz v' n ys ∧ Below w0.heap.size w0 w' :=
  ⟨own_from h (fun g e => by
    rcases hg.2 g e with h' | h'
    · exact (ho.lt g h').1
    · exact Nat.le_trans hb.size h'), hb.grown hg.1 hb.size (fun g e => (ho.lt g e).1)⟩
theorem runs_lt {a b : List Nat} (hl : a.length = b.length) (hn : a.length ≤ 65536) (hb : ∀ x ∈ b, x < 256) : ∀ r ∈ runsN a b, r.1 < 4294967296 ∧ ∀ x ∈ r.2, x < 256 := by
  have h1 := (runs_small hl hn).2
  have hget : ∀ k, b.getD k 0 < 256 := fun k => by
    rw [List.getD_eq_getElem?_getD]
    cases hk : b[k]? with
    | none => decide
    | some v => exact hb v (List.mem_of_getElem? hk)
  have key : ∀ k, (∀ r ∈ (runsTo a b k).1, ∀ x ∈ r.2, x < 256) ∧ ∀ r, (runsTo a b k).2 = some r → ∀ x ∈ r.2, x < 256 := by
    intro k
    induction k with
    | zero => exact ⟨fun r hr => (by cases hr), fun r hr => (by cases hr)⟩
    | succ k ih =>
      obtain ⟨i1, i2⟩ := ih
      obtain ⟨d, o, e⟩ : ∃ d o, runsTo a b k = (d, o) := ⟨_, _, rfl⟩
      by_cases c : a.getD k 0 = b.getD k 0
      · rw [runsTo_eq c e]
        rw [e] at i1 i2
        refine ⟨fun r hr => ?_, fun r hr => by cases hr⟩
        unfold closeR at hr
        cases o with
        | none => exact i1 r hr
        | some q =>
          rcases List.mem_append.1 hr with hr | hr
          · exact i1 r hr
          · rw [List.mem_singleton.1 hr]; exact i2 q rfl
      · rw [runsTo_ne c e]
        rw [e] at i1 i2
        unfold nextR
        refine ⟨i1, fun r hr => ?_⟩
        cases o with
        | none =>
          cases hr
          intro x hx
          rw [List.mem_singleton.1 hx]; exact hget k
        | some q =>
          cases hr
          intro x hx
          rcases List.mem_append.1 hx with hx | hx
          · exact i2 q rfl x hx
          · rw [List.mem_singleton.1 hx]; exact hget k
  intro r hr
  refine ⟨(h1 r hr).1, ?_⟩
  unfold runsN closeR at hr
  obtain ⟨d, o, e⟩ : ∃ d o, runsTo a b a.length = (d, o) := ⟨_, _, rfl⟩
  have hk := key a.length
  rw [e] at hr hk
  cases o with
  | none => exact hk.1 r hr
  | some q =>
    rcases List.mem_append.1 hr with hr | hr
    · exact hk.1 r hr
    · rw [List.mem_singleton.1 hr]; exact hk.2 q rfl
theorem runs_len {a b : List Nat} (hl : a.length = b.length) (hn : a.length ≤ 65536) : ∀ r ∈ runsN a b, r.2.length ≤ 65536 ∧ r.2.length < 4294967296 := by
  have h := (mend_runs hl).1
  have key : ∀ (rs : List (Nat × List Nat)) (last : Nat), mendOk a.length last rs = true → ∀ r ∈ rs, r.2.length ≤ a.length := by
    intro rs
    induction rs with
    | nil => intro last _ r hr; cases hr
    | cons q rs ih =>
      intro last hq r hr
      simp only [mendOk, Bool.and_eq_true, decide_eq_true_eq] at hq
      rcases List.mem_cons.1 hr with rfl | hr
      · omega
      · exact ih _ hq.2.2.2 r hr
  intro r hr
  have := key _ 0 h r hr
  omega
theorem runs_bytes {a b : List Nat} (hl : a.length = b.length) (hn : a.length ≤ 65536) (k : Nat) : (((runsN a b).take k).flatMap runB).length ≤ 600000 := by
  have h := (mend_runs hl).1
  have key : ∀ (rs : List (Nat × List Nat)) (last : Nat), last ≤ a.length → mendOk a.length last rs = true → (rs.flatMap runB).length + 9 * last ≤ 9 * a.length := by
    intro rs
    induction rs with
    | nil => intro last h1 _; simp; omega
    | cons q rs ih =>
      intro last h1 hq
      simp only [mendOk, Bool.and_eq_true, decide_eq_true_eq] at hq
      have := ih (q.1 + q.2.length) hq.2.2.1 hq.2.2.2
      rw [List.flatMap_cons, List.length_append]
      have e : (runB q).length = 8 + q.2.length := by simp [runB, leW_length]; omega
      omega
  have h2 := mendOk_append a.length ((runsN a b).drop k) ((runsN a b).take k) 0
  rw [List.take_append_drop, h] at h2
  have h3 := h2.symm
  rw [Bool.and_eq_true] at h3
  have := key _ 0 (Nat.zero_le _) h3.1
  omega
set_option maxRecDepth 100000 in
set_option maxHeartbeats 8000000 in
theorem own_any {w : World} {vo vd : Value} {s : St} (hs : StAt w vo vd s) (ho : s.ops.length ≤ 65535) {f p : Nat} {base : List Nat} (hb : BaseAt w f p base) (hl : base.length = s.data.length) (hn : base.length ≤ 65536) (delta mark : Nat) :
    Calls Tryz.prog 52 #[stV vo vd s, baseV delta mark f p] w fun e w' => ∃ v, e = .returned (.tuple #[v, .int .i64 0]) ∧ w'.ownsRow w.heap.size 5 1 v (bodyN s base).length (encN .u8 (bodyN s base)) ∧ Below w.heap.size w w' := by
  obtain ⟨i0, hi, hz0, hz1, hz2⟩ := info_parts info5
  have f24 := bs24_2
  have f554 := bs554_1
  have f234 := bs23_4w
  have f232 := bs23_2w
  have hcf := hb.cf
  obtain ⟨ao, co, rfl, -, -, hmo, -, -⟩ := hs.o.1
  obtain ⟨ad, cd, rfl, -, hmd, -, -⟩ := hs.d.opened
  obtain ⟨W0, hW0⟩ : ∃ W0, W0 = (w.alloc (.cells #[.int .u8 s.life, .int .u32 s.pc, .int .u32 s.sp, .slice ao s.ops.length co, .slice ad s.data.length cd, .int .u32 s.value, .int .u8 s.fault] 32)).alloc (.cells #[.int .u32 delta, .int .u32 mark, .func (.func f) #[] #[.pointer (some ⟨p, 0, none⟩)]] 79) := ⟨_, rfl⟩
  have hb0 : Below w.heap.size w W0 := by rw [hW0]; exact Bel.al (Bel.new _ _) _
  have HS0 := Lib.hid (StB.row (s := s) (by rw [hW0, Below.heap_alloc _ _ _ (by simp)]; exact heap_alloc_new w _) : StB W0 w.heap.size (.slice ao s.ops.length co) (.slice ad s.data.length cd) s)
  have hr1 : W0.heap[w.heap.size + 1]? = some (.cells #[.int .u32 delta, .int .u32 mark, .func (.func f) #[] #[.pointer (some ⟨p, 0, none⟩)]] 79 (0, 0)) := by
    rw [hW0]
    have := heap_alloc_new (w.alloc (.cells #[.int .u8 s.life, .int .u32 s.pc, .int .u32 s.sp, .slice ao s.ops.length co, .slice ad s.data.length cd, .int .u32 s.value, .int .u8 s.fault] 32)) (.cells #[.int .u32 delta, .int .u32 mark, .func (.func f) #[] #[.pointer (some ⟨p, 0, none⟩)]] 79)
    simpa using this
  have HC2 := Lib.hid (cell_of_row W0 (w.heap.size + 1) 2 _ _ _ hr1)
  have hl2 := World.block_lt_of_cell? _ _ HC2.out
  have HCl := Lib.hid (hb.below hb0).call
  have HD0 := Lib.hid (hs.d.below hb0)
  have HO0 := Lib.hid (hs.o.below hb0)
  have HRn := Lib.hid (fun (W : World) (hW : Below W0.heap.size W0 W) (v1 : Value) (h1 : Bytes W v1 base) => runs_any v1 (.slice ad s.data.length cd) base s.data hl hn W h1 (HD0.out.below hW))
  have HKp := Lib.hid (fun (W W' : World) (hb : Below W.heap.size W W') (hS : (W.cell? ⟨w.heap.size + 1, 2, none⟩ = some (.func (.func f) #[] #[.pointer (some ⟨p, 0, none⟩)]) ∧ W.cell? ⟨w.heap.size, 4, none⟩ = some (.slice ad s.data.length cd)) ∧ Below W0.heap.size W0 W) =>
    (⟨⟨((Bel.tr hS.2 hb).cell (p := ⟨w.heap.size + 1, 2, none⟩) hl2).trans HC2.out, (HS0.out.below (Bel.tr hS.2 hb)).c4⟩, Bel.tr hS.2 hb⟩ : (W'.cell? ⟨w.heap.size + 1, 2, none⟩ = some (.func (.func f) #[] #[.pointer (some ⟨p, 0, none⟩)]) ∧ W'.cell? ⟨w.heap.size, 4, none⟩ = some (.slice ad s.data.length cd)) ∧ Below W0.heap.size W0 W'))
  have H00 := Lib.hid (⟨⟨HC2.out, HS0.out.c4⟩, (Below.refl _ _).drew⟩ : (W0.drew.cell? ⟨w.heap.size + 1, 2, none⟩ = some (.func (.func f) #[] #[.pointer (some ⟨p, 0, none⟩)]) ∧ W0.drew.cell? ⟨w.heap.size, 4, none⟩ = some (.slice ad s.data.length cd)) ∧ Below W0.heap.size W0 W0.drew)
  have HB0 := Lib.hid hb0
  have hrs := runs_small hl hn
  have hrl := hrs.1
  have HRL := Lib.hid (runs_lt hl hn hs.d.2)
  have HRQ := Lib.hid (runs_len hl hn)
  have HRB := Lib.hid (runs_bytes hl hn)
  have hsm := Lib.hid hs.sm
  generalize hrr : runsN base s.data = rs at *
  have HLn := Lib.hid hl
  have HRR := Lib.hid hrr
  clear hrs hr1 hb hs hrr hl
  unfold stV baseV
  go_enter Tryz.func52, Tryz.ntmps52
  go_wp2_with fail
  rw [← hW0]
  clear hW0
  go_region_held3 (fun w' => (w'.cell? ⟨w.heap.size + 1, 2, none⟩ = some (.func (.func f) #[] #[.pointer (some ⟨p, 0, none⟩)]) ∧ w'.cell? ⟨w.heap.size, 4, none⟩ = some (.slice ad s.data.length cd)) ∧ Below W0.heap.size W0 w')
    (first | assumption | exact H00.out | exact HKp.out _ _ hbC (by assumption) | exact HKp.out _ _ hbR (by assumption))
    (first
      | (go_at_call 93; refine (HRn.out _ ?_ _ hbyC).mono ?_; exact (by assumption : (_ ∧ _) ∧ Below W0.heap.size W0 _).2; rintro e wR ⟨vr, us, rfl, hro, hbR⟩)
      | ((with_reducible refine (HCl.out _ ?_).mono ?_); exact (by assumption : (_ ∧ _) ∧ Below W0.heap.size W0 _).2; rintro e wC ⟨ac, cc, rfl, hbyC, hbC⟩))
  have HLR := Lib.hid (by assumption : (wR.cell? ⟨w.heap.size + 1, 2, none⟩ = some (.func (.func f) #[] #[.pointer (some ⟨p, 0, none⟩)]) ∧ wR.cell? ⟨w.heap.size, 4, none⟩ = some (.slice ad s.data.length cd)) ∧ Below W0.heap.size W0 wR).2
  have HRA := Lib.hid (hro.at HRL.out)
  obtain ⟨ar, cr, rfl, -⟩ := own_sl hro.row
  have HSt := Lib.hid (fun (W : World) (hW : Below wR.heap.size wR W) => HS0.out.below (Bel.tr HLR.out hW))
  obtain ⟨d0, d1, d2, d3, d4, d5, d6⟩ := HSt.out wR (Below.refl _ _)
  have HPw := Lib.hid (fun (W : World) (hW : Below wR.heap.size wR W) => put_words (HO0.out.below (Bel.tr HLR.out hW)) (by omega))
  have g1 := hsm.out.l
  have g2 := hsm.out.f
  have g3 := hsm.out.p
  have g4 := hsm.out.s
  have g5 := hsm.out.v
  have hw16 : IntKind.u16.wrap ((s.ops.length : Nat) : Int) = ((s.ops.length : Nat) : Int) := by rw [IntKind.wrap_u16]; omega
  have hwrl : IntKind.u32.wrap ((rs.length : Nat) : Int) = ((rs.length : Nat) : Int) := by rw [IntKind.wrap_u32]; omega
  clear hro HRn HCl HKp H00
  go_wp2_with fail
  refine (put8_at [s.life, s.fault] (w := wR) (by simp; omega) (by simp) rfl rfl rfl).mono ?_
  rintro e w2 ⟨v8, rfl, o8, b8⟩
  replace o8 : w2.ownsRow wR.heap.size 5 1 v8 2 (encN .u8 [s.life, s.fault]) := o8
  obtain ⟨a8, k8, rfl, -⟩ := own_sl o8
  have HO8 := Lib.hid o8
  have HB8 := Lib.hid b8
  clear d0 d1 d2 d3 d4 d5 d6 o8 b8
  obtain ⟨d0, d1, d2, d3, d4, d5, d6⟩ := HSt.out w2 HB8.out
  go_wp2_with fail
  refine (put16_at [s.ops.length] (w := w2) (by simp; omega) (by simp) rfl rfl rfl).mono ?_
  rintro e w3 ⟨v16, rfl, o16, b16⟩
  replace o16 : w3.ownsRow w2.heap.size 5 1 v16 2 (encN .u8 ([s.ops.length].flatMap (leW 2))) := o16
  obtain ⟨a16, k16, rfl, -⟩ := own_sl o16
  have HA3 := Lib.hid (own_base (own_below HO8.out b16))
  have HA3' := Lib.hid (own_below HO8.out b16)
  have HX3 := Lib.hid (Reads.own o16 (by decide))
  have HB3 := Lib.hid (Bel.tr HB8.out b16)
  clear d0 d1 d2 d3 d4 d5 d6 o16 b16
  go_wp2_with ((with_reducible refine wpList_append_reads (o := ⟨some 36, .call { callee := .builtin .append, args := #[.tmp 29, .tmp 35], argTypes := #[24, 24] }, _, _, _, none⟩) rfl _ _ 24 rfl 5 i0 (.int .u8 0) 1 1 Tryz.underlying24 hi hz0 hz1 hz2 ?_ ?_ _ _ _ ?_ HA3.out _ _ _ ?_ HX3.out (encN_one .u8 _) ?_ ?_ ?_); rfl; decide; rfl; rfl; (unfold maxLen; omega); omega; intro v5 w5 o5 g5; replace o5 : w5.ownsRow 0 5 1 v5 4 _ := o5; obtain ⟨a5x, k5x, rfl, -⟩ := own_sl o5; have K5 := Lib.hid (grew_own HB3.out HA3'.out g5 o5); obtain ⟨d0, d1, d2, d3, d4, d5, d6⟩ := HSt.out w5 K5.out.2; clear o5 g5)
  refine (put_at [s.pc, s.sp, s.value, rs.length] (w := w5) (by simp; omega) (by simp) rfl rfl rfl).mono ?_
  rintro e w6 ⟨v4, rfl, o4, b4⟩
  replace o4 : w6.ownsRow w5.heap.size 5 1 v4 16 _ := o4
  obtain ⟨a4, k4, rfl, -⟩ := own_sl o4
  have HA6 := Lib.hid (own_base (own_below K5.out.1 b4))
  have HA6' := Lib.hid (own_below K5.out.1 b4)
  have HX6 := Lib.hid (Reads.own o4 (by decide))
  have HB6 := Lib.hid (Bel.tr K5.out.2 b4)
  clear d0 d1 d2 d3 d4 d5 d6 o4 b4
  go_wp2_with ((with_reducible refine wpList_append_reads (o := ⟨some 49, .call { callee := .builtin .append, args := #[.tmp 37, .tmp 48], argTypes := #[24, 24] }, _, _, _, none⟩) rfl _ _ 24 rfl 5 i0 (.int .u8 0) 1 1 Tryz.underlying24 hi hz0 hz1 hz2 ?_ ?_ _ _ _ ?_ HA6.out _ _ _ ?_ HX6.out (encN_one .u8 _) ?_ ?_ ?_); rfl; decide; rfl; rfl; (unfold maxLen; omega); omega; intro v7 w7 o7 g7; replace o7 : w7.ownsRow 0 5 1 v7 20 _ := o7; obtain ⟨a7x, k7x, rfl, -⟩ := own_sl o7; have K7 := Lib.hid (grew_own HB6.out HA6'.out g7 o7); obtain ⟨d0, d1, d2, d3, d4, d5, d6⟩ := HSt.out w7 K7.out.2; clear o7 g7)
  refine (HPw.out w7 K7.out.2).mono ?_
  rintro e w8 ⟨vw, rfl, ow, bw⟩
  obtain ⟨aw, kw, rfl, -⟩ := own_sl ow
  have HA8 := Lib.hid (own_base (own_below K7.out.1 bw))
  have HA8' := Lib.hid (own_below K7.out.1 bw)
  have HX8 := Lib.hid (Reads.own ow (by decide))
  have HB8' := Lib.hid (Bel.tr K7.out.2 bw)
  clear d0 d1 d2 d3 d4 d5 d6 ow bw
  have hol : s.ops.length ≤ 65535 := ho
  go_wp2_with ((with_reducible refine wpList_append_reads (o := ⟨some 54, .call { callee := .builtin .append, args := #[.tmp 50, .tmp 53], argTypes := #[24, 24] }, _, _, _, none⟩) rfl _ _ 24 rfl 5 i0 (.int .u8 0) 1 1 Tryz.underlying24 hi hz0 hz1 hz2 ?_ ?_ _ _ _ ?_ HA8.out _ _ _ ?_ HX8.out (encN_one .u8 _) ?_ ?_ ?_); rfl; decide; rfl; rfl; (unfold maxLen; omega); omega; intro v9 w9 o9 g9; obtain ⟨a9x, k9x, rfl, -⟩ := own_sl o9; have K9 := Lib.hid (grew_own HB8'.out HA8'.out g9 o9); clear o9 g9)
  obtain ⟨pre, hpre⟩ : ∃ pre, pre = [s.life, s.fault] ++ [s.ops.length].flatMap (leW 2) ++ le4s [s.pc, s.sp, s.value, rs.length] ++ s.ops.flatMap (leW 4) := ⟨_, rfl⟩
  have hpl : pre.length = 20 + 4 * s.ops.length := by
    rw [hpre]
    simp only [List.length_append, le4s_length, flat4_length, List.length_cons, List.length_nil, List.flatMap_cons, List.flatMap_nil, leW_length]
  have HK9 := Lib.hid (show w9.ownsRow wR.heap.size 5 1 (.slice a9x (20 + 4 * s.ops.length) k9x) pre.length (encN .u8 pre) from by
    have := K9.out.1
    rw [hpl, hpre]
    simp only [encN_append] at this ⊢
    simpa [Nat.add_assoc] using this)
  have HPre := Lib.hid hpre
  have HPL := Lib.hid hpl
  clear hpre hpl
  go_loopw [8, 57] (fun o i wr => ∃ k : Nat, k ≤ rs.length ∧ i = .int .i64 k ∧ wr.ownsRow wR.heap.size 5 1 o (pre.length + ((rs.take k).flatMap runB).length) (encN .u8 (pre ++ (rs.take k).flatMap runB)) ∧ Below wR.heap.size wR wr) (fun _ i _ => rs.length - (intOf i).toNat)
  case atStart => exact ⟨0, by omega, rfl, by simpa using HK9.out, K9.out.2⟩
  case round =>
    obtain ⟨k, hk, rfl, ho1, hbr⟩ := hrel
    obtain ⟨wo, rfl⟩ : ∃ wo : World, wo = wr := ⟨_, rfl⟩
    have HOr := Lib.hid ho1
    have HBr := Lib.hid hbr
    obtain ⟨a0x, k0x, h0x, -⟩ := own_sl ho1
    subst h0x
    generalize hz0 : ((rs.take k).flatMap runB).length = z at *
    have Hz := Lib.hid hz0
    clear hz0
    clear ho1 hbr
    by_cases hlt : k < rs.length
    · obtain ⟨g, off, ua, uc, rfl, hg, r0, r1, hml, hby⟩ := HRA.out.run hlt
      have e0 := (HBr.out.cell (p := ⟨g, off + k * 2, none⟩) hg).trans r0
      have e1 := (HBr.out.cell (p := ⟨g, off + k * 2 + 1, none⟩) hg).trans r1
      have HT := Lib.hid (take_run rs hlt)
      have hx := HRA.out.lt k
      have hq : (rs.getD k (0, [])).2.length < 4294967296 ∧ (rs.getD k (0, [])).2.length ≤ 65536 := by
        rw [List.getD_eq_getElem?_getD, List.getElem?_eq_getElem hlt]
        have := HRQ.out _ (List.getElem_mem hlt)
        exact ⟨this.2, this.1⟩
      have hlen := HRB.out k
      rw [Hz.out] at hlen
      have hpl2 : pre.length ≤ 300000 := by have := HPL.out; omega
      have HBy := Lib.hid hby
      have hki : (k : Int) < (rs.length : Int) := by omega
      have hk0 : (0 : Int) ≤ (k : Int) := by omega
      clear r0 r1 hby hml
      generalize hrk : rs.getD k (0, []) = r at *
      obtain ⟨x, bs⟩ := r
      simp only at e0 e1 hx hq HBy
      have hwq : IntKind.u32.wrap ((bs.length : Nat) : Int) = ((bs.length : Nat) : Int) := by rw [IntKind.wrap_u32]; omega
      obtain ⟨Wp, hWp⟩ : ∃ Wp, Wp = wo.alloc (.cells #[.int .u32 x, .slice ua bs.length uc] 170) := ⟨_, rfl⟩
      have HBp := Lib.hid (show Below wo.heap.size wo Wp from by rw [hWp]; exact Bel.new _ _)
      have HHp := Lib.hid (show Wp.heap[wo.heap.size]? = some (.cells #[.int .u32 x, .slice ua bs.length uc] 170 (0, 0)) from by rw [hWp]; exact heap_alloc_new _ _)
      obtain ⟨⟨p0, p1⟩, -⟩ := cells383 HHp.out
      have hsp : wo.heap.size < Wp.heap.size := by rw [hWp]; simp
      have HWs := Lib.hid (show wo.heap.size + 1 = Wp.heap.size from by rw [hWp]; simp)
      have HV := Lib.hid (show ∀ g', (Value.slice a0x (pre.length + z) k0x).ownBlock = some g' → g' < wo.heap.size from fun g' e => (HOr.out.lt g' e).2)
      go_wp2_with fail
      rw [← hWp]
      clear hWp
      refine (put_at [x, bs.length] (w := Wp) (by simp; omega) (by simp) HWs.out rfl rfl).mono ?_
      rintro e w1 ⟨vp, rfl, op, bp⟩
      replace op : w1.ownsRow Wp.heap.size 5 1 vp 8 _ := op
      obtain ⟨ap, kp, rfl, -⟩ := own_sl op
      have HOp := Lib.hid (own_base (own_below HOr.out (Bel.tr HBp.out bp)))
      have HOp' := Lib.hid (own_below HOr.out (Bel.tr HBp.out bp))
      have HXp := Lib.hid (Reads.own op (by decide))
      have HB1 := Lib.hid (Bel.tr HBr.out (Bel.tr HBp.out bp))
      have q1 := (bp.cell (p := ⟨wo.heap.size, 1, none⟩) hsp).trans p1
      have hs1 : wo.heap.size < w1.heap.size := Nat.lt_of_lt_of_le hsp bp.size
      clear op bp p0 p1 e0 e1
      go_wp2_with (first | ((with_reducible refine wpList_append_reads (o := ⟨some 70, .call { callee := .builtin .append, args := #[.tmp 61, .tmp 69], argTypes := #[24, 24] }, _, _, _, none⟩) rfl _ _ 24 rfl 5 i0 (.int .u8 0) 1 1 Tryz.underlying24 hi hz0 hz1 hz2 ?_ ?_ _ _ _ ?_ HOp.out _ _ _ ?_ HXp.out (encN_one .u8 _) ?_ ?_ ?_); rfl; decide; rfl; rfl; (unfold maxLen; omega); omega; intro m1 x1 oo1 gg1; obtain ⟨am1, km1, rfl, -⟩ := own_sl oo1; have M1 := Lib.hid (grew_own HB1.out HOp'.out gg1 oo1); have M1o := Lib.hid (own_base M1.out.1); have q2 := (World.cell?_of_block (gg1.1.block wo.heap.size hs1 (fun e => by have := HV.out _ e.symm; omega)) : x1.cell? ⟨wo.heap.size, 1, none⟩ = _).trans q1; have HBx := Lib.hid (HBy.out.below M1.out.2).1; clear oo1 gg1) | ((with_reducible refine wpList_append_reads (o := ⟨some 74, .call { callee := .builtin .append, args := #[.tmp 71, .tmp 73], argTypes := #[24, 24] }, _, _, _, none⟩) rfl _ _ 24 rfl 5 i0 (.int .u8 0) 1 1 Tryz.underlying24 hi hz0 hz1 hz2 ?_ ?_ _ _ _ ?_ M1o.out _ _ _ ?_ HBx.out (encN_one .u8 _) ?_ ?_ ?_); rfl; decide; rfl; rfl; (unfold maxLen; omega); omega; intro m2 x2 oo2 gg2; have M2 := Lib.hid (grew_own M1.out.2 M1.out.1 gg2 oo2); clear oo2 gg2))
      go_roundw
      case rel => exact ⟨k + 1, by omega, by go_num, by
        have e := M2.out.1
        rw [HT.out, List.flatMap_append, List.length_append, Hz.out, ← List.append_assoc, encN_append]
        simp only [List.flatMap_cons, List.flatMap_nil, List.append_nil, runB, List.length_append, leW_length, encN_append] at e ⊢
        have e2 : le4s [x, bs.length] = leW 4 x ++ leW 4 bs.length := by rw [le4s_flat]; simp
        rw [e2, encN_append] at e
        simp only [List.append_assoc] at e ⊢
        rw [show pre.length + (z + (4 + (4 + bs.length))) = pre.length + z + 8 + bs.length from by omega]
        exact e, M2.out.2⟩
      case measure => simp [intOf]; omega
    · obtain rfl : k = rs.length := by omega
      have hge : ¬ ((rs.length : Nat) : Int) < ((rs.length : Nat) : Int) := by omega
      rw [List.take_length] at HOr Hz
      go_wp2_with fail
      go_ret2
      refine ⟨_, rfl, ?_, Bel.tr (Bel.tr HB0.out HLR.out) HBr.out⟩
      have e : bodyN s base = pre ++ rs.flatMap runB := by
        rw [HPre.out, le4s_flat]
        unfold bodyN
        rw [HRR.out]
        simp [List.append_assoc]
      rw [e, List.length_append, Hz.out]
      exact own_downT HOr.out (by have := HB0.out.size; have := HLR.out.size; omega)
section
variable {P : Program}
def outs (P : Program) (o : Oper) (ρ : Operand → Value) (W : World) (R : Value → World → Prop) : Prop :=
  match (execOp ρ o).run P W with
  | .ok (.value v) W' => R v W'
  | .ok .skip W' => R undef W'
  | .ok (.enter f args) W' => Calls P f args W' fun e W'' => ∃ v, e = .returned v ∧ R v W''
  | _ => False
theorem outs_wp {o : Oper} {a : Act} {W : World} {R : Value → World → Prop} {K : Act → World → Prop} {Q : Exit → Act → World → Prop} (h : outs P o a.eval W R)
    (hK : ∀ v W', R v W' → K (a.put o.dst v) W') : o.wp P a W K Q := by
  unfold outs at h
  unfold Oper.wp
  generalize (execOp a.eval o).run P W = r at *
  cases r with
  | ok n w' =>
    cases n with
    | value v => exact hK _ _ h
    | skip => exact hK _ _ h
    | enter f args =>
      refine Calls.mono h ?_
      rintro e w'' ⟨v, rfl, hr⟩
      exact hK _ _ hr
    | _ => exact False.elim h
  | halt x w' => exact False.elim h
def freeB (ops : Array Oper) : Bool := (List.range ops.size).all fun i => match ops[i]? with
  | none => true
  | some oi => oi.guard.isNone && ((match oi.op with | .select _ _ => false | _ => true) && (oi.after.all (fun e => !Region.binds .any e || decide (e.on < i)) &&
      (List.range ops.size).all fun j => match ops[j]? with
        | none => true
        | some oj => match oj.dst with
          | none => true
          | some t => (!(oi.looksAt ops).contains t || oi.after.any (fun e => Region.binds .any e && e.on == j)) && (i == j || oi.dst != some t)))
structure FreeOk (ops : Array Oper) : Prop where
  g : ∀ (i : Nat) (oi : Oper), ops[i]? = some oi → oi.guard = none
  s : ∀ (i : Nat) (oi : Oper), ops[i]? = some oi → ∀ cs b, oi.op ≠ .select cs b
  b : ∀ (i : Nat) (oi : Oper), ops[i]? = some oi → ∀ e ∈ oi.after, Region.binds .any e = true → e.on < i
  d : ∀ (i : Nat) (oi : Oper) (j : Nat) (oj : Oper) (t : Tmp), ops[i]? = some oi → ops[j]? = some oj → oj.dst = some t → t ∈ oi.looksAt ops → ∃ e ∈ oi.after, Region.binds .any e = true ∧ e.on = j
  u : ∀ (i : Nat) (oi : Oper) (j : Nat) (oj : Oper) (t : Tmp), ops[i]? = some oi → ops[j]? = some oj → oi.dst = some t → oj.dst = some t → i = j
theorem freeOk {ops : Array Oper} (h : freeB ops = true) : FreeOk ops := by
  have key : ∀ (i : Nat) (oi : Oper), ops[i]? = some oi → _ := fun i oi hi => by
    have hlt : i < ops.size := (Array.getElem?_eq_some_iff.1 hi).1
    have h1 := List.all_eq_true.1 h i (List.mem_range.2 hlt)
    rw [hi] at h1
    exact h1
  have k2 : ∀ (i : Nat) (oi : Oper) (j : Nat) (oj : Oper) (t : Tmp), ops[i]? = some oi → ops[j]? = some oj → oj.dst = some t →
      ((!(oi.looksAt ops).contains t || oi.after.any (fun e => Region.binds .any e && e.on == j)) && (i == j || oi.dst != some t)) = true := fun i oi j oj t hi hj ht => by
    have h1 := key i oi hi
    simp only [Bool.and_eq_true] at h1
    have hlt : j < ops.size := (Array.getElem?_eq_some_iff.1 hj).1
    have h2 := List.all_eq_true.1 h1.2.2.2 j (List.mem_range.2 hlt)
    rw [hj] at h2
    simp only [ht] at h2
    exact h2
  refine ⟨fun i oi hi => ?_, fun i oi hi cs b e => ?_, fun i oi hi e he hb => ?_, fun i oi j oj t hi hj ht hl => ?_, fun i oi j oj t hi hj h1 h2 => ?_⟩
  · have h1 := key i oi hi
    simp only [Bool.and_eq_true] at h1
    simpa using h1.1
  · have h1 := key i oi hi
    simp only [Bool.and_eq_true] at h1
    have h2 := h1.2.1
    rw [e] at h2
    cases h2
  · have h1 := key i oi hi
    simp only [Bool.and_eq_true] at h1
    have h2 := Array.all_eq_true_iff_forall_mem.1 h1.2.2.1 e he
    simpa [hb] using h2
  · have h1 := k2 i oi j oj t hi hj ht
    rw [Bool.and_eq_true] at h1
    have h2 := h1.1
    rw [show (oi.looksAt ops).contains t = true from by simpa using hl] at h2
    simp only [Bool.not_true, Bool.false_or, Array.any_eq_true', Bool.and_eq_true, beq_iff_eq] at h2
    obtain ⟨e, he, hb, ho⟩ := h2
    exact ⟨e, he, hb, ho⟩
  · have h3 := k2 i oi j oj t hi hj h2
    rw [Bool.and_eq_true] at h3
    have h4 := h3.2
    rw [h1] at h4
    simpa using h4
def putAll : Act → List Oper → Nat → (Nat → Value) → Act
  | a, [], _, _ => a
  | a, o :: l, k, V => putAll (a.put o.dst (V k)) l (k + 1) V
theorem put_size (a : Act) (d : Option Tmp) (v : Value) : (a.put d v).tmps.size = a.tmps.size := by cases d <;> simp [Act.put]
theorem put_defers (a : Act) (d : Option Tmp) (v : Value) : (a.put d v).defers = a.defers := by cases d <;> rfl
theorem put_get_ne (a : Act) {d : Option Tmp} (v : Value) {t : Tmp} (h : d ≠ some t) : (a.put d v).tmps[t]? = a.tmps[t]? := by
  cases d with
  | none => rfl
  | some e => exact Array.getElem?_setIfInBounds_ne (fun h' => h (by rw [h']))
theorem put_get (a : Act) (v : Value) {t : Tmp} (h : t < a.tmps.size) : (a.put (some t) v).tmps[t]? = some v := by simp [Act.put, h]
theorem putAll_defers (V : Nat → Value) : ∀ (l : List Oper) (a : Act) (k : Nat), (putAll a l k V).defers = a.defers
  | [], a, k => rfl
  | o :: l, a, k => by rw [putAll, putAll_defers V l, put_defers]
theorem putAll_out (V : Nat → Value) {t : Tmp} : ∀ (l : List Oper) (a : Act) (k : Nat), (∀ o ∈ l, o.dst ≠ some t) → (putAll a l k V).tmps[t]? = a.tmps[t]?
  | [], a, k, h => rfl
  | o :: l, a, k, h => by rw [putAll, putAll_out V l _ _ (fun o' ho => h o' (List.mem_cons_of_mem _ ho)), put_get_ne _ _ (h o (List.mem_cons_self ..))]
theorem putAll_at (V : Nat → Value) {t : Tmp} {o : Oper} (ht : o.dst = some t) : ∀ (l : List Oper) (a : Act) (k j : Nat), t < a.tmps.size → l[j]? = some o → (∀ j' o', l[j']? = some o' → o'.dst = some t → j' = j) →
    (putAll a l k V).tmps[t]? = some (V (k + j))
  | [], a, k, j, hs, hj, hu => by simp at hj
  | o' :: l, a, k, 0, hs, hj, hu => by
    obtain rfl : o' = o := by simpa using hj
    rw [putAll, putAll_out V l _ _ (fun o2 ho e => by
      obtain ⟨j2, hj2, rfl⟩ := List.getElem_of_mem ho
      have := hu (j2 + 1) l[j2] (by simp [hj2]) e
      omega), ht, put_get _ _ hs]
    rfl
  | o' :: l, a, k, j + 1, hs, hj, hu => by
    rw [putAll, putAll_at V ht l _ (k + 1) j (by rw [put_size]; exact hs) (by simpa using hj) (fun j' o2 h1 h2 => by
      have := hu (j' + 1) o2 (by simpa using h1) h2
      omega), show k + 1 + j = k + (j + 1) from by omega]
theorem lget_ne {l : Array Bool} {i j : Nat} (b d : Bool) (h : i ≠ j) : (l.setIfInBounds i b).getD j d = l.getD j d := by
  simp [Array.getD_eq_getD_getElem?, Array.getElem?_setIfInBounds_ne h]
theorem lget_eq {l : Array Bool} {i : Nat} (b d : Bool) (h : i < l.size) : (l.setIfInBounds i b).getD i d = b := by
  simp [Array.getD_eq_getD_getElem?, h]
theorem lget_any {l : Array Bool} {i : Nat} (d d' : Bool) (h : i < l.size) : l.getD i d = l.getD i d' := by
  simp [Array.getD_eq_getD_getElem?, h]
theorem getD_replicate_in {n j : Nat} {d : Bool} (h : j < n) : (Array.replicate n false).getD j d = false := by
  simp [Array.getD_eq_getD_getElem?, h]
structure FInv (ops : Array Oper) (a : Act) (R0 : World → Prop) (Ψ : Nat → Value → World → Prop) (listed : Array Bool) (a' : Act) (W : World) : Prop where
  lz : listed.size = ops.size
  sz : a'.tmps.size = a.tmps.size
  df : a'.defers = a.defers
  out : ∀ (t : Tmp), (∀ (j : Nat) (oj : Oper), ops[j]? = some oj → oj.dst = some t → listed.getD j true = false) → a'.tmps[t]? = a.tmps[t]?
  ps : ∀ (j : Nat) (oj : Oper) (t : Tmp), ops[j]? = some oj → listed.getD j true = true → oj.dst = some t → Ψ j (a'.eval (.tmp t)) W
  r : R0 W
def unl (n : Nat) (listed : Array Bool) : Nat := ((List.range n).filter fun i => !listed.getD i true).length
theorem unl_lt {n i : Nat} {listed : Array Bool} (hi : i < n) (hl : listed.size = n) (h : listed.getD i true = false) : unl n (listed.setIfInBounds i true) < unl n listed := by
  unfold unl
  have e : (List.range n).filter (fun j => !(listed.setIfInBounds i true).getD j true) = ((List.range n).filter fun j => !listed.getD j true).filter (fun j => decide (j ≠ i)) := by
    rw [List.filter_filter]
    refine List.filter_congr fun j hj => ?_
    by_cases hji : j = i
    · subst hji
      rw [lget_eq true true (by omega)]
      simp
    · rw [lget_ne true true (fun h' => hji h'.symm)]
      simp [hji]
  rw [e]
  exact List.length_filter_lt_length_iff_exists.2 ⟨i, List.mem_filter.2 ⟨List.mem_range.2 hi, by rw [h]; rfl⟩, by simp⟩
theorem all_listed {ops : Array Oper} (hf : FreeOk ops) {listed : Array Bool} (hl : listed.size = ops.size) (h : Region.ready .any ops listed = []) : ∀ i, i < ops.size → listed.getD i true = true := by
  intro i
  induction i using Nat.strongRecOn with
  | ind i ih =>
    intro hi
    by_cases hg : listed.getD i true = true
    · exact hg
    · exfalso
      have hm : i ∈ Region.ready .any ops listed := mem_ready.2 ⟨by simpa using hg, ops[i], Array.getElem?_eq_getElem hi, fun e he hb => by
        have h1 := hf.b i ops[i] (Array.getElem?_eq_getElem hi) e he hb
        have h2 := ih e.on h1 (by omega)
        rw [lget_any false true (by omega)]
        exact h2⟩
      rw [h] at hm
      cases hm
theorem FInv.done {ops : Array Oper} {a : Act} {R0 : World → Prop} {Ψ : Nat → Value → World → Prop} {listed : Array Bool} {a' : Act} {W : World} (hf : FreeOk ops)
    (hsz : ∀ (i : Nat) (oi : Oper) (t : Tmp), ops[i]? = some oi → oi.dst = some t → t < a.tmps.size) (h : FInv ops a R0 Ψ listed a' W) (hall : ∀ i, i < ops.size → listed.getD i true = true) :
    ∃ V : Nat → Value, (∀ (i : Nat) (oi : Oper) (t : Tmp), ops[i]? = some oi → oi.dst = some t → Ψ i (V i) W) ∧ a' = putAll a ops.toList 0 V := by
  refine ⟨fun i => match ops[i]? with | some oi => (match oi.dst with | some t => a'.eval (.tmp t) | none => undef) | none => undef, fun i oi t hi ht => ?_, ?_⟩
  · have := h.ps i oi t hi (hall i (Array.getElem?_eq_some_iff.1 hi).1) ht
    simp only [hi, ht]
    exact this
  · obtain ⟨T', D'⟩ := a'
    have hd := putAll_defers (fun i => match ops[i]? with | some oi => (match oi.dst with | some t => (⟨T', D'⟩ : Act).eval (.tmp t) | none => undef) | none => undef) ops.toList a 0
    have key : ∀ (t : Nat), T'[t]? = (putAll a ops.toList 0 (fun i => match ops[i]? with | some oi => (match oi.dst with | some t => (⟨T', D'⟩ : Act).eval (.tmp t) | none => undef) | none => undef)).tmps[t]? := by
      intro t
      by_cases hw : ∃ (i : Nat) (oi : Oper), ops[i]? = some oi ∧ oi.dst = some t
      · obtain ⟨i, oi, hi, ht⟩ := hw
        have hlt := hsz i oi t hi ht
        rw [putAll_at _ ht ops.toList a 0 i hlt (by simpa using hi) (fun j' o' h1 h2 => hf.u j' o' i oi t (by simpa using h1) hi h2 ht), Nat.zero_add]
        simp only [hi, ht]
        have hlt' : t < T'.size := Nat.lt_of_lt_of_eq hlt (show T'.size = a.tmps.size from h.sz).symm
        rw [Array.getElem?_eq_getElem hlt']
        simp [Act.eval, Array.getD_eq_getD_getElem?, hlt']
      · have hn : ∀ (j : Nat) (oj : Oper), ops[j]? = some oj → oj.dst ≠ some t := fun j oj hj e => hw ⟨j, oj, hj, e⟩
        rw [putAll_out _ ops.toList a 0 (fun o ho e => by
          obtain ⟨j, hj, rfl⟩ := List.getElem_of_mem ho
          exact hn j _ (by first | (simp; done) | (simp at hj ⊢; exact ⟨hj, rfl⟩)) e)]
        exact h.out t (fun j oj hj e => absurd e (hn j oj hj))
    generalize putAll a ops.toList 0 _ = b at *
    obtain ⟨T, D⟩ := b
    have e1 : T' = T := Array.ext_getElem? key
    have e2 : D' = D := h.df.trans hd.symm
    rw [e1, e2]
theorem wpAny_free {ops : Array Oper} (hf : FreeOk ops) {Q : Exit → Act → World → Prop} {a : Act} (hsz : ∀ (i : Nat) (oi : Oper) (t : Tmp), ops[i]? = some oi → oi.dst = some t → t < a.tmps.size)
    (R0 : World → Prop) (Rel : World → World → Prop) (Ψ : Nat → Value → World → Prop) (hst : ∀ i v W W', Rel W W' → Ψ i v W → Ψ i v W')
    (hob : ∀ (i : Nat) (oi : Oper), ops[i]? = some oi → ∀ (ρ : Operand → Value) (W : World), R0 W → (∀ v, ρ (.const v) = v) → (∀ g, ρ (.global g) = .pointer (some ⟨g, 0, none⟩)) → (∀ f, ρ (.func f) = .func (.func f) #[] #[]) →
      (∀ t, (∀ (j : Nat) (oj : Oper), ops[j]? = some oj → oj.dst ≠ some t) → ρ (.tmp t) = a.eval (.tmp t)) → (∀ (j : Nat) (oj : Oper) (t : Tmp), ops[j]? = some oj → oj.dst = some t → t ∈ oi.looksAt ops → Ψ j (ρ (.tmp t)) W) →
      outs P oi ρ W fun v W' => R0 W' ∧ Rel W W' ∧ Ψ i v W')
    (hfin : ∀ (V : Nat → Value) (W : World), R0 W → (∀ (i : Nat) (oi : Oper) (t : Tmp), ops[i]? = some oi → oi.dst = some t → Ψ i (V i) W) → Q .normal (putAll a ops.toList 0 V) W) :
    ∀ (fuel : Nat) (listed : Array Bool) (a' : Act) (W : World), FInv ops a R0 Ψ listed a' W → unl ops.size listed ≤ fuel → wpAny P .any ops Q fuel listed a' W := by
  have fin : ∀ (listed : Array Bool) (a' : Act) (W : World), FInv ops a R0 Ψ listed a' W → Region.ready .any ops listed = [] → Q .normal a' W := fun listed a' W h hr => by
    obtain ⟨V, h1, h2⟩ := h.done hf hsz (all_listed hf h.lz hr)
    rw [h2]
    exact hfin V W h.r h1
  intro fuel
  induction fuel with
  | zero =>
    intro listed a' W h hu
    have hr : Region.ready .any ops listed = [] := by
      have h0 : (List.range ops.size).filter (fun i => !listed.getD i true) = [] := List.eq_nil_of_length_eq_zero (by unfold unl at hu; omega)
      refine List.eq_nil_iff_forall_not_mem.2 fun i hi => ?_
      obtain ⟨h1, oi, h2, -⟩ := mem_ready.1 hi
      have : i ∈ (List.range ops.size).filter (fun i => !listed.getD i true) := List.mem_filter.2 ⟨List.mem_range.2 (Array.getElem?_eq_some_iff.1 h2).1, by rw [h1]; rfl⟩
      rw [h0] at this
      cases this
    exact ⟨hr, fin listed a' W h hr⟩
  | succ fuel ih =>
    intro listed a' W h hu
    refine ⟨fin listed a' W h, fun i hi => ?_⟩
    obtain ⟨h1, oi, h2, h3⟩ := mem_ready.1 hi
    have hlt : i < ops.size := (Array.getElem?_eq_some_iff.1 h2).1
    unfold wpOp
    simp only [h2]
    rw [if_pos (show Region.wanted oi (yielded ops a'.tmps) = true from by simp [Region.wanted, hf.g i oi h2])]
    refine .inl (outs_wp (R := fun v W' => R0 W' ∧ Rel W W' ∧ Ψ i v W') (hob i oi h2 a'.eval W h.r (fun _ => rfl) (fun _ => rfl) (fun _ => rfl) (fun t ht => ?_) (fun j oj t hj hd hl => ?_)) ?_)
    · have := h.out t (fun j oj hj e => absurd e (ht j oj hj))
      simp [Act.eval, Array.getD_eq_getD_getElem?, this]
    · obtain ⟨e, he, hb, ho⟩ := hf.d i oi j oj t h2 hj hd hl
      have := h3 e he hb
      rw [ho] at this
      refine h.ps j oj t hj ?_ hd
      rw [lget_any true false (by have := h.lz; have := (Array.getElem?_eq_some_iff.1 hj).1; omega)]
      exact this
    · rintro v W' ⟨r1, r2, r3⟩
      have hli : i < listed.size := by have := h.lz; omega
      refine ih _ _ _ ⟨by simpa using h.lz, by rw [put_size]; exact h.sz, by rw [put_defers]; exact h.df, fun t ht => ?_, fun j oj t hj hl hd => ?_, r1⟩ ?_
      · have hne : oi.dst ≠ some t := fun e => by
          have := ht i oi h2 e
          rw [lget_eq true true hli] at this
          cases this
        rw [put_get_ne _ _ hne]
        refine h.out t fun j oj hj e => ?_
        have h4 := ht j oj hj e
        by_cases hji : i = j
        · subst hji; exact h1
        · rw [lget_ne true true hji] at h4; exact h4
      · by_cases hji : i = j
        · subst hji
          obtain rfl : oi = oj := by rw [h2] at hj; injection hj
          have hlt2 : t < a'.tmps.size := by rw [h.sz]; exact hsz i oi t h2 hd
          rw [hd]
          have : ((a'.put (some t) v).eval (.tmp t)) = v := by
            simp [Act.eval, Array.getD_eq_getD_getElem?, put_get a' v hlt2]
          rw [this]
          exact r3
        · rw [lget_ne true true hji] at hl
          have hne : oi.dst ≠ some t := fun e => hji (hf.u i oi j oj t h2 hj e hd)
          have : ((a'.put oi.dst v).eval (.tmp t)) = a'.eval (.tmp t) := by
            simp [Act.eval, Array.getD_eq_getD_getElem?, put_get_ne a' v hne]
          rw [this]
          exact hst j _ W W' r2 (h.ps j oj t hj hl hd)
      · have := unl_lt hlt h.lz h1
        omega
theorem wp_region_free {id : Nat} {Q : Exit → Act → World → Prop} {a : Act} {w : World} {ops : Array Oper} (hm : P.follows .mixedOrders = true) (hB : freeB ops = true)
    (hsz : ∀ (i : Nat) (oi : Oper) (t : Tmp), ops[i]? = some oi → oi.dst = some t → t < a.tmps.size)
    (R0 : World → Prop) (Rel : World → World → Prop) (Ψ : Nat → Value → World → Prop) (hst : ∀ i v W W', Rel W W' → Ψ i v W → Ψ i v W') (h0 : R0 { w with drawn := w.drawn + 1 })
    (hob : ∀ (i : Nat) (oi : Oper), ops[i]? = some oi → ∀ (ρ : Operand → Value) (W : World), R0 W → (∀ v, ρ (.const v) = v) → (∀ g, ρ (.global g) = .pointer (some ⟨g, 0, none⟩)) → (∀ f, ρ (.func f) = .func (.func f) #[] #[]) →
      (∀ t, (∀ (j : Nat) (oj : Oper), ops[j]? = some oj → oj.dst ≠ some t) → ρ (.tmp t) = a.eval (.tmp t)) → (∀ (j : Nat) (oj : Oper) (t : Tmp), ops[j]? = some oj → oj.dst = some t → t ∈ oi.looksAt ops → Ψ j (ρ (.tmp t)) W) →
      outs P oi ρ W fun v W' => R0 W' ∧ Rel W W' ∧ Ψ i v W')
    (hfin : ∀ (V : Nat → Value) (W : World), R0 W → (∀ (i : Nat) (oi : Oper) (t : Tmp), ops[i]? = some oi → oi.dst = some t → Ψ i (V i) W) → Q .normal (putAll a ops.toList 0 V) W) : (Code.region id ops true).wp P Q a w := by
  have hf := freeOk hB
  refine wp_region_any hm (wpAny_free hf hsz R0 Rel Ψ hst hob hfin ops.size _ a _ ⟨by simp, rfl, rfl, fun t _ => rfl, fun j oj t hj hl hd => ?_, h0⟩ ?_)
  · rw [getD_replicate_in (by exact (Array.getElem?_eq_some_iff.1 hj).1)] at hl
    cases hl
  · unfold unl
    exact Nat.le_trans (List.length_filter_le _ _) (by simp)
def noW (ops : Array Oper) (t : Tmp) : Bool := ops.toList.all fun o => o.dst != some t
def isW (ops : Array Oper) (j : Nat) (t : Tmp) : Bool := match ops[j]? with | some o => o.dst == some t | none => false
def szB (ops : Array Oper) (n : Nat) : Bool := ops.toList.all fun o => match o.dst with | some t => decide (t < n) | none => false
def AllOb (f : Nat → Oper → Prop) : List Oper → Nat → Prop
  | [], _ => True
  | o :: l, k => f k o ∧ AllOb f l (k + 1)
theorem allOb_get {f : Nat → Oper → Prop} : ∀ (l : List Oper) (k : Nat), AllOb f l k → ∀ (i : Nat) (o : Oper), l[i]? = some o → f (k + i) o
  | [], k, h, i, o, hi => by simp at hi
  | o' :: l, k, h, 0, o, hi => by
    obtain rfl : o' = o := by simpa using hi
    exact h.1
  | o' :: l, k, h, i + 1, o, hi => by
    have := allOb_get l (k + 1) h.2 i o (by simpa using hi)
    rwa [show k + 1 + i = k + (i + 1) from by omega] at this
def Told (P : Program) (ops : Array Oper) (a : Act) (R0 : World → Prop) (Rel : World → World → Prop) (Ψ : Nat → Value → World → Prop) (i : Nat) (oi : Oper) : Prop :=
  ∀ (ρ : Operand → Value) (W : World), R0 W → (∀ v, ρ (.const v) = v) → (∀ g, ρ (.global g) = .pointer (some ⟨g, 0, none⟩)) → (∀ f, ρ (.func f) = .func (.func f) #[] #[]) →
    (∀ t, noW ops t = true → ρ (.tmp t) = a.eval (.tmp t)) → (∀ j t, isW ops j t = true → (oi.looksAt ops).contains t = true → Ψ j (ρ (.tmp t)) W) →
    outs P oi ρ W fun v W' => R0 W' ∧ Rel W W' ∧ Ψ i v W'
theorem wp_region_told {id : Nat} {Q : Exit → Act → World → Prop} {a : Act} {w : World} {l : List Oper} (hm : P.follows .mixedOrders = true) (hB : freeB l.toArray = true) (n : Nat) (hn : a.tmps.size = n) (hs : szB l.toArray n = true)
    (R0 : World → Prop) (Rel : World → World → Prop) (Ψ : Nat → Value → World → Prop) (hst : ∀ i v W W', Rel W W' → Ψ i v W → Ψ i v W') (h0 : R0 { w with drawn := w.drawn + 1 })
    (hob : AllOb (Told P l.toArray a R0 Rel Ψ) l 0)
    (hfin : ∀ (V : Nat → Value) (W : World), R0 W → (∀ i, i < l.length → Ψ i (V i) W) → Q .normal (putAll a l 0 V) W) : (Code.region id l.toArray true).wp P Q a w := by
  have hall : ∀ (o : Oper), o ∈ l → ∃ t, o.dst = some t ∧ t < n := fun o ho => by
    have := List.all_eq_true.1 hs o (by simpa using ho)
    cases hd : o.dst with
    | none => rw [hd] at this; cases this
    | some t => rw [hd] at this; exact ⟨t, rfl, of_decide_eq_true this⟩
  refine wp_region_free hm hB (fun i oi t hi ht => ?_) R0 Rel Ψ hst h0 (fun i oi hi ρ W r c g f ho hd => ?_) (fun V W r hV => ?_)
  · obtain ⟨t', h1, h2⟩ := hall oi (List.mem_of_getElem? (by simpa using hi))
    rw [ht] at h1
    cases h1
    exact Nat.lt_of_lt_of_eq h2 hn.symm
  · have h1 := allOb_get l 0 hob i oi (by simpa using hi)
    rw [Nat.zero_add] at h1
    refine h1 ρ W r c g f (fun t ht => ho t fun j oj hj e => ?_) (fun j t hw hl => ?_)
    · have := List.all_eq_true.1 ht oj (by
        have := List.mem_of_getElem? (l := l) (by simpa using hj)
        simpa using this)
      rw [e] at this
      simp at this
    · unfold isW at hw
      cases hj : (l.toArray)[j]? with
      | none => rw [hj] at hw; cases hw
      | some oj =>
        rw [hj] at hw
        exact hd j oj t hj (by simpa using hw) (by simpa using hl)
  · have := hfin V W r (fun i hi => by
      obtain ⟨t, h1, -⟩ := hall l[i] (List.getElem_mem hi)
      exact hV i l[i] t (by simp [hi]) h1)
    simpa using this
theorem outs_val {o : Oper} {ρ : Operand → Value} {W : World} {R : Value → World → Prop} (s : Sem Value) (he : execOp ρ o = (do pure (Next.value (← s)))) {v : Value} {W' : World} (hr : s.run P W = .ok v W') (h : R v W') : outs P o ρ W R := by
  unfold outs
  rw [he, Sem.run_bind, hr]
  exact h
theorem outs_run {o : Oper} {ρ : Operand → Value} {W : World} {R : Value → World → Prop} {v : Value} {W' : World} (he : (execOp ρ o).run P W = .ok (.value v) W') (h : R v W') : outs P o ρ W R := by
  unfold outs
  rw [he]
  exact h
theorem outs_call {o : Oper} {ρ : Operand → Value} {W : World} {R : Value → World → Prop} {f : FuncId} {args : Array Value} (he : (execOp ρ o).run P W = .ok (.enter f args) W) (h : Calls P f args W fun e W' => ∃ v, e = .returned v ∧ R v W') :
    outs P o ρ W R := by
  unfold outs
  rw [he]
  exact h
end
structure KeepR (W W' : World) : Prop where
  size : W.heap.size ≤ W'.heap.size
  cell : ∀ a v, W.cell? a = some v → W'.cell? a = some v
  shape : ∀ g x, W.shape? g = some x → W'.shape? g = some x
theorem KeepR.below {W W' : World} (h : Below W.heap.size W W') : KeepR W W' :=
  ⟨h.size, fun a v hv => (h.cell (p := a) (World.block_lt_of_cell? _ _ hv)).trans hv, fun g x hx => by
    have hl : g < W.heap.size := by
      rcases Nat.lt_or_ge g W.heap.size with h' | h'
      · exact h'
      · unfold World.shape? at hx
        rw [Array.getElem?_eq_none h'] at hx
        cases hx
    unfold World.shape? at hx ⊢
    rw [h.block g hl]
    exact hx⟩
theorem KeepR.reads {W W' : World} (h : KeepR W W') {sz n : Nat} {v : Value} {cs : List Value} (hr : Reads W sz v n cs) : Reads W' sz v n cs := by
  obtain ⟨a, cap, hv, hl, hn, hm, ha, hp⟩ := hr
  refine ⟨a, cap, hv, hl, hn, hm, ha, fun h0 => ?_⟩
  obtain ⟨b, off, e, hlt, hc⟩ := hp h0
  exact ⟨b, off, e, Nat.lt_of_lt_of_le hlt h.size, fun j hj => by
    rw [List.getElem?_eq_getElem hj]
    exact h.cell _ _ (by rw [hc j hj, List.getElem?_eq_getElem hj])⟩
theorem KeepR.bytes {W W' : World} (h : KeepR W W') {v : Value} {l : List Nat} (hr : Bytes W v l) : Bytes W' v l := ⟨h.reads hr.1, hr.2⟩
theorem KeepR.lists {W W' : World} (h : KeepR W W') {q : Nat} {vs : List Value} {ls : List (List Nat)} (hr : ListsB W q vs ls) : ListsB W' q vs ls :=
  ⟨hr.hl, Nat.lt_of_lt_of_le hr.hq h.size, fun j hj => by
    rw [List.getElem?_eq_getElem hj]
    exact h.cell _ _ (by rw [hr.hc j hj, List.getElem?_eq_getElem hj]), fun j v hv => h.bytes (hr.hb j v hv)⟩
theorem freeze_keep {W : World} {g k n : Nat} : KeepR W (W.freeze ⟨g, k, none⟩ n) ∧ ∀ (B : Nat) (w0 : World), B ≤ g → Below B w0 W → Below B w0 (W.freeze ⟨g, k, none⟩ n) := by
  unfold World.freeze
  split
  · exact ⟨⟨Nat.le_refl _, fun _ _ h => h, fun _ _ h => h⟩, fun _ _ _ h => h⟩
  · have hk : ∀ j, j ≠ g → ∀ f : Obj → Obj, (W.heap.modify g f)[j]? = W.heap[j]? := fun j hj f => by
      rw [Array.getElem?_modify, if_neg (fun e => hj e.symm)]
    have hg : ∀ f : Obj → Obj, (W.heap.modify g f)[g]? = W.heap[g]?.map f := fun f => by
      rw [Array.getElem?_modify, if_pos rfl]
    refine ⟨⟨by simp, fun a v hv => ?_, fun j x hx => ?_⟩, fun B w0 hB hb => ⟨hb.os, hb.tape, hb.output, by simpa using hb.size, fun j hj => ?_⟩⟩
    · unfold World.cell? at hv ⊢
      by_cases e : a.block = g
      · simp only at hv ⊢
        rw [e] at hv ⊢
        rw [hg]
        cases ho : W.heap[g]? with
        | none => rw [ho] at hv; cases hv
        | some o =>
          rw [ho] at hv
          cases o <;> first | exact hv | cases hv
      · simp only
        rw [hk _ e]; exact hv
    · unfold World.shape? at hx ⊢
      by_cases e : j = g
      · simp only
        rw [e] at hx ⊢
        rw [hg]
        cases ho : W.heap[g]? with
        | none => rw [ho] at hx; cases hx
        | some o =>
          rw [ho] at hx
          cases o <;> first | exact hx | cases hx
      · simp only
        rw [hk _ e]; exact hx
    · show (W.heap.modify g _)[j]? = _
      rw [hk j (by omega)]
      exact hb.block j hj
theorem run_convert_own {W : World} {g n c k : Nat} {e : TypeId} (hs : W.shape? g = some (e, k)) : (convert 24 24 (.slice (some ⟨g, 0, none⟩) n c)).run Tryz.prog W = .ok (.slice (some ⟨g, 0, none⟩) n c) (W.freeze ⟨g, k, none⟩ 1) := by
  simp [convert, run_underlying Tryz.underlying24, run_underlying Tryz.underlying5, markStringish, hs]
theorem bs24_4m (w : World) : (Instr.buildSlice 24 4 #[(0, .int .u8 83), (1, .int .u8 65), (2, .int .u8 86), (3, .int .u8 33)]).run Tryz.prog w = .ok (.slice (some ⟨w.heap.size, 0, none⟩) 4 4) (w.alloc (.cells #[.int .u8 83, .int .u8 65, .int .u8 86, .int .u8 33] 5)) := by kernel_rfl
theorem bs486_1 (x : Int) (w : World) : (Instr.buildSlice 173 1 #[(0, .int .u64 x)]).run Tryz.prog w = .ok (.slice (some ⟨w.heap.size, 0, none⟩) 1 1) (w.alloc (.cells #[.int .u64 x] 98)) := by kernel_rfl
theorem bs23_3w (x y z : Int) (w : World) : (Instr.buildSlice 23 3 #[(0, .int .u32 x), (1, .int .u32 y), (2, .int .u32 z)]).run Tryz.prog w = .ok (.slice (some ⟨w.heap.size, 0, none⟩) 3 3) (w.alloc (.cells #[.int .u32 x, .int .u32 y, .int .u32 z] 25)) := by kernel_rfl
theorem bs86_5 (a1 a2 a3 a4 a5 : Option Addr) (n1 c1 n2 c2 n3 c3 n4 c4 n5 c5 : Nat) (w : World) : (Instr.buildSlice 150 5 #[(0, .slice a1 n1 c1), (1, .slice a2 n2 c2), (2, .slice a3 n3 c3), (3, .slice a4 n4 c4), (4, .slice a5 n5 c5)]).run Tryz.prog w =
    .ok (.slice (some ⟨w.heap.size, 0, none⟩) 5 5) (w.alloc (.cells #[.slice a1 n1 c1, .slice a2 n2 c2, .slice a3 n3 c3, .slice a4 n4 c4, .slice a5 n5 c5] 24)) := by kernel_rfl
theorem head_split (dig delta mark sum : Nat) : headN dig delta mark sum = [83, 65, 86, 33] ++ leW 4 1 ++ leW 8 dig ++ (leW 4 delta ++ (leW 4 mark ++ leW 4 sum)) := by
  simp [headN, List.append_assoc]
theorem with_head (dig delta mark x : Nat) (q : List Nat) : withN (headN dig delta mark 0 ++ q) 24 x = headN dig delta mark x ++ q := by
  have e : ∀ t, headN dig delta mark t ++ q = ([83, 65, 86, 33] ++ (leW 4 1 ++ (leW 8 dig ++ (leW 4 delta ++ leW 4 mark)))) ++ (leW 4 t ++ q) := fun t => by
    simp only [headN, List.append_assoc]
  have hl : ([83, 65, 86, 33] ++ (leW 4 1 ++ (leW 8 dig ++ (leW 4 delta ++ leW 4 mark)))).length = 24 := by simp [leW_length]
  unfold withN
  rw [List.drop_left' (headN_length ..), e 0, List.take_left' hl, e x, ← leW4]
theorem body_le {s : St} {base : List Nat} (hl : base.length = s.data.length) (hn : base.length ≤ 65536) (ho : s.ops.length ≤ 65535) : (bodyN s base).length ≤ 900000 := by
  have := runs_bytes hl hn (runsN base s.data).length
  rw [List.take_length] at this
  rw [body_length]
  omega
theorem body_lt {s : St} {base : List Nat} (hs : s.Small) (hl : base.length = s.data.length) : ∀ x ∈ bodyN s base, x < 256 := fun x hx => file_lt (dig := 0) (delta := 0) (mark := 0) hs hl x (List.mem_append_right _ hx)
theorem concat5 {w : World} {g : Nat} {vs : List Value} {l0 l1 l2 l3 l4 : List Nat} (ht : [l0, l1, l2, l3, l4].flatten.length ≤ 100000000) (h : ListsB w g vs [l0, l1, l2, l3, l4]) :
    Calls Tryz.prog 53 #[.slice (some ⟨g, 0, none⟩) 5 5] w fun e w' => ∃ v, e = .returned v ∧ w'.ownsRow w.heap.size 5 1 v [l0, l1, l2, l3, l4].flatten.length (encN .u8 [l0, l1, l2, l3, l4].flatten) ∧ Below w.heap.size w w' :=
  concat_any g 5 5 vs _ rfl (by decide) ht w h
def fileΨ (w0 : World) (mb q dig delta mark : Nat) (rest : Value) (body : List Nat) : Nat → Value → World → Prop
  | 0, v, W => ∃ g, v = .slice (some ⟨g, 0, none⟩) 4 4 ∧ w0.heap.size ≤ g ∧ W.shape? g = some (5, 4) ∧ Bytes W v [83, 65, 86, 33]
  | 1, v, W => Bytes W v [83, 65, 86, 33]
  | 2, v, W => ∃ g, v = .slice (some ⟨g, 0, none⟩) 1 1 ∧ W.cell? ⟨g, 0, none⟩ = some (.int .u32 1)
  | 3, v, W => Bytes W v (leW 4 1)
  | 4, v, W => v = .pointer (some ⟨mb, 0, none⟩)
  | 5, v, W => v = .int .u64 dig
  | 6, v, W => ∃ g, v = .slice (some ⟨g, 0, none⟩) 1 1 ∧ W.cell? ⟨g, 0, none⟩ = some (.int .u64 dig)
  | 7, v, W => Bytes W v (leW 8 dig)
  | 8, v, W => v = .pointer (some ⟨q, 0, none⟩)
  | 9, v, W => v = .int .u32 delta
  | 10, v, W => v = .pointer (some ⟨q, 1, none⟩)
  | 11, v, W => v = .int .u32 mark
  | 12, v, W => ∃ g, v = .slice (some ⟨g, 0, none⟩) 3 3 ∧ W.cell? ⟨g, 0, none⟩ = some (.int .u32 delta) ∧ W.cell? ⟨g, 1, none⟩ = some (.int .u32 mark) ∧ W.cell? ⟨g, 2, none⟩ = some (.int .u32 0)
  | 13, v, W => Bytes W v (leW 4 delta ++ (leW 4 mark ++ leW 4 0))
  | 14, v, W => v = rest
  | 15, v, W => ∃ g vs, v = .slice (some ⟨g, 0, none⟩) 5 5 ∧ ListsB W g vs [[83, 65, 86, 33], leW 4 1, leW 8 dig, leW 4 delta ++ (leW 4 mark ++ leW 4 0), body]
  | _, v, W => Bytes W v (headN dig delta mark 0 ++ body)
theorem fileΨ_keep {w0 : World} {mb q dig delta mark : Nat} {rest : Value} {body : List Nat} : ∀ (i : Nat) (v : Value) (W W' : World), KeepR W W' → fileΨ w0 mb q dig delta mark rest body i v W → fileΨ w0 mb q dig delta mark rest body i v W'
  | 0, v, W, W', k, ⟨g, h1, h2, h3, h4⟩ => ⟨g, h1, h2, k.shape _ _ h3, k.bytes h4⟩
  | 1, v, W, W', k, h => k.bytes h
  | 2, v, W, W', k, ⟨g, h1, h2⟩ => ⟨g, h1, k.cell _ _ h2⟩
  | 3, v, W, W', k, h => k.bytes h
  | 4, v, W, W', k, h => h
  | 5, v, W, W', k, h => h
  | 6, v, W, W', k, ⟨g, h1, h2⟩ => ⟨g, h1, k.cell _ _ h2⟩
  | 7, v, W, W', k, h => k.bytes h
  | 8, v, W, W', k, h => h
  | 9, v, W, W', k, h => h
  | 10, v, W, W', k, h => h
  | 11, v, W, W', k, h => h
  | 12, v, W, W', k, ⟨g, h1, h2, h3, h4⟩ => ⟨g, h1, k.cell _ _ h2, k.cell _ _ h3, k.cell _ _ h4⟩
  | 13, v, W, W', k, h => k.bytes h
  | 14, v, W, W', k, h => h
  | 15, v, W, W', k, ⟨g, vs, h1, h2⟩ => ⟨g, vs, h1, k.lists h2⟩
  | _ + 16, v, W, W', k, h => k.bytes h
theorem KeepR.refl (W : World) : KeepR W W := ⟨Nat.le_refl _, fun _ _ h => h, fun _ _ h => h⟩
theorem shape_new (W : World) (cs : Array Value) (t : TypeId) : (W.alloc (.cells cs t)).shape? W.heap.size = some (t, cs.size) := by
  unfold World.shape?
  rw [heap_alloc_new]
theorem put64_one (b : Nat) (x : Nat) (hx : x < 18446744073709551616) (w : World) (hc : w.cell? ⟨b, 0, none⟩ = some (.int .u64 x)) :
    Calls Tryz.prog 55 #[.slice (some ⟨b, 0, none⟩) 1 1] w fun e w' => ∃ v, e = .returned v ∧ w'.ownsRow w.heap.size 5 1 v 8 (encN .u8 (leW 8 x)) ∧ Below w.heap.size w w' := by
  refine (put64_any (some ⟨b, 0, none⟩) 1 [x] (by simpa using hx) w ⟨some ⟨b, 0, none⟩, 1, rfl, rfl, Nat.le_refl _, by decide, (fun h => by cases h), fun _ => ⟨b, 0, rfl, World.block_lt_of_cell? w _ hc, fun j hj => ?_⟩⟩ (by simp)).mono ?_
  · have : j = 0 := by simp [encN] at hj; exact hj
    subst this
    exact hc
  · rintro e w' ⟨v', rfl, hown, hg⟩
    refine ⟨v', rfl, ?_, hg.bel⟩
    have h := own_from hown (fun g e => (hg.2 g e).resolve_left (by simp [Value.ownBlock]))
    simpa using h
theorem put3_at (b : Nat) (x y z : Nat) (hx : x < 4294967296) (hy : y < 4294967296) (hz : z < 4294967296) (w : World) (h0 : w.cell? ⟨b, 0, none⟩ = some (.int .u32 x)) (h1 : w.cell? ⟨b, 1, none⟩ = some (.int .u32 y)) (h2 : w.cell? ⟨b, 2, none⟩ = some (.int .u32 z)) :
    Calls Tryz.prog 54 #[.slice (some ⟨b, 0, none⟩) 3 3] w fun e w' => ∃ v, e = .returned v ∧ w'.ownsRow w.heap.size 5 1 v 12 (encN .u8 (leW 4 x ++ (leW 4 y ++ leW 4 z))) ∧ Below w.heap.size w w' := by
  refine (put_any (some ⟨b, 0, none⟩) 3 [x, y, z] (by simp; omega) w ⟨some ⟨b, 0, none⟩, 3, rfl, rfl, Nat.le_refl _, by decide, (fun h => by cases h), fun _ => ⟨b, 0, rfl, World.block_lt_of_cell? w _ h0, fun j hj => ?_⟩⟩ (by simp)).mono ?_
  · have : j = 0 ∨ j = 1 ∨ j = 2 := by simp [encN] at hj; omega
    rcases this with rfl | rfl | rfl
    · exact h0
    · exact h1
    · exact h2
  · rintro e w' ⟨v', rfl, hown, hg⟩
    refine ⟨v', rfl, ?_, hg.bel⟩
    have h := own_from hown (fun g e => (hg.2 g e).resolve_left (by simp [Value.ownBlock]))
    rw [le4s_flat] at h
    simpa using h
theorem lists5 (w : World) (v0 v1 v2 v3 v4 : Value) (l0 l1 l2 l3 l4 : List Nat) (h0 : Bytes w v0 l0) (h1 : Bytes w v1 l1) (h2 : Bytes w v2 l2) (h3 : Bytes w v3 l3) (h4 : Bytes w v4 l4) :
    ListsB (w.alloc (.cells #[v0, v1, v2, v3, v4] 24)) w.heap.size [v0, v1, v2, v3, v4] [l0, l1, l2, l3, l4] := by
  have hb : Below w.heap.size w (w.alloc (.cells #[v0, v1, v2, v3, v4] 24)) := Bel.new w _
  refine ⟨rfl, by simp, fun j hj => ?_, fun j v hv => ?_⟩
  · have : j = 0 ∨ j = 1 ∨ j = 2 ∨ j = 3 ∨ j = 4 := by simp at hj; omega
    rcases this with rfl | rfl | rfl | rfl | rfl <;> simp [go_sem]
  · have hj : j < 5 := by
      have := (List.getElem?_eq_some_iff.1 hv).1
      simpa using this
    have : j = 0 ∨ j = 1 ∨ j = 2 ∨ j = 3 ∨ j = 4 := by omega
    rcases this with rfl | rfl | rfl | rfl | rfl
    · obtain rfl : v0 = v := by simpa using hv
      exact h0.below hb
    · obtain rfl : v1 = v := by simpa using hv
      exact h1.below hb
    · obtain rfl : v2 = v := by simpa using hv
      exact h2.below hb
    · obtain rfl : v3 = v := by simpa using hv
      exact h3.below hb
    · obtain rfl : v4 = v := by simpa using hv
      exact h4.below hb
set_option maxRecDepth 100000 in
set_option maxHeartbeats 8000000 in
theorem file_any {w : World} {mb : Nat} {m : Img} (h : MAt w mb m) {vo vd : Value} {s : St} (hs : StAt w vo vd s) (ho : s.ops.length ≤ 65535) {f p : Nat} {base : List Nat} (hb : BaseAt w f p base) (hl : base.length = s.data.length) (hn : base.length ≤ 65536)
    (dig delta mark : Nat) (hdg : dig = digN m) (hdig : dig < 18446744073709551616) (hdl : delta < 4294967296) (hmk : mark < 4294967296) :
    Calls Tryz.prog 29 #[.pointer (some ⟨mb, 0, none⟩), stV vo vd s, baseV delta mark f p] w fun e w' => ∃ v, e = .returned (.tuple #[v, .int .i64 0]) ∧ w'.ownsRow w.heap.size 5 1 v (fileN dig delta mark base s).length (encN .u8 (fileN dig delta mark base s)) ∧ Below w.heap.size w w' := by
  have hmx := mfollows
  obtain ⟨ao, co, rfl, -, -, hmo, -, -⟩ := hs.o.1
  obtain ⟨ad, cd, rfl, -, hmd, -, -⟩ := hs.d.opened
  obtain ⟨W0, hW0⟩ : ∃ W0, W0 = (w.alloc (.cells #[.int .u8 s.life, .int .u32 s.pc, .int .u32 s.sp, .slice ao s.ops.length co, .slice ad s.data.length cd, .int .u32 s.value, .int .u8 s.fault] 32)).alloc (.cells #[.int .u32 delta, .int .u32 mark, .func (.func f) #[] #[.pointer (some ⟨p, 0, none⟩)]] 79) := ⟨_, rfl⟩
  have hb0 : Below w.heap.size w W0 := by rw [hW0]; exact Bel.al (Bel.new _ _) _
  have HS0 := Lib.hid (StB.row (s := s) (by rw [hW0, Below.heap_alloc _ _ _ (by simp)]; exact heap_alloc_new w _) : StB W0 w.heap.size (.slice ao s.ops.length co) (.slice ad s.data.length cd) s)
  have hr1 : W0.heap[w.heap.size + 1]? = some (.cells #[.int .u32 delta, .int .u32 mark, .func (.func f) #[] #[.pointer (some ⟨p, 0, none⟩)]] 79 (0, 0)) := by
    rw [hW0]
    have := heap_alloc_new (w.alloc (.cells #[.int .u8 s.life, .int .u32 s.pc, .int .u32 s.sp, .slice ao s.ops.length co, .slice ad s.data.length cd, .int .u32 s.value, .int .u8 s.fault] 32)) (.cells #[.int .u32 delta, .int .u32 mark, .func (.func f) #[] #[.pointer (some ⟨p, 0, none⟩)]] 79)
    simpa using this
  have HR1 := Lib.hid hr1
  have hlr : w.heap.size + 1 < W0.heap.size := World.block_lt_of_cell? W0 ⟨w.heap.size + 1, 0, none⟩ (cell_of_row W0 (w.heap.size + 1) 0 _ _ _ hr1)
  have HOw := Lib.hid (own_any (hs.below hb0) ho (hb.below hb0) hl hn delta mark)
  unfold stV baseV at HOw
  have HDg0 := Lib.hid (fun W (hW : Below W0.heap.size W0 W) => ((h.below hb0).below hW).digest)
  rw [← hdg] at HDg0
  clear hdg
  have HB0 := Lib.hid hb0
  have hbl := body_le hl hn ho
  have HBl := Lib.hid (body_lt hs.sm hl)
  have HLt : Hid (∀ x ∈ headN dig delta mark 0 ++ bodyN s base, x < 256) := Lib.hid (fun x hx => by
    rcases List.mem_append.1 hx with h | h
    · have magic : ∀ x ∈ ([83, 65, 86, 33] : List Nat), x < 256 := by decide
      unfold headN at h
      simp only [List.mem_append] at h
      rcases h with h | h | h | h | h | h
      · exact magic x h
      all_goals exact leW_lt _ _ x h
    · exact HBl.out x h)
  have HFl : Hid ([[83, 65, 86, 33], leW 4 1, leW 8 dig, leW 4 delta ++ (leW 4 mark ++ leW 4 0), bodyN s base].flatten = headN dig delta mark 0 ++ bodyN s base) := Lib.hid (by
    rw [head_split]; simp [List.append_assoc])
  have HFn : Hid ((headN dig delta mark 0 ++ bodyN s base).length ≤ 100000000) := Lib.hid (by rw [List.length_append, headN_length]; omega)
  have HFile := Lib.hid (show fileN dig delta mark base s = headN dig delta mark (sumN (headN dig delta mark 0 ++ bodyN s base)) ++ bodyN s base from rfl)
  have HWh := Lib.hid (fun x => with_head dig delta mark x (bodyN s base))
  obtain ⟨d0, d1, d2, d3, d4, d5, d6⟩ := HS0.out
  have r0 := cell_of_row W0 (w.heap.size + 1) 0 _ _ _ hr1
  have r1 := cell_of_row W0 (w.heap.size + 1) 1 _ _ _ hr1
  have r2 := cell_of_row W0 (w.heap.size + 1) 2 _ _ _ hr1
  clear hb hs h hr1 hb0 hmo hmd
  unfold stV baseV
  go_enter Tryz.func29, Tryz.ntmps29
  go_wp2_with fail
  rw [← hW0]
  clear hW0
  refine HOw.out.mono ?_
  rintro e wO ⟨rest, rfl, hor, hbO⟩
  have HC := Lib.hid (fun W (hW : Below wO.heap.size wO W) => And.intro (((Bel.tr hbO hW).cell (p := ⟨w.heap.size + 1, 0, none⟩) hlr).trans (cell_of_row W0 (w.heap.size + 1) 0 _ _ _ HR1.out)) (((Bel.tr hbO hW).cell (p := ⟨w.heap.size + 1, 1, none⟩) hlr).trans (cell_of_row W0 (w.heap.size + 1) 1 _ _ _ HR1.out)))
  have HDg := Lib.hid (fun W (hW : Below wO.heap.size wO W) => HDg0.out W (Bel.tr hbO hW))
  have HRb := Lib.hid (own_bytes hor HBl.out)
  have HBO := Lib.hid (Bel.tr HB0.out hbO)
  obtain ⟨ax, cx, rfl, -⟩ := own_sl hor
  clear hor hbO d0 d1 d2 d3 d4 d5 d6 r0 r1 r2 HOw HDg0 HR1 HS0
  go_wp2_with fail
  refine wp_region_told hmx (by kernel_rfl) 43 rfl (by kernel_rfl) (fun W => Below wO.heap.size wO W) KeepR (fileΨ wO mb (w.heap.size + 1) dig delta mark (.slice ax (bodyN s base).length cx) (bodyN s base)) fileΨ_keep ((Below.refl _ wO).drew) ⟨?_, ?_, ?_, ?_, ?_, ?_, ?_, ?_, ?_, ?_, ?_, ?_, ?_, ?_, ?_, ?_, ?_, ?_, trivial⟩ ?_
  · intro ρ W hW hc hg hf ho hd
    refine outs_val _ rfl (by simp only [List.map_toArray, List.map_cons, List.map_nil, hc]; exact bs24_4m W) ⟨Bel.al hW _, KeepR.below (Bel.new W _), W.heap.size, rfl, hW.size, shape_new W _ _, bytes_new [83, 65, 86, 33] (by decide) (by decide) W 4 rfl _ _ rfl⟩
  · intro ρ W hW hc hg hf ho hd
    obtain ⟨g, e, hg0, hsh, hb⟩ := hd 0 20 (by kernel_rfl) (by kernel_rfl)
    refine outs_val _ rfl (by rw [e]; exact run_convert_own hsh) ⟨freeze_keep.2 _ _ hg0 hW, freeze_keep.1, freeze_keep.1.bytes hb⟩
  · intro ρ W hW hc hg hf ho hd
    refine outs_val _ rfl (by simp only [List.map_toArray, List.map_cons, List.map_nil, hc]; exact bs23_1 1 W) ⟨Bel.al hW _, KeepR.below (Bel.new W _), W.heap.size, rfl, cell1_new W _ _ rfl⟩
  · intro ρ W hW hc hg hf ho hd
    obtain ⟨g, e, hcell⟩ := hd 2 22 (by kernel_rfl) (by kernel_rfl)
    refine outs_call (by simp [go_sem, e, hf]; done) ((put4_one g 1 (by decide) W hcell).mono ?_)
    rintro e' W' ⟨v, rfl, hown, hb⟩
    exact ⟨v, rfl, Bel.tr hW hb, KeepR.below hb, by show Bytes W' v (leW 4 1); rw [leW4]; exact own_bytes hown (le4_lt 1)⟩
  · intro ρ W hW hc hg hf ho hd
    have e : ρ (.tmp 0) = .pointer (some ⟨mb, 0, none⟩) := ho 0 (by kernel_rfl)
    exact outs_run (v := .pointer (some ⟨mb, 0, none⟩)) (W' := W) (by simp [go_sem, e]) ⟨hW, KeepR.refl W, rfl⟩
  · intro ρ W hW hc hg hf ho hd
    have e : ρ (.tmp 24) = .pointer (some ⟨mb, 0, none⟩) := hd 4 24 (by kernel_rfl) (by kernel_rfl)
    refine outs_call (by simp [go_sem, e, hf]; done) ((HDg.out W hW).mono ?_)
    rintro e' W' ⟨rfl, rfl⟩
    exact ⟨_, rfl, hW, KeepR.refl _, rfl⟩
  · intro ρ W hW hc hg hf ho hd
    have e : ρ (.tmp 25) = .int .u64 dig := hd 5 25 (by kernel_rfl) (by kernel_rfl)
    refine outs_val _ rfl (by simp only [List.map_toArray, List.map_cons, List.map_nil, e]; exact bs486_1 _ W) ⟨Bel.al hW _, KeepR.below (Bel.new W _), W.heap.size, rfl, cell1_new W _ _ rfl⟩
  · intro ρ W hW hc hg hf ho hd
    obtain ⟨g, e, hcell⟩ := hd 6 26 (by kernel_rfl) (by kernel_rfl)
    refine outs_call (by simp [go_sem, e, hf]; done) ((put64_one g dig hdig W hcell).mono ?_)
    rintro e' W' ⟨v, rfl, hown, hb⟩
    exact ⟨v, rfl, Bel.tr hW hb, KeepR.below hb, own_bytes hown (leW_lt 8 dig)⟩
  · intro ρ W hW hc hg hf ho hd
    have e : ρ (.tmp 5) = .pointer (some ⟨w.heap.size + 1, 0, none⟩) := ho 5 (by kernel_rfl)
    exact outs_run (v := .pointer (some ⟨w.heap.size + 1, 0, none⟩)) (W' := W) (by simp [go_sem, e]) ⟨hW, KeepR.refl W, rfl⟩
  · intro ρ W hW hc hg hf ho hd
    have e : ρ (.tmp 28) = .pointer (some ⟨w.heap.size + 1, 0, none⟩) := hd 8 28 (by kernel_rfl) (by kernel_rfl)
    have hcell := (HC.out W hW).1
    exact outs_run (v := .int .u32 delta) (W' := W) (by simp [go_sem, e, hcell]) ⟨hW, KeepR.refl W, rfl⟩
  · intro ρ W hW hc hg hf ho hd
    have e : ρ (.tmp 5) = .pointer (some ⟨w.heap.size + 1, 0, none⟩) := ho 5 (by kernel_rfl)
    exact outs_run (v := .pointer (some ⟨w.heap.size + 1, 1, none⟩)) (W' := W) (by simp [go_sem, e]) ⟨hW, KeepR.refl W, rfl⟩
  · intro ρ W hW hc hg hf ho hd
    have e : ρ (.tmp 30) = .pointer (some ⟨w.heap.size + 1, 1, none⟩) := hd 10 30 (by kernel_rfl) (by kernel_rfl)
    have hcell := (HC.out W hW).2
    exact outs_run (v := .int .u32 mark) (W' := W) (by simp [go_sem, e, hcell]) ⟨hW, KeepR.refl W, rfl⟩
  · intro ρ W hW hc hg hf ho hd
    have e1 : ρ (.tmp 29) = .int .u32 delta := hd 9 29 (by kernel_rfl) (by kernel_rfl)
    have e2 : ρ (.tmp 31) = .int .u32 mark := hd 11 31 (by kernel_rfl) (by kernel_rfl)
    refine outs_val _ rfl (by simp only [List.map_toArray, List.map_cons, List.map_nil, e1, e2, hc]; exact bs23_3w _ _ _ W) ⟨Bel.al hW _, KeepR.below (Bel.new W _), W.heap.size, rfl, ?_, ?_, ?_⟩ <;> simp [go_sem]
  · intro ρ W hW hc hg hf ho hd
    obtain ⟨g, e, h1, h2, h3⟩ := hd 12 32 (by kernel_rfl) (by kernel_rfl)
    refine outs_call (by simp [go_sem, e, hf]; done) ((put3_at g delta mark 0 hdl hmk (by decide) W h1 h2 h3).mono ?_)
    rintro e' W' ⟨v, rfl, hown, hb⟩
    exact ⟨v, rfl, Bel.tr hW hb, KeepR.below hb, own_bytes hown (fun x hx => by
      rcases List.mem_append.1 hx with h | h
      · exact leW_lt _ _ x h
      · rcases List.mem_append.1 h with h | h
        · exact leW_lt _ _ x h
        · exact leW_lt _ _ x h)⟩
  · intro ρ W hW hc hg hf ho hd
    have e : ρ (.tmp 8) = (.slice ax (bodyN s base).length cx) := ho 8 (by kernel_rfl)
    exact outs_run (v := (.slice ax (bodyN s base).length cx)) (W' := W) (by simp [go_sem, e]) ⟨hW, KeepR.refl W, rfl⟩
  · intro ρ W hW hc hg hf ho hd
    have b1 : Bytes W (ρ (.tmp 21)) [83, 65, 86, 33] := hd 1 21 (by kernel_rfl) (by kernel_rfl)
    have b2 : Bytes W (ρ (.tmp 23)) (leW 4 1) := hd 3 23 (by kernel_rfl) (by kernel_rfl)
    have b3 : Bytes W (ρ (.tmp 27)) (leW 8 dig) := hd 7 27 (by kernel_rfl) (by kernel_rfl)
    have b4 : Bytes W (ρ (.tmp 33)) (leW 4 delta ++ (leW 4 mark ++ leW 4 0)) := hd 13 33 (by kernel_rfl) (by kernel_rfl)
    have e5 : ρ (.tmp 34) = (.slice ax (bodyN s base).length cx) := hd 14 34 (by kernel_rfl) (by kernel_rfl)
    have b5 : Bytes W (.slice ax (bodyN s base).length cx) (bodyN s base) := HRb.out.below hW
    obtain ⟨x1, y1, e1, -⟩ := b1.1
    obtain ⟨x2, y2, e2, -⟩ := b2.1
    obtain ⟨x3, y3, e3, -⟩ := b3.1
    obtain ⟨x4, y4, e4, -⟩ := b4.1
    obtain ⟨x5, y5, e6, -⟩ := b5.1
    rw [e1] at b1
    rw [e2] at b2
    rw [e3] at b3
    rw [e4] at b4
    rw [e6] at b5
    rw [e6] at e5
    refine outs_val _ rfl (by simp only [List.map_toArray, List.map_cons, List.map_nil, e1, e2, e3, e4, e5]; exact bs86_5 _ _ _ _ _ _ _ _ _ _ _ _ _ _ _ W) ⟨Bel.al hW _, KeepR.below (Bel.new W _), W.heap.size, _, rfl, lists5 W _ _ _ _ _ _ _ _ _ _ b1 b2 b3 b4 b5⟩
  · intro ρ W hW hc hg hf ho hd
    obtain ⟨g, vs, e, hl⟩ := hd 15 35 (by kernel_rfl) (by kernel_rfl)
    refine outs_call (by simp [go_sem, e, hf]; done) ((concat5 (by rw [HFl.out]; exact HFn.out) hl).mono ?_)
    rintro e' W' ⟨v, rfl, hown, hb⟩
    exact ⟨v, rfl, Bel.tr hW hb, KeepR.below hb, by rw [HFl.out] at hown; exact own_bytes hown HLt.out⟩
  · intro ρ W hW hc hg hf ho hd
    have b : Bytes W (ρ (.tmp 36)) (headN dig delta mark 0 ++ bodyN s base) := hd 16 36 (by kernel_rfl) (by kernel_rfl)
    exact outs_run (v := ρ (.tmp 36)) (W' := W) (by simp [go_sem]) ⟨hW, KeepR.refl W, b⟩
  · intro V W hW hV
    have hb17 : Bytes W (V 17) (headN dig delta mark 0 ++ bodyN s base) := hV 17 (by decide)
    simp only [putAll, Act.put, List.setIfInBounds_toArray, List.set_cons_zero, List.set_cons_succ]
    generalize V 17 = u at *
    clear hV
    generalize hhb : headN dig delta mark 0 ++ bodyN s base = hb at *
    have HSm := Lib.hid (sum_bytes u hb W hb17)
    have hlen : 28 ≤ hb.length := by rw [← hhb, List.length_append, headN_length]; omega
    have HWi := Lib.hid (with_any u hb 24 (sumN hb) (sumN_lt hb) (by omega) (by have := HFn.out; omega) W hb17)
    rw [HWh.out, ← HFile.out] at HWi
    have HBW := Lib.hid (Bel.tr HBO.out hW)
    obtain ⟨xu, yu, rfl, -⟩ := hb17.1
    clear hb17 hhb hW
    generalize sumN hb = sm at *
    go_wp2_with fail
    refine HSm.out.mono ?_
    rintro e W2 ⟨rfl, rfl⟩
    go_wp2_with fail
    refine HWi.out.mono ?_
    rintro e W3 ⟨u3, rfl, ho3, hb3⟩
    have HO3 := Lib.hid (own_downT ho3 HBW.out.size)
    have HB3 := Lib.hid (Bel.tr HBW.out hb3)
    obtain ⟨x3, y3, rfl, -⟩ := own_sl ho3
    clear ho3 hb3
    go_wp2_with fail
    go_ret2
    exact ⟨.slice x3 (fileN dig delta mark base s).length y3, rfl, HO3.out, HB3.out⟩
end Go.Proofs.YtflpbgdghaaiaaaGreat
