import Derived.Test.YtgpicmiaanapkaaGreatFoldCoversZ1
import Derived.Deep.RegionLaw
import Derived.Deep.Cut
import Derived.Deep.RegionHeld3
import Derived.Laws.Closers25b
import Derived.Defers
import Derived.Recover
/- procs.cut. -/
namespace Go.Proofs.YtgpicmiaanapkaaGreat
open Go.RowKit
/-- The last procedure ends there. -/
def endAt (ps : List (Nat × Nat × Nat)) (e : Nat) : List (Nat × Nat × Nat) := ps.set (ps.length - 1) ((ps.getD (ps.length - 1) (0, 0, 0)).1, e, (ps.getD (ps.length - 1) (0, 0, 0)).2.2)
def cutStep (ps : List (Nat × Nat × Nat)) (i : Nat) (ins : Nat × Nat) : List (Nat × Nat × Nat) := endAt (if ins.1 = 3 then ps ++ [(i, 0, ins.2)] else ps) (i + 1)
/-- The procedures of the first k instructions. -/
def psTo (code : List (Nat × Nat)) : Nat → List (Nat × Nat × Nat)
  | 0 => []
  | k + 1 => cutStep (psTo code k) k (code.getD k (0, 0))
def ofTo (code : List (Nat × Nat)) : Nat → List Nat
  | 0 => []
  | k + 1 => ofTo code k ++ [(psTo code (k + 1)).length - 1]
theorem endAt_length (ps : List (Nat × Nat × Nat)) (e : Nat) : (endAt ps e).length = ps.length := by simp [endAt]
theorem ofTo_length (code : List (Nat × Nat)) (k : Nat) : (ofTo code k).length = k := by
  induction k with
  | zero => rfl
  | succ k ih => simp [ofTo, ih]
theorem psTo_le (code : List (Nat × Nat)) (k : Nat) : (psTo code k).length ≤ k := by
  induction k with
  | zero => exact Nat.le_refl _
  | succ k ih =>
    show (endAt _ _).length ≤ _
    rw [endAt_length]
    split
    · rw [List.length_append]; simp; omega
    · omega
theorem psTo_pos {code : List (Nat × Nat)} (h0 : (code.getD 0 (0, 0)).1 = 3) (k : Nat) : 0 < (psTo code (k + 1)).length := by
  induction k with
  | zero =>
    show 0 < (endAt _ _).length
    rw [endAt_length, if_pos h0]; simp
  | succ k ih =>
    show 0 < (endAt _ _).length
    rw [endAt_length]
    split
    · rw [List.length_append]; omega
    · exact ih
theorem encP_set (ps : List (Nat × Nat × Nat)) (k : Nat) (hk : k < ps.length) (e : Nat) : (encP ps).set (k * 4 + 1) (.int .u32 e) = encP (ps.set k ((ps.getD k (0, 0, 0)).1, e, (ps.getD k (0, 0, 0)).2.2)) := by
  induction ps generalizing k with
  | nil => simp at hk
  | cons p ps ih =>
    have e1 : encP (p :: ps) = .int .u32 p.1 :: .int .u32 p.2.1 :: .int .u32 p.2.2 :: .int .i64 0 :: encP ps := rfl
    cases k with
    | zero => rw [e1]; rfl
    | succ k =>
      have := ih k (by simpa using hk)
      rw [e1, show (k + 1) * 4 + 1 = (k * 4 + 1) + 1 + 1 + 1 + 1 from by omega]
      simp only [List.set_cons_succ, List.getD_cons_succ]
      rw [this]
      rfl
theorem zeroProcs (w : World) : (zeroValue 406).run Tryz.prog w = .ok (.agg #[.slice none 0 0, .slice none 0 0, .slice none 0 0]) w := by kernel_rfl
theorem run_buildProcs (w : World) : (Instr.build 406 #[]).run Tryz.prog w = .ok (.agg #[.slice none 0 0, .slice none 0 0, .slice none 0 0]) w := by kernel_rfl
theorem run_build39_2 (x y : Int) (w : World) : (Instr.build 259 #[(0, .int .u32 x), (2, .int .u32 y)]).run Tryz.prog w = .ok (.agg #[.int .u32 x, .int .u32 0, .int .u32 y, .int .i64 0]) w := by kernel_rfl
theorem run_buildSlice64 (x y z : Int) (w : World) : (Instr.buildSlice 256 1 #[(0, .agg #[.int .u32 x, .int .u32 y, .int .u32 z, .int .i64 0])]).run Tryz.prog w = .ok (.slice (some ⟨w.heap.size, 0, none⟩) 1 1) (w.alloc (.cells #[.int .u32 x, .int .u32 y, .int .u32 z, .int .i64 0] 259)) := by kernel_rfl
theorem run_buildSlice73 (x : Int) (w : World) : (Instr.buildSlice 227 1 #[(0, .int .i64 x)]).run Tryz.prog w = .ok (.slice (some ⟨w.heap.size, 0, none⟩) 1 1) (w.alloc (.cells #[.int .i64 x] 3)) := by kernel_rfl
theorem info39 : (Tryz.prog.info? 259).map (fun i => (i.zero, i.size, i.bytes)) = some (some (.agg #[.int .u32 0, .int .u32 0, .int .u32 0, .int .i64 0]), 4, 24) := by kernel_rfl
theorem info3' : (Tryz.prog.info? 3).map (fun i => (i.zero, i.size, i.bytes)) = some (some (.int .i64 0), 1, 8) := by kernel_rfl
theorem cells_new2 (w : World) (a b : Value) (t : TypeId) : (w.alloc (.cells #[a, b] t)).cell? ⟨w.heap.size, 0, none⟩ = some a ∧ (w.alloc (.cells #[a, b] t)).cell? ⟨w.heap.size, 1, none⟩ = some b := ⟨by simp [go_sem], by simp [go_sem]⟩
/-- What cut keeps: the struct, two rows that grow. -/
structure CutI (w W : World) (b : Nat) (vp vo : Value) (ps : List (Nat × Nat × Nat)) (ofs : List Nat) : Prop where
  c0 : W.cell? ⟨b, 0, none⟩ = some vp
  c1 : W.cell? ⟨b, 1, none⟩ = some vo
  c2 : W.cell? ⟨b, 2, none⟩ = some (.slice none 0 0)
  f : ∀ j, W.frozen? ⟨b, j, none⟩ = false
  hb : w.heap.size ≤ b
  op : W.ownsRow w.heap.size 259 4 vp ps.length (encP ps)
  oo : W.ownsRow w.heap.size 3 1 vo ofs.length (encN .i64 ofs)
  np : vp.ownBlock ≠ some b
  no : vo.ownBlock ≠ some b
  npo : ∀ g, vp.ownBlock = some g → vo.ownBlock ≠ some g
  below : Below w.heap.size w W
theorem CutI.calm {w W W' : World} {b : Nat} {vp vo : Value} {ps : List (Nat × Nat × Nat)} {ofs : List Nat} (h : CutI w W b vp vo ps ofs) (hb : Below W.heap.size W W') : CutI w W' b vp vo ps ofs :=
  have hl := World.block_lt_of_cell? _ _ h.c0
  ⟨(hb.cell (p := ⟨b, 0, none⟩) hl).trans h.c0, (hb.cell (p := ⟨b, 1, none⟩) hl).trans h.c1, (hb.cell (p := ⟨b, 2, none⟩) hl).trans h.c2, fun j => (hb.frozen (p := ⟨b, j, none⟩) hl).trans (h.f j), h.hb, own_below h.op hb, own_below h.oo hb, h.np, h.no, h.npo, Bel.tr h.below hb⟩
/-- The row of procedures has grown, or turned within itself. -/
theorem CutI.row {w W W' : World} {b : Nat} {vp vp' vo : Value} {ps ps' : List (Nat × Nat × Nat)} {ofs : List Nat} (h : CutI w W b vp vo ps ofs) (hg : Grew W W' vp vp') (ho : W'.ownsRow 0 259 4 vp' ps'.length (encP ps')) :
    CutI w (W'.setCell ⟨b, 0, none⟩ vp') b vp' vo ps' ofs := by
  have hl : b < W.heap.size := World.block_lt_of_cell? _ _ h.c0
  have hnb : vp'.ownBlock ≠ some b := fun e => by
    rcases hg.2 b e with h' | h'
    · exact h.np h'
    · omega
  have c0' := grown_cell hg.1 h.c0 hl h.np
  have c1' := grown_cell hg.1 h.c1 hl h.np
  have c2' := grown_cell hg.1 h.c2 hl h.np
  have hbs := h.below.grown hg.1 h.below.size (fun g e => (h.op.lt g e).1)
  exact ⟨World.cell?_setCell_same' _ _ _ (by rw [c0']; rfl), (World.cell?_setCell_other _ _ _ _ (by simp)).trans c1', (World.cell?_setCell_other _ _ _ _ (by simp)).trans c2',
    fun j => by rw [World.frozen?_setCell]; exact (World.frozen?_of_block (hg.1.block b hl (fun e => h.np e.symm))).trans (h.f j), h.hb,
    ownsRow_setCell_other (own_from ho (fun g e => by
      rcases hg.2 g e with h' | h'
      · exact (h.op.lt g h').1
      · have := h.below.size; omega)) (by simpa using hnb) _,
    ownsRow_setCell_other (own_grown h.oo hg.1 (fun g e e2 => h.npo g e2 e)) (by simpa using h.no) _, hnb, h.no, fun g e e2 => by
      rcases hg.2 g e with h' | h'
      · exact h.npo g h' e2
      · have := (h.oo.lt g e2).2; omega, hbs.setCell h.hb _⟩
theorem CutI.ofs {w W W' : World} {b : Nat} {vp vo vo' : Value} {ps : List (Nat × Nat × Nat)} {ofs ofs' : List Nat} (h : CutI w W b vp vo ps ofs) (hg : Grew W W' vo vo') (ho : W'.ownsRow 0 3 1 vo' ofs'.length (encN .i64 ofs')) :
    CutI w (W'.setCell ⟨b, 1, none⟩ vo') b vp vo' ps ofs' := by
  have hl : b < W.heap.size := World.block_lt_of_cell? _ _ h.c0
  have hnb : vo'.ownBlock ≠ some b := fun e => by
    rcases hg.2 b e with h' | h'
    · exact h.no h'
    · omega
  have c0' := grown_cell hg.1 h.c0 hl h.no
  have c1' := grown_cell hg.1 h.c1 hl h.no
  have c2' := grown_cell hg.1 h.c2 hl h.no
  have hbs := h.below.grown hg.1 h.below.size (fun g e => (h.oo.lt g e).1)
  exact ⟨(World.cell?_setCell_other _ _ _ _ (by simp)).trans c0', World.cell?_setCell_same' _ _ _ (by rw [c1']; rfl), (World.cell?_setCell_other _ _ _ _ (by simp)).trans c2',
    fun j => by rw [World.frozen?_setCell]; exact (World.frozen?_of_block (hg.1.block b hl (fun e => h.no e.symm))).trans (h.f j), h.hb,
    ownsRow_setCell_other (own_grown h.op hg.1 (fun g e e2 => h.npo g e e2)) (by simpa using h.np) _,
    ownsRow_setCell_other (own_from ho (fun g e => by
      rcases hg.2 g e with h' | h'
      · exact (h.oo.lt g h').1
      · have := h.below.size; omega)) (by simpa using hnb) _, h.np, hnb, fun g e e2 => by
      rcases hg.2 g e2 with h' | h'
      · exact h.npo g e h'
      · have := (h.op.lt g e).2; omega, hbs.setCell h.hb _⟩
/-- The last procedure's end is written. -/
theorem CutI.ends {w W : World} {b g n c : Nat} {vo : Value} {ps : List (Nat × Nat × Nat)} {ofs : List Nat} (h : CutI w W b (.slice (some ⟨g, 0, none⟩) n c) vo ps ofs) (hn : ps.length = n) (h0 : 0 < n) (e : Nat) :
    CutI w (W.setCell ⟨g, (n - 1) * 4 + 1, none⟩ (.int .u32 e)) b (.slice (some ⟨g, 0, none⟩) n c) vo (endAt ps e) ofs := by
  subst hn
  have hl := World.block_lt_of_cell? _ _ h.c0
  have hop := h.op
  have hs := hop.stored ((ps.length - 1) * 4 + 1) (.int .u32 e)
  have hgb : g ≠ b := fun e => h.np (by rw [← e]; rfl)
  have hgr := hs.2
  have hr := hs.1
  rw [encP_set ps (ps.length - 1) (by omega) e] at hr
  exact ⟨grown_cell hgr h.c0 hl (fun e => hgb (by cases e; rfl)), grown_cell hgr h.c1 hl (fun e => hgb (by cases e; rfl)), grown_cell hgr h.c2 hl (fun e => hgb (by cases e; rfl)),
    fun j => by rw [World.frozen?_setCell]; exact h.f j, h.hb, by rw [endAt_length]; exact hr, own_grown h.oo hgr (fun q e e2 => by cases e2; exact h.npo g rfl e), h.np, h.no, h.npo, h.below.grown hgr h.below.size (fun q e => by cases e; exact (hop.lt g rfl).1)⟩
theorem info23 : (Tryz.prog.info? 23).map (fun i => (i.zero, i.size, i.bytes)) = some (some (.slice none 0 0), 1, 24) := by kernel_rfl
/-- Procedures that the call owns, each row in a block of its own. -/
structure AimI (w : World) (B b : Nat) (vp vo vt : Value) (ps : List (Nat × Nat × Nat)) (ofs : List Nat) (us : List Value) (ts : List (List Nat)) (tag : Nat → Nat) : Prop where
  at_ : PAt w B b vp vo vt ps ofs us ts
  tb : tag b = 0
  tp : ∀ g, vp.ownBlock = some g → tag g = 1
  to : ∀ g, vo.ownBlock = some g → tag g = 2
  tt : ∀ g, vt.ownBlock = some g → tag g = 3
  tu : ∀ (j : Nat) (u : Value) (g : Nat), us[j]? = some u → u.ownBlock = some g → tag g = 4 + j
def CutPost (code : List (Nat × Nat)) (w : World) (e : Ending) (w' : World) : Prop :=
  ∃ (b : Nat) (vp vo vt : Value) (tag : Nat → Nat), e = .returned (.pointer (some ⟨b, 0, none⟩)) ∧
    AimI w' w.heap.size b vp vo vt (psTo code code.length) (ofTo code code.length) (List.replicate (psTo code code.length).length (.slice none 0 0)) (List.replicate (psTo code code.length).length []) tag ∧ Below w.heap.size w w'
theorem made_nils (n : Nat) : (madeCells (Value.slice none 0 0).cells (n * 1)).toList = List.replicate n (.slice none 0 0) := by
  rw [Nat.mul_one]
  exact toList_madeCells_one (.slice none 0 0) n
theorem below_of_none {w w' : World} (h : w.grownBy w' none) : Below w.heap.size w w' := grownBy_below h
theorem u32_wrap (k : Nat) (h : k < 4294967296) : IntKind.u32.wrap (k : Int) = (k : Int) := by
  have : IntKind.u32.wrap (k : Int) = (k : Int) % 4294967296 := rfl
  omega
theorem four_cells (a b c : Int) : ∀ u ∈ [Value.int .u32 a, .int .u32 b, .int .u32 c, .int .i64 0], u.oneCell' = true := by
  intro u h
  simp only [List.mem_cons, List.not_mem_nil, or_false] at h
  rcases h with rfl | rfl | rfl | rfl <;> rfl
set_option maxRecDepth 100000 in
set_option maxHeartbeats 4000000 in
theorem cut_any (v : Value) (code : List (Nat × Nat)) (hn : code.length ≤ 16384) (h0 : 0 < code.length) (he : (code.getD 0 (0, 0)).1 = 3) (w : World) (hv : Instrs w v code) : Calls Tryz.prog 279 #[v] w (CutPost code w) := by
  have hlt := hv.lt
  obtain ⟨i0, hi, hz0, hz1, hz2⟩ := info_parts info39
  obtain ⟨j0, hj, hy0, hy1, hy2⟩ := info_parts info3'
  have hb75 := run_buildProcs
  have hb39 := run_build39_2
  have hb64 := run_buildSlice64
  have hb73 := run_buildSlice73
  have hmx : Tryz.prog.follows .mixedOrders = true := by kernel_rfl
  obtain ⟨a, cap, rfl, hlc, hcm, hnil, hp⟩ := hv.opened
  have Hp := Lib.hid hp
  have Hlt := Lib.hid hlt
  have He := Lib.hid he
  have hlm : code.length ≤ 9223372036854775807 := by omega
  clear hp hnil hv hlt he
  go_enter Tryz.func279, Tryz.ntmps279
  go_wp2_with fail
  obtain ⟨n, hnn⟩ : ∃ n, n = code.length := ⟨_, rfl⟩
  have Hn := Lib.hid hnn
  rw [← hnn] at hn h0 hlc hlm ⊢
  clear hnn
  go_loopw [11] (fun i wr => ∃ (k : Nat) (vp vo : Value), k ≤ n ∧ i = .int .i64 k ∧ CutI w wr w.heap.size vp vo (psTo code k) (ofTo code k)) (fun i _ => n - (intOf i).toNat)
  case atStart =>
    refine ⟨0, .slice none 0 0, .slice none 0 0, by omega, rfl, ?_⟩
    exact ⟨by simp [go_sem], by simp [go_sem], by simp [go_sem], fun j => by simp [go_sem], Nat.le_refl _, World.ownsRow_nil _ _ _ _, World.ownsRow_nil _ _ _ _, (fun e => by cases e), (fun e => by cases e), (fun g e => by cases e), Bel.new _ _⟩
  case round =>
    obtain ⟨k, vp, vo, hk, rfl, hI⟩ := hrel
    by_cases hlt' : k < n
    · obtain ⟨b, off, rfl, hbl, hc⟩ := Hp.out (by rw [← Hn.out]; omega)
      obtain ⟨hc1, hc2⟩ := hc k (by rw [← Hn.out]; omega)
      have hq1 := (hI.below.cell (p := ⟨b, off + k * 2, none⟩) hbl).trans hc1
      have hq2 := (hI.below.cell (p := ⟨b, off + k * 2 + 1, none⟩) hbl).trans hc2
      have hps : psTo code (k + 1) = cutStep (psTo code k) k (code.getD k (0, 0)) := rfl
      have hof : ofTo code (k + 1) = ofTo code k ++ [(psTo code (k + 1)).length - 1] := rfl
      have hle := psTo_le code k
      have hpos := psTo_pos He.out k
      have hol := ofTo_length code k
      have hk0 : k = 0 → (code.getD k (0, 0)).1 = 3 := fun e => by rw [e]; exact He.out
      obtain ⟨hlo, hla⟩ := Hlt.out k
      rw [hps] at hof hpos
      generalize code.getD k (0, 0) = ins at *
      obtain ⟨o, x⟩ := ins
      simp only at hq1 hq2 hlo hla hk0
      have hki : (k : Int) < (n : Int) := by omega
      have hb0 : w.heap.size < wr.heap.size := World.block_lt_of_cell? _ _ hI.c0
      have hbr : b < wr.heap.size := Nat.lt_of_lt_of_le hbl hI.below.size
      have Hps := Lib.hid hps
      have Hof := Lib.hid hof
      have Hpos := Lib.hid hpos
      have Hol := Lib.hid hol
      have hIa := hI.calm (Bel.new wr (.cells #[.int .u8 o, .int .u32 x] 122))
      have hba : w.heap.size < (wr.alloc (.cells #[.int .u8 o, .int .u32 x] 122)).heap.size := by simp; omega
      have hw0 := cells_new2 wr (.int .u8 o) (.int .u32 x) 122
      by_cases h3 : o = 3
      · subst h3
        obtain ⟨ap, cp, hvp, -, -, -⟩ := own_sl hIa.op
        have HIa := Lib.hid hIa
        subst hvp
        have hId := HIa.out.calm (Below.refl _ _).drew
        have hIB : wr.heap.size < (wr.alloc (.cells #[.int .u8 3, .int .u32 x] 122)).heap.size := by simp
        have Hps2 := Lib.hid (show psTo code (k + 1) = endAt (psTo code k ++ [(k, 0, x)]) (k + 1) from hps)
        clear hI hIa hps hof hpos hol hc hc1 hc2 hk0
        go_wp2_with fail
        clear hq1 hq2
        generalize wr.alloc (.cells #[.int .u8 3, .int .u32 x] 122) = wa at *
        obtain ⟨IB, hIBe⟩ : ∃ IB, IB = wr.heap.size := ⟨_, rfl⟩
        rw [← hIBe] at hb0 hw0 hIB ⊢
        have HIB := Lib.hid hIBe
        have hc0 := HIa.out.c0
        obtain ⟨hw0, hw1⟩ := hw0
        generalize hpl : (psTo code k).length = m at *
        have Hpl := Lib.hid hpl
        have hm14 : m ≤ 16384 := by omega
        have hb63 : m + 1 ≤ maxLen := by unfold maxLen; omega
        have hb47 : (m + 1) * 24 ≤ 140737488355328 := by omega
        have hkm : IntKind.u32.wrap (k : Int) = (k : Int) := u32_wrap k (by omega)
        have HId := Lib.hid hId
        clear hIBe hId hpl
        go_region_law ((refine step_append_grew rfl (.tmp 23) (.tmp 29) 256 rfl 259 i0 (.agg #[.int .u32 0, .int .u32 0, .int .u32 0, .int .i64 0]) 4 24 Tryz.underlying256 hi hz0 hz1 hz2 rfl (by decide) _ _ _ rfl (own_base (HId.out.calm (Bel.new _ _)).op) ⟨_, 0, none⟩ 1 1 [_, _, _, _] rfl rfl (news_new _ #[_, _, _, _] 259) ?_ ?_ ?_ ?_; exact four_cells _ _ _; rw [Hpl.out]; exact hb63; rw [Hpl.out]; exact hb47; intro v3 w3 hr3 hg3 hn3; obtain ⟨g3, c3, hv3, hb3, hl3⟩ := own_start hr3 (Nat.succ_pos _); have hCd := HId.out.calm (Bel.new wa.drew (.cells #[.int .u32 k, .int .u32 0, .int .u32 x, .int .i64 0] 259)); have hcx := grown_cell hg3.1 hCd.c0 (World.block_lt_of_cell? _ _ hCd.c0) hCd.np; have hfx : w3.frozen? ⟨w.heap.size, 0, none⟩ = false := (World.frozen?_of_block (hg3.1.block w.heap.size (World.block_lt_of_cell? _ _ hCd.c0) (fun e => hCd.np e.symm))).trans (hCd.f 0); have HCn := Lib.hid (hCd.row hg3 (ps' := psTo code k ++ [(k, 0, x)]) (by rw [List.length_append, encP_append]; exact hr3)); subst hv3; clear hr3 hg3 hn3 hCd))
        all_goals
          have hC := HCn.out
          rw [Hpl.out] at hC ⊢
          have HQl := Lib.hid (show (psTo code k ++ [(k, 0, x)]).length = m + 1 from by rw [List.length_append, Hpl.out]; rfl)
          have HQ := Hps2
          have Hof2 := Lib.hid (show ofTo code (k + 1) = ofTo code k ++ [m] from by
            show ofTo code k ++ [(psTo code (k + 1)).length - 1] = _
            rw [HQ.out, endAt_length, HQl.out]; rfl)
          clear HCn hcx hfx Hps Hof Hpos
          obtain ⟨q, hqe⟩ : ∃ q, q = m := ⟨_, rfl⟩
          rw [← hqe] at hC HQl Hof2 ⊢
          have hq14 : q ≤ 16384 := by omega
          clear hqe
          obtain ⟨Q, hQe⟩ : ∃ Q, Q = psTo code k ++ [(k, 0, x)] := ⟨_, rfl⟩
          rw [← hQe] at hC HQl HQ
          clear hQe
          generalize World.setCell w3 _ _ = W at hC ⊢
          obtain ⟨ao, co, hvo, -, -, -⟩ := own_sl hC.oo
          subst hvo
          rw [Hol.out] at hC
          have hc0 := hC.c0
          have hc1 := hC.c1
          have hbW : w.heap.size < W.heap.size := World.block_lt_of_cell? _ _ hc0
          obtain ⟨-, hce, -, -⟩ := encP_at Q q (by rw [HQl.out]; exact Nat.lt_succ_self _)
          have hop := hC.op
          rw [HQl.out] at hop
          have hcl : W.cell? ⟨g3, q * 4 + 1, none⟩ = some (.int .u32 (Q.getD q (0, 0, 0)).2.1) := by
            rw [hop.cellAt (q * 4 + 1) (by omega)]; exact hce
          have hfl := hop.frozenAt (q * 4 + 1)
          have hwk : IntKind.u32.wrap ((k : Int) + 1) = (k : Int) + 1 := by rw [show ((k : Int) + 1) = ((k + 1 : Nat) : Int) from by omega]; exact u32_wrap _ (by omega)
          have hq1 : (0 : Int) ≤ (q : Int) := by omega
          have hq2 : (q : Int) < (q : Int) + 1 := by omega
          have hC8 : CutI w (W.setCell ⟨g3, q * 4 + 1, none⟩ (.int .u32 ((k : Int) + 1))) w.heap.size (.slice (some ⟨g3, 0, none⟩) (q + 1) c3) (.slice ao k co) (endAt Q (k + 1)) (ofTo code k) := by
            have := hC.ends HQl.out (Nat.succ_pos _) (k + 1)
            rwa [Nat.add_sub_cancel, show ((k + 1 : Nat) : Int) = (k : Int) + 1 from by omega] at this
          have h8c1 := hC8.c1
          have hown8 := own_base hC8.oo
          rw [Hol.out] at hown8
          have HC8 := Lib.hid hC8
          clear hC hC8 hce hop
          go_wp2_with ((with_reducible refine wpList_append1B (o := ⟨some 56, .call { callee := .builtin .append, args := #[.tmp 53, .tmp 55], argTypes := #[227, 227] }, _, _, _, none⟩) rfl _ _ 227 rfl 3 j0 (.int .i64 0) 1 8 Tryz.underlying227 hj hy0 hy1 hy2 ?_ ?_ _ _ _ hown8 _ _ W.heap.size ?_ ?_ ?_ ?_ ?_ ?_ ?_ ?_); rfl; decide; rfl; rfl; (simp [World.setCell]); rfl; (simp [Value.oneCell']); (unfold maxLen; omega); omega; intro g9 c9 w9 o9 r9 hl9; have hl8 : w.heap.size < (W.setCell ⟨g3, q * 4 + 1, none⟩ (.int .u32 ((k : Int) + 1))).heap.size := World.block_lt_of_cell? _ _ h8c1; have h9c := grown_cell r9.1 h8c1 hl8 HC8.out.no; have h9f : w9.frozen? ⟨w.heap.size, 1, none⟩ = false := (World.frozen?_of_block (r9.1.block w.heap.size hl8 (fun e => HC8.out.no e.symm))).trans (HC8.out.f 1))
          have hC9 := HC8.out.ofs (ofs' := ofTo code k ++ [q]) r9 (by rw [List.length_append, Hol.out, encN_append]; exact o9)
          have HC9 := Lib.hid hC9
          clear hC9 o9 r9 hown8 h8c1 hcl hfl hc0 hc1
          go_roundw
          case rel => exact ⟨k + 1, _, _, by omega, by go_num, by rw [HQ.out, Hof2.out]; exact HC9.out⟩
          case measure => simp [intOf]; omega
      · have hne3 : ((o : Int) == 3) = false := by simp; omega
        have hpl := psTo_le code k
        have hne : cutStep (psTo code k) k (o, x) = endAt (psTo code k) (k + 1) := by
          unfold cutStep; rw [if_neg h3]
        have HQ := Lib.hid (hps.trans hne)
        rw [hne, endAt_length] at hpos hof
        obtain ⟨q, hqe⟩ : ∃ q, (psTo code k).length = q + 1 := ⟨(psTo code k).length - 1, by omega⟩
        rw [hqe, Nat.add_sub_cancel] at hof
        have HQl := Lib.hid hqe
        have Hof2 := Lib.hid hof
        have hq14 : q ≤ 16384 := by omega
        obtain ⟨g3, c3, hvp, -, -⟩ := own_start hIa.op (by omega)
        rw [hqe] at hvp
        subst hvp
        have hC := hIa
        obtain ⟨Q, hQe⟩ : ∃ Q, Q = psTo code k := ⟨_, rfl⟩
        rw [← hQe] at hC HQl HQ
        have hki2 : (k : Int) < (n : Int) := hki
        clear hI hIa hps hof hpos hol hc hc1 hc2 hk0 hne hqe hQe hle hpl Hps Hof Hpos h3
        have HC0 := Lib.hid hC
        clear hC
        go_upto_region 7 with (fail)
        have hC := HC0.out
        clear HC0 hq1 hq2 hw0
        generalize wr.alloc (.cells #[.int .u8 o, .int .u32 x] 122) = W at *
        obtain ⟨ao, co, hvo, -, -, -⟩ := own_sl hC.oo
        subst hvo
        rw [Hol.out] at hC
        have hc0 := hC.c0
        have hc1 := hC.c1
        have hbW : w.heap.size < W.heap.size := World.block_lt_of_cell? _ _ hc0
        obtain ⟨-, hce, -, -⟩ := encP_at Q q (by rw [HQl.out]; exact Nat.lt_succ_self _)
        have hop := hC.op
        rw [HQl.out] at hop
        have hcl : W.cell? ⟨g3, q * 4 + 1, none⟩ = some (.int .u32 (Q.getD q (0, 0, 0)).2.1) := by
          rw [hop.cellAt (q * 4 + 1) (by omega)]; exact hce
        have hfl := hop.frozenAt (q * 4 + 1)
        have hwk : IntKind.u32.wrap ((k : Int) + 1) = (k : Int) + 1 := by rw [show ((k : Int) + 1) = ((k + 1 : Nat) : Int) from by omega]; exact u32_wrap _ (by omega)
        have hq1 : (0 : Int) ≤ (q : Int) := by omega
        have hq2 : (q : Int) < (q : Int) + 1 := by omega
        have hC8 : CutI w (W.setCell ⟨g3, q * 4 + 1, none⟩ (.int .u32 ((k : Int) + 1))) w.heap.size (.slice (some ⟨g3, 0, none⟩) (q + 1) c3) (.slice ao k co) (endAt Q (k + 1)) (ofTo code k) := by
          have := hC.ends HQl.out (Nat.succ_pos _) (k + 1)
          rwa [Nat.add_sub_cancel, show ((k + 1 : Nat) : Int) = (k : Int) + 1 from by omega] at this
        have h8c1 := hC8.c1
        have hown8 := own_base hC8.oo
        rw [Hol.out] at hown8
        have HC8 := Lib.hid hC8
        clear hC hC8 hce hop
        go_wp2_with ((with_reducible refine wpList_append1B (o := ⟨some 56, .call { callee := .builtin .append, args := #[.tmp 53, .tmp 55], argTypes := #[227, 227] }, _, _, _, none⟩) rfl _ _ 227 rfl 3 j0 (.int .i64 0) 1 8 Tryz.underlying227 hj hy0 hy1 hy2 ?_ ?_ _ _ _ hown8 _ _ W.heap.size ?_ ?_ ?_ ?_ ?_ ?_ ?_ ?_); rfl; decide; rfl; rfl; (simp [World.setCell]); rfl; (simp [Value.oneCell']); (unfold maxLen; omega); omega; intro g9 c9 w9 o9 r9 hl9; have hl8 : w.heap.size < (W.setCell ⟨g3, q * 4 + 1, none⟩ (.int .u32 ((k : Int) + 1))).heap.size := World.block_lt_of_cell? _ _ h8c1; have h9c := grown_cell r9.1 h8c1 hl8 HC8.out.no; have h9f : w9.frozen? ⟨w.heap.size, 1, none⟩ = false := (World.frozen?_of_block (r9.1.block w.heap.size hl8 (fun e => HC8.out.no e.symm))).trans (HC8.out.f 1))
        have hC9 := HC8.out.ofs (ofs' := ofTo code k ++ [q]) r9 (by rw [List.length_append, Hol.out, encN_append]; exact o9)
        have HC9 := Lib.hid hC9
        clear hC9 o9 r9 hown8 h8c1 hcl hfl hc0 hc1
        go_roundw
        case rel => exact ⟨k + 1, _, _, by omega, by go_num, by rw [HQ.out, Hof2.out]; exact HC9.out⟩
        case measure => simp [intOf]; omega
    · obtain rfl : n = k := by omega
      obtain ⟨i1, hi1, x0, x1, x2⟩ := info_parts info23
      obtain ⟨ap, cp, hvp, -, -, -⟩ := own_sl hI.op
      have hle := psTo_le code n
      subst hvp
      have hc0 := hI.c0
      obtain ⟨q, hqe⟩ : ∃ q, q = (psTo code n).length := ⟨_, rfl⟩
      rw [← hqe] at hc0 hle
      have Hq := Lib.hid hqe
      have HI := Lib.hid hI
      have hsz := hI.below.size
      have hbl : w.heap.size < wr.heap.size := World.block_lt_of_cell? _ _ hc0
      clear hqe hI
      go_wp2_with (at_make; refine wpList_make_full _ rfl _ _ 141 rfl w.heap.size 23 i1 (.slice none 0 0) 1 Tryz.underlying141 hi1 x0 x1 .i64 .i64 _ _ q rfl rfl rfl rfl (by rw [x2]; omega) (by unfold maxLen; omega) hsz ?_; intro w9 ho9 hg9; have h9c := grown_cell hg9 HI.out.c2 hbl (fun e => by cases e); have h9f : w9.frozen? ⟨w.heap.size, 2, none⟩ = false := (World.frozen?_of_block (hg9.block w.heap.size hbl (fun e => by cases e))).trans (HI.out.f 2))
      rw [made_nils] at ho9
      have hfin : AimI (w9.setCell ⟨w.heap.size, 2, none⟩ (.slice (some ⟨wr.heap.size, 0, none⟩) q q)) w.heap.size w.heap.size (.slice ap q cp) vo (.slice (some ⟨wr.heap.size, 0, none⟩) q q) (psTo code n) (ofTo code n) (List.replicate q (.slice none 0 0)) (List.replicate q [])
          (fun g => if g = w.heap.size then 0 else if (Value.slice ap q cp).ownBlock = some g then 1 else if vo.ownBlock = some g then 2 else 3) := by
        have hI := HI.out
        rw [← Hq.out] at hI
        have hgb := below_of_none hg9
        refine ⟨⟨(World.cell?_setCell_other _ _ _ _ (by simp)).trans (grown_cell hg9 hI.c0 hbl (fun e => by cases e)), (World.cell?_setCell_other _ _ _ _ (by simp)).trans (grown_cell hg9 hI.c1 hbl (fun e => by cases e)),
          World.cell?_setCell_same' _ _ _ (by rw [h9c]; rfl), Nat.le_refl _, ownsRow_setCell_other (own_below hI.op hgb) (by simpa using hI.np) _, ownsRow_setCell_other (own_below hI.oo hgb) (by simpa using hI.no) _,
          ownsRow_setCell_other (by rw [List.length_replicate]; exact ho9) (fun e => by simp [Value.ownBlock] at e; omega) _, by simp, fun j u l hu hl => ?_⟩, if_pos rfl, fun g e => ?_, fun g e => ?_, fun g e => ?_, fun j u g hu e => ?_⟩
        · rw [List.getElem?_replicate] at hu hl
          split at hu
          · rename_i hlt
            rw [if_pos hlt] at hl
            cases hu; cases hl
            exact World.ownsRow_nil _ _ _ _
          · cases hu
        · show (if g = w.heap.size then 0 else _) = 1
          rw [if_neg (fun (h : g = w.heap.size) => hI.np (h ▸ e)), if_pos e]
        · show (if g = w.heap.size then 0 else _) = 2
          rw [if_neg (fun (h : g = w.heap.size) => hI.no (h ▸ e)), if_neg (fun h => hI.npo g h e), if_pos e]
        · have hg : wr.heap.size = g := by simpa [Value.ownBlock] using e
          show (if g = w.heap.size then 0 else _) = 3
          rw [if_neg (by omega), if_neg (fun h => by have := (hI.op.lt g h).2; omega), if_neg (fun h => by have := (hI.oo.lt g h).2; omega)]
        · rw [List.getElem?_replicate] at hu
          split at hu
          · cases hu; cases e
          · cases hu
      have hbf : Below w.heap.size w (w9.setCell ⟨w.heap.size, 2, none⟩ (.slice (some ⟨wr.heap.size, 0, none⟩) q q)) := (Bel.tr HI.out.below (below_of_none hg9)).setCell (p := ⟨w.heap.size, 2, none⟩) (Nat.le_refl _) _
      have Hfin := Lib.hid hfin
      have Hbf := Lib.hid hbf
      clear hfin hbf ho9 hg9
      go_wp2
      go_ret
      exact ⟨w.heap.size, _, vo, _, _, rfl, by rw [← Hn.out, ← Hq.out]; exact Hfin.out, Hbf.out⟩
end Go.Proofs.YtgpicmiaanapkaaGreat
/- procs.aim: the plain side and the state. -/
namespace Go.Proofs.YtgpicmiaanapkaaGreat
open Go.RowKit
/-- May the jump at i stand? -/
def aimOk (ps : List (Nat × Nat × Nat)) (ofs js : List Nat) (i : Nat) : Bool :=
  (decide (i = 0) || decide (js.getD (i - 1) 0 < js.getD i 0)) && (decide (js.getD i 0 < ofs.length) && insideN (ps.getD (ofs.getD (js.getD i 0) 0) (0, 0, 0)) (js.getD i 0))
/-- The targets of the first k jumps. -/
def aimTo (ofs js : List Nat) (n : Nat) : Nat → List (List Nat)
  | 0 => List.replicate n []
  | k + 1 => (aimTo ofs js n k).set (ofs.getD (js.getD k 0) 0) ((aimTo ofs js n k).getD (ofs.getD (js.getD k 0) 0) [] ++ [js.getD k 0])
theorem aimTo_length (ofs js : List Nat) (n k : Nat) : (aimTo ofs js n k).length = n := by
  induction k with
  | zero => simp [aimTo]
  | succ k ih => simp [aimTo, ih]
def GoodTo (ps : List (Nat × Nat × Nat)) (ofs js : List Nat) (k : Nat) : Prop := ∀ i, i < k → aimOk ps ofs js i = true
theorem GoodTo.zero (ps : List (Nat × Nat × Nat)) (ofs js : List Nat) : GoodTo ps ofs js 0 := fun i h => absurd h (Nat.not_lt_zero i)
theorem GoodTo.succ {ps : List (Nat × Nat × Nat)} {ofs js : List Nat} {k : Nat} (h : GoodTo ps ofs js k) (hk : aimOk ps ofs js k = true) : GoodTo ps ofs js (k + 1) := fun i hi => by
  by_cases e : i = k
  · rw [e]; exact hk
  · exact h i (by omega)
theorem GoodTo.lt {ps : List (Nat × Nat × Nat)} {ofs js : List Nat} {k : Nat} (h : GoodTo ps ofs js k) {i : Nat} (hi : i < k) : js.getD i 0 < ofs.length := by
  have := h i hi
  simp only [aimOk, Bool.and_eq_true, decide_eq_true_eq] at this
  exact this.2.1
theorem GoodTo.up {ps : List (Nat × Nat × Nat)} {ofs js : List Nat} {k : Nat} (h : GoodTo ps ofs js k) {i : Nat} (hi : i + 1 < k) : js.getD i 0 < js.getD (i + 1) 0 := by
  have := h (i + 1) hi
  simp only [aimOk, Bool.and_eq_true, Bool.or_eq_true, decide_eq_true_eq] at this
  rcases this.1 with h | h
  · omega
  · exact h
theorem GoodTo.ge {ps : List (Nat × Nat × Nat)} {ofs js : List Nat} {k : Nat} (h : GoodTo ps ofs js k) : ∀ i, i < k → i ≤ js.getD i 0 := by
  intro i
  induction i with
  | zero => intro _; exact Nat.zero_le _
  | succ i ih => intro hi; have h1 := ih (by omega); have h2 := h.up hi; omega
theorem GoodTo.le {ps : List (Nat × Nat × Nat)} {ofs js : List Nat} {k : Nat} (h : GoodTo ps ofs js k) : k ≤ ofs.length := by
  cases k with
  | zero => exact Nat.zero_le _
  | succ k => have h1 := h.ge k (by omega); have h2 := h.lt (i := k) (by omega); omega
theorem aimTo_row_le (ofs js : List Nat) (n k j : Nat) : ((aimTo ofs js n k).getD j []).length ≤ k := by
  induction k generalizing j with
  | zero =>
    show ((List.replicate n []).getD j []).length ≤ 0
    rw [List.getD_eq_getElem?_getD, List.getElem?_replicate]; split <;> simp
  | succ k ih =>
    show (((aimTo ofs js n k).set _ _).getD j []).length ≤ k + 1
    rw [List.getD_eq_getElem?_getD, List.getElem?_set]
    split
    · split
      · have := ih (ofs.getD (js.getD k 0) 0); simp; exact this
      · simp
    · have := ih j; rw [List.getD_eq_getElem?_getD] at this; omega
theorem AimI.calm {w w' : World} {B b : Nat} {vp vo vt : Value} {ps : List (Nat × Nat × Nat)} {ofs : List Nat} {us : List Value} {ts : List (List Nat)} {tag : Nat → Nat} (h : AimI w B b vp vo vt ps ofs us ts tag) (hb : Below w.heap.size w w') : AimI w' B b vp vo vt ps ofs us ts tag :=
  ⟨h.at_.below hb, h.tb, h.tp, h.to, h.tt, h.tu⟩
/-- One list of targets has grown. -/
theorem AimI.step {w W W' : World} {B b q n c r t : Nat} {vp vo u u' : Value} {ps : List (Nat × Nat × Nat)} {ofs l : List Nat} {us : List Value} {ts : List (List Nat)} {tag : Nat → Nat} (h : AimI W B b vp vo (.slice (some ⟨q, 0, none⟩) n c) ps ofs us ts tag)
    (hBw : Below B w W) (hBl : B ≤ W.heap.size) (hn : us.length = n) (hu : us[r]? = some u) (hl : ts.getD r [] = l) (hg : Grew W W' u u') (ho : W'.ownsRow 0 25 1 u' (l.length + 1) (encN .u32 (l ++ [t]))) :
    ∃ tag', AimI (W'.setCell ⟨q, r, none⟩ u') B b vp vo (.slice (some ⟨q, 0, none⟩) n c) ps ofs (us.set r u') (ts.set r (l ++ [t])) tag' ∧ Below B w (W'.setCell ⟨q, r, none⟩ u') := by
  subst hn
  have hr : r < us.length := (List.getElem?_eq_some_iff.1 hu).1
  have A := h.at_
  have hl' : ts[r]? = some l := by rw [← hl, List.getD_eq_getElem?_getD, List.getElem?_eq_getElem (by rw [← A.ul]; exact hr)]; rfl
  have hbl : b < W.heap.size := World.block_lt_of_cell? _ _ A.c0
  have tq : tag q = 3 := h.tt q rfl
  have hub : ∀ g, u.ownBlock = some g → tag g = 4 + r := fun g e => h.tu r u g hu e
  have hou := A.ou r u l hu hl'
  have huB : ∀ g, u.ownBlock = some g → B ≤ g := fun g e => (hou.lt g e).1
  have hqw := A.ot.lt q rfl
  have hnb : u.ownBlock ≠ some b := fun e => by have := hub b e; have := h.tb; omega
  have hnq : u.ownBlock ≠ some q := fun e => by have := hub q e; omega
  have hqb : q ≠ b := fun e => by have := h.tb; rw [← e] at this; omega
  have hu'B : ∀ g, u'.ownBlock = some g → B ≤ g := fun g e => by
    rcases hg.2 g e with h' | h'
    · exact huB g h'
    · omega
  have hu' : ∀ g, g < W.heap.size → tag g ≠ 4 + r → u'.ownBlock ≠ some g := fun g hgl hgt e => by
    rcases hg.2 g e with h' | h'
    · exact hgt (hub g h')
    · omega
  have far : ∀ (v : Value) (e sz m : Nat) (xs : List Value), W.ownsRow B e sz v m xs → (∀ g, v.ownBlock = some g → tag g ≠ 4 + r ∧ tag g ≠ 3) → (W'.setCell ⟨q, r, none⟩ u').ownsRow B e sz v m xs := fun v e sz m xs hv ht =>
    ownsRow_setCell_other (own_grown hv hg.1 (fun g e1 e2 => (ht g e1).1 (hub g e2))) (fun e1 => (ht q e1).2 tq) _
  have hot : W'.ownsRow B 23 1 (.slice (some ⟨q, 0, none⟩) us.length c) us.length us := own_grown A.ot hg.1 (fun g e1 e2 => by cases e1; exact hnq e2)
  have hst := hot.stored r u'
  refine ⟨fun g => if u'.ownBlock = some g then 4 + r else tag g, ⟨⟨?_, ?_, ?_, A.hb, far _ _ _ _ _ A.op (fun g e => by have := h.tp g e; omega), far _ _ _ _ _ A.oo (fun g e => by have := h.to g e; omega), by rw [List.length_set]; exact hst.1, by rw [List.length_set, List.length_set]; exact A.ul, ?_⟩, ?_, ?_, ?_, ?_, ?_⟩, ?_⟩
  · exact (World.cell?_setCell_other _ _ _ _ (by first | (simp; done) | (intro e; cases e; exact hqb rfl))).trans (grown_cell hg.1 A.c0 hbl hnb)
  · exact (World.cell?_setCell_other _ _ _ _ (by first | (simp; done) | (intro e; cases e; exact hqb rfl))).trans (grown_cell hg.1 A.c1 hbl hnb)
  · exact (World.cell?_setCell_other _ _ _ _ (by first | (simp; done) | (intro e; cases e; exact hqb rfl))).trans (grown_cell hg.1 A.c2 hbl hnb)
  · intro j x m hx hm
    by_cases e : j = r
    · subst e
      rw [List.getElem?_set_self hr] at hx
      rw [List.getElem?_set_self (by rw [← A.ul]; exact hr)] at hm
      cases hx; cases hm
      rw [List.length_append]
      exact ownsRow_setCell_other (own_from ho hu'B) (hu' q hqw.2 (by omega)) _
    · rw [List.getElem?_set_ne (fun e2 => e e2.symm)] at hx hm
      exact far _ _ _ _ _ (A.ou j x m hx hm) (fun g e2 => by have := h.tu j x g hx e2; omega)
  · show (if u'.ownBlock = some b then 4 + r else tag b) = 0
    rw [if_neg (hu' b hbl (by have := h.tb; omega))]; exact h.tb
  · intro g e
    show (if u'.ownBlock = some g then 4 + r else tag g) = 1
    rw [if_neg (hu' g (A.op.lt g e).2 (by have := h.tp g e; omega))]; exact h.tp g e
  · intro g e
    show (if u'.ownBlock = some g then 4 + r else tag g) = 2
    rw [if_neg (hu' g (A.oo.lt g e).2 (by have := h.to g e; omega))]; exact h.to g e
  · intro g e
    show (if u'.ownBlock = some g then 4 + r else tag g) = 3
    rw [if_neg (hu' g (A.ot.lt g e).2 (by have := h.tt g e; omega))]; exact h.tt g e
  · intro j x g hx e
    show (if u'.ownBlock = some g then 4 + r else tag g) = 4 + j
    by_cases ej : j = r
    · subst ej
      rw [List.getElem?_set_self hr] at hx
      cases hx
      rw [if_pos e]
    · rw [List.getElem?_set_ne (fun e2 => ej e2.symm)] at hx
      have hjl : j < ts.length := by rw [← A.ul]; exact (List.getElem?_eq_some_iff.1 hx).1
      have hlt := ((A.ou j x _ hx (List.getElem?_eq_getElem hjl)).lt g e).2
      rw [if_neg (hu' g hlt (by have := h.tu j x g hx e; omega))]; exact h.tu j x g hx e
  · exact (hBw.grown hg.1 hBl huB).setCell (p := ⟨q, r, none⟩) hqw.1 _
/-- A row of words that came in. -/
def RowU (w : World) (B : Nat) (v : Value) (l : List Nat) : Prop := ∃ a cap, v = .slice a l.length cap ∧ l.length ≤ cap ∧ cap ≤ maxLen ∧ (∀ k, l.getD k 0 < 4294967296) ∧
  (0 < l.length → ∃ b off, a = some ⟨b, off, none⟩ ∧ b < B ∧ ∀ k, k < l.length → w.cell? ⟨b, off + k, none⟩ = some (.int .u32 (l.getD k 0)))
def AimPost (ps : List (Nat × Nat × Nat)) (ofs js : List Nat) (B b : Nat) (vp vo vt : Value) (w : World) (e : Ending) (w' : World) : Prop :=
  Below B w w' ∧ ((e = .returned (.tuple #[.int .i64 0, .int .i64 0]) ∧ GoodTo ps ofs js js.length ∧ ∃ us tag, AimI w' B b vp vo vt ps ofs us (aimTo ofs js ps.length js.length) tag) ∨
    ∃ i, i < js.length ∧ e = .returned (.tuple #[.int .i64 (i : Nat), .int .i64 134]) ∧ GoodTo ps ofs js i ∧ aimOk ps ofs js i = false)
def tgt (w : World) (g j : Nat) : Value := (w.cell? ⟨g, j, none⟩).getD undef
theorem tgt_is {w : World} {g j : Nat} {v : Value} (h : w.cell? ⟨g, j, none⟩ = some v) : w.cell? ⟨g, j, none⟩ = some (tgt w g j) := by unfold tgt; rw [h]; rfl
theorem tgt_eq {w : World} {g j : Nat} {v : Value} (h : w.cell? ⟨g, j, none⟩ = some v) : tgt w g j = v := by unfold tgt; rw [h]; rfl
end Go.Proofs.YtgpicmiaanapkaaGreat
/- procs.fault. -/
namespace Go.Proofs.YtgpicmiaanapkaaGreat
open Go.RowKit
def endsK (K : Nat) : Bool := K == 3 || K == 4 || K == 8
def faultK (K : Nat) (p : Nat × Nat × Nat) (i a : Nat) : Nat :=
  if K = 6 ∧ (a % 4 ≠ 0 ∨ a = 0 ∨ 4096 < a) then 131
  else if K = 7 then (if a ≠ p.2.2 then 131 else 0)
  else if (K = 3 ∨ K = 2) ∧ insideN p a = false then 132
  else if i + 1 = p.2.1 ∧ endsK K = false then 133 else 0
def faultN (p : Nat × Nat × Nat) (i : Nat) (ins : Nat × Nat) : Nat := faultK (kindOf ins.1) p i ins.2
theorem kind_lt (k : Nat) : kindOf k ≤ 8 := by
  by_cases h : k < 60
  · have : ∀ k < 60, kindOf k ≤ 8 := by decide +kernel
    exact this k h
  · have : rowOf k = ([], 0, 0, 0, 0, 0) := by
      unfold rowOf; rw [List.getD_eq_getElem?_getD, List.getElem?_eq_none (by show 60 ≤ k; omega)]; rfl
    simp [kindOf, this]
theorem cell_new5 (w : World) (a b c d e f : Value) (t : TypeId) : (w.alloc (.cells #[a, b, c, d, e, f] t)).cell? ⟨w.heap.size, 5, none⟩ = some f := by simp [go_sem]
set_option maxRecDepth 100000 in
set_option maxHeartbeats 2000000 in
theorem fault_any (p : Nat × Nat × Nat) (i o a : Nat) (hi : i < 4294967295) (ho : o < 256) (ha : a < 4294967296) (w : World) :
    Calls Tryz.prog 280 #[procV p, .int .u32 i, .agg #[.int .u8 o, .int .u32 a]] w fun e w' => e = .returned (.int .i64 (faultN p i (o, a))) ∧ Below w.heap.size w w' := by
  have h1 := fun W => info_any o ho W
  have hz := zero26
  unfold zeroRow at hz
  have hin := fun W => inside_any p a W
  unfold faultN
  have hk := kind_lt o
  unfold rowVal rowCells at h1
  simp only
  generalize kindOf o = K at *
  generalize isOp o = b at *
  generalize wordOf o = wd at *
  generalize widthOf o = wi at *
  generalize mostOf o = mo at *
  generalize takesOf o = ta at *
  generalize givesOf o = gi at *
  have key : ∀ c : Nat, faultK K p i a = c → Calls Tryz.prog 280 #[procV p, .int .u32 i, .agg #[.int .u8 o, .int .u32 a]] w fun e w' => e = .returned (.int .i64 c) ∧ Below w.heap.size w w' := by
    intro c hc
    obtain ⟨p0, p1, p2⟩ := p
    have H1 := Lib.hid h1
    have HI := Lib.hid hin
    clear h1 hin
    have hK : K = 0 ∨ K = 1 ∨ K = 2 ∨ K = 3 ∨ K = 4 ∨ K = 5 ∨ K = 6 ∨ K = 7 ∨ K = 8 := by omega
    unfold procV at *
    simp only at *
    rcases hK with rfl | rfl | rfl | rfl | rfl | rfl | rfl | rfl | rfl
    all_goals
      go_enter Tryz.func280, Tryz.ntmps280
      go_wp2_with fail
      refine (H1.out _).mono ?_
      rintro e w1 ⟨rfl, hb⟩
      have hs1 : w.heap.size + 1 < w1.heap.size := by have := hb.size; simp at this; omega
      have hs0 : w.heap.size < w1.heap.size := by omega
      have q0 : w1.cell? ⟨w.heap.size, 0, none⟩ = some (.int .u32 p0) := (hb.cell (p := ⟨w.heap.size, 0, none⟩) (by simp; omega)).trans (by simp [go_sem])
      have q1 : w1.cell? ⟨w.heap.size, 1, none⟩ = some (.int .u32 p1) := (hb.cell (p := ⟨w.heap.size, 1, none⟩) (by simp; omega)).trans (by simp [go_sem])
      have q2 : w1.cell? ⟨w.heap.size, 2, none⟩ = some (.int .u32 p2) := (hb.cell (p := ⟨w.heap.size, 2, none⟩) (by simp; omega)).trans (by simp [go_sem])
      have q3 : w1.cell? ⟨w.heap.size, 3, none⟩ = some (.int .i64 0) := (hb.cell (p := ⟨w.heap.size, 3, none⟩) (by simp; omega)).trans (by simp [go_sem])
      have q4 : w1.cell? ⟨w.heap.size + 1, 0, none⟩ = some (.int .u8 o) := (hb.cell (p := ⟨w.heap.size + 1, 0, none⟩) (by simp)).trans (by simp [go_sem])
      have q5 : w1.cell? ⟨w.heap.size + 1, 1, none⟩ = some (.int .u32 a) := (hb.cell (p := ⟨w.heap.size + 1, 1, none⟩) (by simp)).trans (by simp [go_sem])
      have Hb := Lib.hid (Bel.tr (Bel.al (Bel.new w (.cells #[.int .u32 p0, .int .u32 p1, .int .u32 p2, .int .i64 0] 259)) (.cells #[.int .u8 o, .int .u32 a] 122)) hb)
      clear H1 hb
      have hin := Lib.hid (fun W => inside_any (p0, p1, p2) a W)
      clear HI
      cases hia : insideN (p0, p1, p2) a
      all_goals
        rw [hia] at hin
        have Hia := Lib.hid hia
        have Hc := Lib.hid hc
        clear hia hc
        go_wp2_with (go_at_call 368; refine (hin.out _).mono ?_; rintro e w2 ⟨rfl, hb2⟩; have q1 := (hb2.cell (p := ⟨w.heap.size, 1, none⟩) (by simp; omega)).trans (((Bel.new w1 _).cell (p := ⟨w.heap.size, 1, none⟩) hs0).trans q1); have hs2 : w1.heap.size < w2.heap.size := Bel.lt hb2; have q9 : w2.cell? ⟨w1.heap.size, 5, none⟩ = _ := (hb2.cell (p := ⟨w1.heap.size, 5, none⟩) (by simp)).trans (cell_new5 _ _ _ _ _ _ _ _))
        all_goals
          go_ret
          refine ⟨ret_intE ?_, ?_⟩
          · have hc := Hc.out
            have hia := Hia.out
            clear q0 q1 q2 q3 q4 q5 hin hz Hc Hia Hb
            rw [← hc]
            try simp only [beq_iff_eq, beq_eq_false_iff_ne, bne_iff_ne, bne_eq_false_iff_eq, ne_eq] at *
            unfold faultK endsK
            rw [hia]
            first
              | rfl
              | (simp; done)
              | (simp; omega)
              | (simp; split <;> omega)
              | (simp; split <;> (simp; omega))
              | (simp; rw [if_neg (by omega)]; split <;> omega)
          · first
              | exact Bel.al Hb.out _
              | exact Bel.tr (Bel.al Hb.out _) hb2
  exact key _ rfl
end Go.Proofs.YtgpicmiaanapkaaGreat
/- fold.leaders: where blocks begin. -/
namespace Go.Proofs.YtgpicmiaanapkaaGreat
open Go.RowKit
set_option linter.unusedVariables false
def encT (L : List Bool) : List Value := L.map .bool
theorem encT_length (L : List Bool) : (encT L).length = L.length := by simp [encT]
theorem encT_set (L : List Bool) (i : Nat) (b : Bool) : (encT L).set i (.bool b) = encT (L.set i b) := by simp [encT, List.map_set]
theorem made_bools (n : Nat) : (madeCells (Value.bool false).cells (n * 1)).toList = encT (List.replicate n false) := by
  rw [Nat.mul_one, encT, List.map_replicate]
  exact toList_madeCells_one (.bool false) n
theorem info4 : (Tryz.prog.info? 4).map (fun i => (i.zero, i.size, i.bytes)) = some (some (.bool false), 1, 1) := by kernel_rfl
theorem lead_cell {w9 : World} {B g n : Nat} (h : w9.ownsRow B 4 1 (.slice (some ⟨g, 0, none⟩) (n + 1) (n + 1)) (n + 1) (encT (List.replicate (n + 1) false))) : w9.cell? ⟨g, n, none⟩ = some (.bool false) := by
  obtain ⟨_, _, e9, _, _, hp9⟩ := own_sl h
  cases e9
  obtain ⟨g9, e9, hg9l, hc9⟩ := hp9 (by omega)
  cases e9
  refine (hc9 n (by rw [encT_length, List.length_replicate]; omega)).trans ?_
  simp [encT]
theorem own_tcell {W : World} {B g n c : Nat} {L : List Bool} (h : W.ownsRow B 4 1 (.slice (some ⟨g, 0, none⟩) n c) n (encT L)) (j : Nat) (hj : j < n) : W.cell? ⟨g, j, none⟩ = some (.bool (L.getD j false)) := by
  have hl := h.1
  rw [encT_length] at hl
  obtain ⟨_, _, e9, _, _, hp9⟩ := own_sl h
  cases e9
  obtain ⟨g9, e9, hg9l, hc9⟩ := hp9 (by omega)
  cases e9
  refine (hc9 j (by rw [encT_length]; omega)).trans ?_
  have hjl : j < L.length := by omega
  simp [encT, List.getD_eq_getElem?_getD, hjl]
set_option maxRecDepth 100000 in
set_option maxHeartbeats 2000000 in
theorem leaders_any (vc vj : Value) (code : List (Nat × Nat)) (js : List Nat) (hcl : code.length ≤ 16384) (hjl : js.length ≤ 16384)
    (hto : ∀ i, i < code.length → kindOf (code.getD i (0, 0)).1 = 2 ∨ kindOf (code.getD i (0, 0)).1 = 3 → (code.getD i (0, 0)).2 ≤ code.length) (hjs : ∀ i, i < js.length → js.getD i 0 ≤ code.length)
    (w : World) (hc : Instrs w vc code) (hj : Reads w 1 vj js.length (encN .u32 js) ∧ ∀ k, js.getD k 0 < 4294967296) :
    Calls Tryz.prog 168 #[vc, vj] w fun e w' => ∃ v, e = .returned v ∧ w'.ownsRow w.heap.size 4 1 v (code.length + 1) (encT (leadN code js)) ∧ Below w.heap.size w w' := by
  have hlt := hc.lt
  obtain ⟨ac, cc, rfl, -, -, -, hpc⟩ := hc.opened
  obtain ⟨⟨aj, cj, rfl, -, -, -, -, hpj⟩, hj32⟩ := hj
  obtain ⟨i1, hi1, x0, x1, x2⟩ := info_parts info4
  have Hpc := Lib.hid hpc
  have Hpj := Lib.hid hpj
  have Hlt := Lib.hid hlt
  have Hto := Lib.hid hto
  have Hjs := Lib.hid hjs
  have HI := Lib.hid (fun (o : Nat) (ho : o < 256) (W : World) => info_any o ho W)
  have hq : IntKind.i64.wrap ((code.length : Int) + 1) = (code.length : Int) + 1 := IntWalk.i64_in _ (by omega)
  clear hpc hpj hlt hto hjs
  go_enter Tryz.func168, Tryz.ntmps168
  go_wp2_with (at_make; refine wpList_make_full _ rfl _ _ 309 rfl w.heap.size 4 i1 (.bool false) 1 Tryz.underlying309 hi1 x0 x1 .i64 .i64 _ _ (code.length + 1) rfl rfl (by omega) (by omega) (by rw [x2]; omega) (by unfold maxLen; omega) (Nat.le_refl _) ?_; intro w9 ho9 hg9; rw [made_bools] at ho9; have hf9 := ho9.frozenAt code.length; have hc9 := lead_cell ho9; have hb9 := below_of_none hg9; have hs9 := (ho9.lt _ rfl).2; have hst := (ho9.stored code.length (.bool true)).1; rw [encT_set] at hst; have HS := Lib.hid hst; have HB9 := Lib.hid (hb9.setCell (p := ⟨w.heap.size, code.length, none⟩) (Nat.le_refl _) (.bool true)); clear ho9 hg9 hb9 hst)
  go_loopw [22] (fun i wr => ∃ k : Nat, k ≤ code.length ∧ i = .int .i64 k ∧ wr.ownsRow w.heap.size 4 1 (.slice (some ⟨w.heap.size, 0, none⟩) (code.length + 1) (code.length + 1)) (code.length + 1) (encT (leadTo code k)) ∧ Below w.heap.size w wr) (fun i _ => code.length - (intOf i).toNat)
  case atStart => exact ⟨0, by omega, rfl, HS.out, HB9.out⟩
  case round =>
    obtain ⟨k, hk, rfl, ho, hb⟩ := hrel
    have HO := Lib.hid ho
    have HB := Lib.hid hb
    clear ho hb
    by_cases hlt : k < code.length
    · obtain ⟨b, off, rfl, hbl, hcc⟩ := Hpc.out (by omega)
      obtain ⟨n0, n1⟩ := hcc k hlt
      have m0 := (HB.out.cell (p := ⟨b, off + k * 2, none⟩) hbl).trans n0
      have m1 := (HB.out.cell (p := ⟨b, off + k * 2 + 1, none⟩) hbl).trans n1
      obtain ⟨ho8, ha32⟩ := Hlt.out k
      have Hto' := Hto.out k hlt
      have HSt := Lib.hid (show leadTo code (k + 1) = leadStep (leadTo code k) k (code.getD k (0, 0)) from rfl)
      have hbwr : b < wr.heap.size := Nat.lt_of_lt_of_le hbl HB.out.size
      have hwr := (HO.out.lt _ rfl).2
      clear n0 n1 hcc
      generalize code.getD k (0, 0) = ins at *
      obtain ⟨o, a⟩ := ins
      simp only at *
      have hki : (k : Int) < (code.length : Int) := by omega
      have hk0 : (0 : Int) ≤ (k : Int) := by omega
      have HIo := Lib.hid (fun W => HI.out o ho8 W)
      unfold rowVal rowCells at HIo
      obtain ⟨K, hKo⟩ : ∃ K, kindOf o = K := ⟨_, rfl⟩
      have hK8 : K ≤ 8 := by rw [← hKo]; exact kind_lt o
      have HK := Lib.hid hKo
      rw [hKo] at HIo Hto'
      generalize wordOf o = wd at *
      generalize widthOf o = wi at *
      generalize mostOf o = mo at *
      generalize takesOf o = ta at *
      generalize givesOf o = gi at *
      generalize isOp o = io at *
      clear hKo
      go_wp2_with fail
      refine (HIo.out _).mono ?_
      rintro e w1 ⟨rfl, hb1⟩
      have q1 : w1.cell? ⟨wr.heap.size, 1, none⟩ = some (.int .u32 a) := (hb1.cell (p := ⟨wr.heap.size, 1, none⟩) (by simp)).trans (by simp [go_sem])
      have hs1 : wr.heap.size < w1.heap.size := Bel.lt hb1
      have hB1 : Below wr.heap.size wr w1 := Bel.of hb1
      obtain ⟨W2, hW2⟩ : ∃ W2, W2 = w1.alloc (.cells #[.string ⟨wd.toArray⟩, .int .i64 wi, .int .u32 mo, .int .i64 ta, .int .i64 gi, .int .u8 K] 421) := ⟨_, rfl⟩
      have hB2 : Below wr.heap.size wr W2 := by rw [hW2]; exact Bel.al hB1 _
      have q2 := cell_new5 w1 (.string ⟨wd.toArray⟩) (.int .i64 wi) (.int .u32 mo) (.int .i64 ta) (.int .i64 gi) (.int .u8 K) 421
      have q3 : (w1.alloc (.cells #[.string ⟨wd.toArray⟩, .int .i64 wi, .int .u32 mo, .int .i64 ta, .int .i64 gi, .int .u8 K] 421)).cell? ⟨wr.heap.size, 1, none⟩ = some (.int .u32 a) := ((Bel.new w1 _).cell (p := ⟨wr.heap.size, 1, none⟩) hs1).trans q1
      have HO2 := Lib.hid (own_below HO.out hB2)
      have HB2 := Lib.hid (Bel.tr HB.out hB2)
      have tk := own_tcell HO2.out k (by omega)
      have tk1 := own_tcell HO2.out (k + 1) (by omega)
      have fk := HO2.out.frozenAt k
      have fk1 := HO2.out.frozenAt (k + 1)
      rw [hW2] at tk tk1 fk fk1
      have HO1 := own_below HO.out hB1
      have uk := own_tcell HO1 k (by omega)
      have uk1 := own_tcell HO1 (k + 1) (by omega)
      have gk := HO1.frozenAt k
      have gk1 := HO1.frozenAt (k + 1)
      have hsw : w.heap.size < w1.heap.size := by omega
      have hnw : w1.heap.size ≠ w.heap.size := by omega
      have hnw2 : w.heap.size ≠ w1.heap.size := by omega
      have HO1 := Lib.hid HO1
      have HBw1 := Lib.hid (Bel.tr HB.out hB1)
      clear hb1 hB1 hB2 HIo
      have hK : K = 0 ∨ K = 1 ∨ K = 2 ∨ K = 3 ∨ K = 4 ∨ K = 5 ∨ K = 6 ∨ K = 7 ∨ K = 8 := by omega
      have hk1 : IntKind.i64.wrap ((k : Int) + 1) = (k : Int) + 1 := IntWalk.i64_in _ (by omega)
      have hk2 : (k : Int) + 1 < (code.length : Int) + 1 := by omega
      have hk3 : (0 : Int) ≤ (k : Int) + 1 := by omega
      have hk4 : (k : Int) < (code.length : Int) + 1 := by omega
      have hk5 : ((k : Int) + 1).toNat = k + 1 := by omega
      rcases hK with rfl | rfl | rfl | rfl | rfl | rfl | rfl | rfl | rfl
      · skip
        have HSe : Hid (leadTo code (k + 1) = leadTo code k) := Lib.hid (by rw [HSt.out]; simp [leadStep, HK.out])
        rw [hW2] at HO2 HB2
        clear HO hW2
        go_wp2_with fail
        go_roundw
        case rel => exact ⟨k + 1, by omega, by go_num, by rw [HSe.out]; exact HO2.out, HB2.out⟩
        case measure => simp [intOf]; omega
      · skip
        have HSe : Hid (leadTo code (k + 1) = leadTo code k) := Lib.hid (by rw [HSt.out]; simp [leadStep, HK.out])
        rw [hW2] at HO2 HB2
        clear HO hW2
        go_wp2_with fail
        go_roundw
        case rel => exact ⟨k + 1, by omega, by go_num, by rw [HSe.out]; exact HO2.out, HB2.out⟩
        case measure => simp [intOf]; omega
      · skip
        have hql : a ≤ code.length := Hto' (by omega)
        have hai : (a : Int) < (code.length : Int) + 1 := by omega
        have ha0 : (0 : Int) ≤ (a : Int) := by omega
        rw [hW2] at HB2
        clear tk tk1 fk fk1
        by_cases hak : a = k + 1
        · subst hak
          have st := (HO1.out.stored (k + 1) (.bool true)).1
          rw [encT_set] at st
          have HS := Lib.hid (fun o => own_below (st.stored (k + 1) (.bool true)).1 (Bel.new _ o))
          have HSe : Hid (leadTo code (k + 1) = ((leadTo code k).set (k + 1) true).set (k + 1) true) := Lib.hid (by rw [HSt.out]; simp [leadStep, HK.out])
          clear st HO1 HO2 HO hW2
          go_wp2_with fail
          go_roundw
          case rel => exact ⟨k + 1, by omega, by go_num, by rw [HSe.out, ← encT_set]; exact HS.out _, Bel.al ((HBw1.out.setCell (p := ⟨w.heap.size, k + 1, none⟩) (Nat.le_refl _) _).setCell (p := ⟨w.heap.size, k + 1, none⟩) (Nat.le_refl _) _) _⟩
          case measure => simp [intOf]; omega
        · have hak' : ¬ k + 1 = a := fun e => hak e.symm
          have ua1 := own_tcell HO1.out a (by omega)
          have ga1 := HO1.out.frozenAt a
          have st := (HO1.out.stored a (.bool true)).1
          rw [encT_set] at st
          have HS := Lib.hid (fun o => own_below (st.stored (k + 1) (.bool true)).1 (Bel.new _ o))
          have HSe : Hid (leadTo code (k + 1) = ((leadTo code k).set a true).set (k + 1) true) := Lib.hid (by rw [HSt.out]; simp [leadStep, HK.out])
          clear st HO1 HO2 HO hW2
          go_wp2_with fail
          go_roundw
          case rel => exact ⟨k + 1, by omega, by go_num, by rw [HSe.out, ← encT_set]; exact HS.out _, Bel.al ((HBw1.out.setCell (p := ⟨w.heap.size, a, none⟩) (Nat.le_refl _) _).setCell (p := ⟨w.heap.size, k + 1, none⟩) (Nat.le_refl _) _) _⟩
          case measure => simp [intOf]; omega
      · skip
        have hql : a ≤ code.length := Hto' (by omega)
        have hai : (a : Int) < (code.length : Int) + 1 := by omega
        have ha0 : (0 : Int) ≤ (a : Int) := by omega
        rw [hW2] at HB2
        clear tk tk1 fk fk1
        by_cases hak : a = k + 1
        · subst hak
          have st := (HO1.out.stored (k + 1) (.bool true)).1
          rw [encT_set] at st
          have HS := Lib.hid (fun o => own_below (st.stored (k + 1) (.bool true)).1 (Bel.new _ o))
          have HSe : Hid (leadTo code (k + 1) = ((leadTo code k).set (k + 1) true).set (k + 1) true) := Lib.hid (by rw [HSt.out]; simp [leadStep, HK.out])
          clear st HO1 HO2 HO hW2
          go_wp2_with fail
          go_roundw
          case rel => exact ⟨k + 1, by omega, by go_num, by rw [HSe.out, ← encT_set]; exact HS.out _, Bel.al ((HBw1.out.setCell (p := ⟨w.heap.size, k + 1, none⟩) (Nat.le_refl _) _).setCell (p := ⟨w.heap.size, k + 1, none⟩) (Nat.le_refl _) _) _⟩
          case measure => simp [intOf]; omega
        · have hak' : ¬ k + 1 = a := fun e => hak e.symm
          have ua1 := own_tcell HO1.out a (by omega)
          have ga1 := HO1.out.frozenAt a
          have st := (HO1.out.stored a (.bool true)).1
          rw [encT_set] at st
          have HS := Lib.hid (fun o => own_below (st.stored (k + 1) (.bool true)).1 (Bel.new _ o))
          have HSe : Hid (leadTo code (k + 1) = ((leadTo code k).set a true).set (k + 1) true) := Lib.hid (by rw [HSt.out]; simp [leadStep, HK.out])
          clear st HO1 HO2 HO hW2
          go_wp2_with fail
          go_roundw
          case rel => exact ⟨k + 1, by omega, by go_num, by rw [HSe.out, ← encT_set]; exact HS.out _, Bel.al ((HBw1.out.setCell (p := ⟨w.heap.size, a, none⟩) (Nat.le_refl _) _).setCell (p := ⟨w.heap.size, k + 1, none⟩) (Nat.le_refl _) _) _⟩
          case measure => simp [intOf]; omega
      · skip
        have st := (HO1.out.stored (k + 1) (.bool true)).1
        rw [encT_set] at st
        have HS := Lib.hid (fun o => own_below st (Bel.new _ o))
        have HSe : Hid (leadTo code (k + 1) = (leadTo code k).set (k + 1) true) := Lib.hid (by rw [HSt.out]; simp [leadStep, HK.out])
        rw [hW2] at HB2
        clear st HO1 HO2 HO hW2
        go_wp2_with fail
        go_roundw
        case rel => exact ⟨k + 1, by omega, by go_num, by rw [HSe.out]; exact HS.out _, Bel.al (HBw1.out.setCell (p := ⟨w.heap.size, k + 1, none⟩) (Nat.le_refl _) _) _⟩
        case measure => simp [intOf]; omega
      · skip
        have st := (HO1.out.stored (k + 1) (.bool true)).1
        rw [encT_set] at st
        have HS := Lib.hid (fun o => own_below st (Bel.new _ o))
        have HSe : Hid (leadTo code (k + 1) = (leadTo code k).set (k + 1) true) := Lib.hid (by rw [HSt.out]; simp [leadStep, HK.out])
        rw [hW2] at HB2
        clear st HO1 HO2 HO hW2
        go_wp2_with fail
        go_roundw
        case rel => exact ⟨k + 1, by omega, by go_num, by rw [HSe.out]; exact HS.out _, Bel.al (HBw1.out.setCell (p := ⟨w.heap.size, k + 1, none⟩) (Nat.le_refl _) _) _⟩
        case measure => simp [intOf]; omega
      · skip
        have st := (HO1.out.stored (k) (.bool true)).1
        rw [encT_set] at st
        have HS := Lib.hid (fun o => own_below st (Bel.new _ o))
        have HSe : Hid (leadTo code (k + 1) = (leadTo code k).set (k) true) := Lib.hid (by rw [HSt.out]; simp [leadStep, HK.out])
        rw [hW2] at HB2
        clear st HO1 HO2 HO hW2
        go_wp2_with fail
        go_roundw
        case rel => exact ⟨k + 1, by omega, by go_num, by rw [HSe.out]; exact HS.out _, Bel.al (HBw1.out.setCell (p := ⟨w.heap.size, k, none⟩) (Nat.le_refl _) _) _⟩
        case measure => simp [intOf]; omega
      · skip
        have st := (HO1.out.stored (k + 1) (.bool true)).1
        rw [encT_set] at st
        have HS := Lib.hid (fun o => own_below st (Bel.new _ o))
        have HSe : Hid (leadTo code (k + 1) = (leadTo code k).set (k + 1) true) := Lib.hid (by rw [HSt.out]; simp [leadStep, HK.out])
        rw [hW2] at HB2
        clear st HO1 HO2 HO hW2
        go_wp2_with fail
        go_roundw
        case rel => exact ⟨k + 1, by omega, by go_num, by rw [HSe.out]; exact HS.out _, Bel.al (HBw1.out.setCell (p := ⟨w.heap.size, k + 1, none⟩) (Nat.le_refl _) _) _⟩
        case measure => simp [intOf]; omega
      · skip
        have st := (HO1.out.stored (k + 1) (.bool true)).1
        rw [encT_set] at st
        have HS := Lib.hid (fun o => own_below st (Bel.new _ o))
        have HSe : Hid (leadTo code (k + 1) = (leadTo code k).set (k + 1) true) := Lib.hid (by rw [HSt.out]; simp [leadStep, HK.out])
        rw [hW2] at HB2
        clear st HO1 HO2 HO hW2
        go_wp2_with fail
        go_roundw
        case rel => exact ⟨k + 1, by omega, by go_num, by rw [HSe.out]; exact HS.out _, Bel.al (HBw1.out.setCell (p := ⟨w.heap.size, k + 1, none⟩) (Nat.le_refl _) _) _⟩
        case measure => simp [intOf]; omega
    · obtain rfl : k = code.length := by omega
      obtain ⟨wo, rfl⟩ : ∃ wo : World, wo = wr := ⟨_, rfl⟩
      go_wp2_with fail
      go_loopw [63] (fun i wr => ∃ q : Nat, q ≤ js.length ∧ i = .int .i64 q ∧ wr.ownsRow w.heap.size 4 1 (.slice (some ⟨w.heap.size, 0, none⟩) (code.length + 1) (code.length + 1)) (code.length + 1) (encT (leadJ code js q)) ∧ Below w.heap.size w wr) (fun i _ => js.length - (intOf i).toNat)
      case atStart => exact ⟨0, by omega, rfl, HO.out, HB.out⟩
      case round =>
        obtain ⟨q, hq2, rfl, ho2, hb2⟩ := hrel
        have HO2 := Lib.hid ho2
        have HB2 := Lib.hid hb2
        clear ho2 hb2
        by_cases hlt2 : q < js.length
        · obtain ⟨b, off, rfl, hbl, hcc⟩ := Hpj.out (by omega)
          have n0 := hcc q (by rw [encN_length]; exact hlt2)
          rw [encN_at _ _ _ hlt2] at n0
          have m0 := (HB2.out.cell (p := ⟨b, off + q, none⟩) hbl).trans n0
          have hxl := Hjs.out q hlt2
          have HSt := Lib.hid (show leadJ code js (q + 1) = (leadJ code js q).set (js.getD q 0) true from rfl)
          have hbwr : b < wr.heap.size := Nat.lt_of_lt_of_le hbl HB2.out.size
          clear n0 hcc
          generalize js.getD q 0 = x at *
          have hki : (q : Int) < (js.length : Int) := by omega
          have hk0 : (0 : Int) ≤ (q : Int) := by omega
          have hxi : (x : Int) < (code.length : Int) + 1 := by omega
          have hx0 : (0 : Int) ≤ (x : Int) := by omega
          have tk := own_tcell HO2.out x (by omega)
          have fk := HO2.out.frozenAt x
          have st := (HO2.out.stored x (.bool true)).1
          rw [encT_set] at st
          have HS := Lib.hid st
          clear st
          go_wp2_with fail
          go_roundw
          case rel => exact ⟨q + 1, by omega, by go_num, by rw [HSt.out]; exact HS.out, HB2.out.setCell (p := ⟨w.heap.size, x, none⟩) (Nat.le_refl _) _⟩
          case measure => simp [intOf]; omega
        · obtain rfl : q = js.length := by omega
          go_wp2_with fail
          go_ret
          exact ⟨_, rfl, HO2.out, HB2.out⟩
end Go.Proofs.YtgpicmiaanapkaaGreat
/- Floats by their bits. -/
namespace Go.Proofs.YtgpicmiaanapkaaGreat
open Go.RowKit
def w32 (x : Int) : Nat := (IntKind.u32.wrap x).toNat
theorem w32_eq (x : Int) : IntKind.u32.wrap x = (w32 x : Int) := by unfold w32; rw [IntKind.wrap_u32]; omega
theorem w32_lt (x : Int) : w32 x < 4294967296 := by unfold w32; rw [IntKind.wrap_u32]; omega
theorem frombits (n : Nat) (w : World) : (callFunc 519 #[.int .u32 n]).run Tryz.prog w = .ok (.value (.float .f32 n)) w := by
  rw [run_callFunc_extern Tryz.func519 (by kernel_rfl) (by kernel_rfl) (by kernel_rfl) (e := Extern.MathFloatBits.float32frombits) (by kernel_rfl)]; rfl
theorem tobits (n : Nat) (w : World) : (callFunc 518 #[.float .f32 n]).run Tryz.prog w = .ok (.value (.int .u32 n)) w := by
  rw [run_callFunc_extern Tryz.func518 (by kernel_rfl) (by kernel_rfl) (by kernel_rfl) (e := Extern.MathFloatBits.float32bits) (by kernel_rfl)]; rfl
/-- Is it none? -/
def nanF (x : Nat) : Bool := (FloatKind.f32.format.order x x) != some .eq
def wordF (x : Nat) : Nat := if nanF x then 2143289344 else x
set_option maxRecDepth 100000 in
theorem word_any (x : Nat) (w : World) : Calls Tryz.prog 474 #[.float .f32 x] w fun e w' => e = .returned (.int .u32 (wordF x)) ∧ w' = w := by
  have hb := tobits x
  cases h : nanF x <;> unfold nanF at h <;> unfold wordF nanF <;> rw [h]
  all_goals
    go_enter Tryz.func474, Tryz.ntmps474
    go_wp2
    go_ret
    exact ⟨rfl, rfl⟩
set_option maxRecDepth 100000 in
theorem number_any (x : Nat) (w : World) : Calls Tryz.prog 475 #[.int .u32 x] w fun e w' => e = .returned (.float .f32 x) ∧ w' = w := by
  have hb := frombits x
  go_enter Tryz.func475, Tryz.ntmps475
  go_wp2
  go_ret
  exact ⟨rfl, rfl⟩
theorem wordF_nan (t r : Nat) (h1 : t < 2) (h2 : r < 8388607) : wordF (t * 2147483648 + 2139095040 + 1 + r) = 2143289344 := by
  have hr : Ieee.single.read (t * 2147483648 + 2139095040 + 1 + r) = .nan (t == 1) (r + 1) := by
    have e1 : (t * 2147483648 + 2139095040 + 1 + r) / 2147483648 = t := by omega
    have e2 : (t * 2147483648 + 2139095040 + 1 + r) % 2147483648 = 2139095040 + 1 + r := by omega
    have e3 : t % 2 = t := by omega
    simp only [Ieee.Format.read, Ieee.Format.signWeight, Ieee.single, Ieee.Format.binade, Ieee.Format.infRung, show (2 : Nat) ^ (8 + 23) = 2147483648 from rfl, show (2 : Nat) ^ 23 = 8388608 from rfl, show ((2 : Nat) ^ 8 - 1) * 8388608 = 2139095040 from rfl, e1, e2, e3]
    rw [if_neg (by omega), if_neg (by omega), if_neg (by omega), show 2139095040 + 1 + r - 2139095040 = r + 1 from by omega]
  have : nanF (t * 2147483648 + 2139095040 + 1 + r) = true := by
    unfold nanF
    show (Ieee.Datum.order (Ieee.single.read _) (Ieee.single.read _) != _) = true
    rw [hr]
    rfl
  unfold wordF
  rw [this]
  rfl
/-- Go's four operations on floats. -/
theorem nan_arith (op : BinOp) (hop : op = .add ∨ op = .sub ∨ op = .mul ∨ op = .quo) (t : TypeId) (x y : Nat) (h : floatBits op .f32 x y = none) (w : World) :
    ∃ b, wordF b = 2143289344 ∧ (binOp op t (.float .f32 x) (.float .f32 y)).run Tryz.prog w = .ok (.float .f32 b) w.drew := by
  refine ⟨(Question.nanBits .f32 x y).cut (w.tape w.drawn (.nanBits .f32 x y)), ?_, ?_⟩
  · exact wordF_nan (w.tape w.drawn (.nanBits .f32 x y) % 2) _ (by omega) (Nat.mod_lt _ (by decide))
  · have hq : (Question.nanBits .f32 x y).forced = false := rfl
    unfold floatBits at h
    rcases hop with rfl | rfl | rfl | rfl <;> simp only at h <;> simp [binOp, Op.floatArith, h, hq]
def arithF (op : BinOp) (x y : Nat) : Nat := match floatBits op .f32 x y with
  | some r => wordF r
  | none => 2143289344
theorem arith_run (op : BinOp) (hop : op = .add ∨ op = .sub ∨ op = .mul ∨ op = .quo) (t : TypeId) (x y : Nat) (w : World) :
    ∃ b w', wordF b = arithF op x y ∧ Below w.heap.size w w' ∧ (binOp op t (.float .f32 x) (.float .f32 y)).run Tryz.prog w = .ok (.float .f32 b) w' := by
  unfold arithF
  cases h : floatBits op .f32 x y with
  | some r => exact ⟨r, w, rfl, Below.refl _ _, run_float_arith w op t .f32 x y r h⟩
  | none =>
    obtain ⟨b, hb, hr⟩ := nan_arith op hop t x y h w
    exact ⟨b, w.drew, hb, (Below.refl _ _).drew, hr⟩
set_option maxRecDepth 100000 in
theorem sum_any (x y : Nat) (w : World) : Calls Tryz.prog 476 #[.int .u32 x, .int .u32 y] w fun e w' => e = .returned (.int .u32 (arithF .add x y)) ∧ Below w.heap.size w w' := by
  obtain ⟨b, w1, hb, hbl, hr⟩ := arith_run .add (by decide) 596 x y w
  have Hb := Lib.hid hb
  clear hb
  go_enter Tryz.func476, Tryz.ntmps476
  go_wp2_with (first | (go_at_call 475; refine (number_any _ _).mono ?_; rintro e w1 ⟨rfl, hw1⟩; subst hw1) | (go_at_call 474; refine (word_any _ _).mono ?_; rintro e w1 ⟨rfl, hw1⟩; subst hw1))
  go_ret
  exact ⟨by simp [Hb.out], hbl⟩
set_option maxRecDepth 100000 in
theorem rest_any (x y : Nat) (w : World) : Calls Tryz.prog 477 #[.int .u32 x, .int .u32 y] w fun e w' => e = .returned (.int .u32 (arithF .sub x y)) ∧ Below w.heap.size w w' := by
  obtain ⟨b, w1, hb, hbl, hr⟩ := arith_run .sub (by decide) 596 x y w
  have Hb := Lib.hid hb
  clear hb
  go_enter Tryz.func477, Tryz.ntmps477
  go_wp2_with (first | (go_at_call 475; refine (number_any _ _).mono ?_; rintro e w1 ⟨rfl, hw1⟩; subst hw1) | (go_at_call 474; refine (word_any _ _).mono ?_; rintro e w1 ⟨rfl, hw1⟩; subst hw1))
  go_ret
  exact ⟨by simp [Hb.out], hbl⟩
set_option maxRecDepth 100000 in
theorem product_any (x y : Nat) (w : World) : Calls Tryz.prog 478 #[.int .u32 x, .int .u32 y] w fun e w' => e = .returned (.int .u32 (arithF .mul x y)) ∧ Below w.heap.size w w' := by
  obtain ⟨b, w1, hb, hbl, hr⟩ := arith_run .mul (by decide) 596 x y w
  have Hb := Lib.hid hb
  clear hb
  go_enter Tryz.func478, Tryz.ntmps478
  go_wp2_with (first | (go_at_call 475; refine (number_any _ _).mono ?_; rintro e w1 ⟨rfl, hw1⟩; subst hw1) | (go_at_call 474; refine (word_any _ _).mono ?_; rintro e w1 ⟨rfl, hw1⟩; subst hw1))
  go_ret
  exact ⟨by simp [Hb.out], hbl⟩
set_option maxRecDepth 100000 in
theorem ratio_any (x y : Nat) (w : World) : Calls Tryz.prog 479 #[.int .u32 x, .int .u32 y] w fun e w' => e = .returned (.int .u32 (arithF .quo x y)) ∧ Below w.heap.size w w' := by
  obtain ⟨b, w1, hb, hbl, hr⟩ := arith_run .quo (by decide) 596 x y w
  have Hb := Lib.hid hb
  clear hb
  go_enter Tryz.func479, Tryz.ntmps479
  go_wp2_with (first | (go_at_call 475; refine (number_any _ _).mono ?_; rintro e w1 ⟨rfl, hw1⟩; subst hw1) | (go_at_call 474; refine (word_any _ _).mono ?_; rintro e w1 ⟨rfl, hw1⟩; subst hw1))
  go_ret
  exact ⟨by simp [Hb.out], hbl⟩

def standF (x y : Nat) : Nat :=
  if FloatKind.f32.format.order x y == some .lt then 2 else if FloatKind.f32.format.order x y == some .gt then 4 else if FloatKind.f32.format.order x y == some .eq then 3 else 1
set_option maxRecDepth 100000 in
theorem stand_any (x y : Nat) (w : World) : Calls Tryz.prog 417 #[.int .u32 x, .int .u32 y] w fun e w' => e = .returned (.int .u8 (standF x y)) ∧ w' = w := by
  unfold standF
  cases h1 : FloatKind.f32.format.order x y == some .lt <;> cases h2 : FloatKind.f32.format.order x y == some .gt <;> cases h3 : FloatKind.f32.format.order x y == some .eq
  all_goals
    go_enter Tryz.func417, Tryz.ntmps417
    go_wp2_with (first | (go_at_call 475; refine (number_any _ _).mono ?_; rintro e w1 ⟨rfl, hw1⟩; subst hw1))
    go_ret
    exact ⟨by simp, rfl⟩
theorem bits_nat (op : BinOp) (x y : Int) : bits op .u32 x y = ((bits op .u32 x y).toNat : Int) := by have := bits_lo_u32 op x y; omega
def turnF (x : Nat) : Nat := (bits .xor .u32 x 2147483648).toNat
set_option maxRecDepth 100000 in
theorem turned_any (x : Nat) (w : World) : Calls Tryz.prog 413 #[.int .u32 x] w fun e w' => e = .returned (.int .u32 (turnF x)) ∧ w' = w := by
  have hx := Lib.hid (bits_nat .xor x 2147483648)
  unfold turnF
  go_enter Tryz.func413, Tryz.ntmps413
  go_wp2
  go_ret
  exact ⟨by rw [← hx.out]; rfl, rfl⟩
set_option maxRecDepth 100000 in
theorem sof_any (x : Int) (w : World) : Calls Tryz.prog 414 #[.int .i32 x] w fun e w' => e = .returned (.int .u32 (wordF (floatOfInt .f32 x))) ∧ w' = w := by
  go_enter Tryz.func414, Tryz.ntmps414
  go_wp2_with (first | (go_at_call 474; refine (word_any _ _).mono ?_; rintro e w1 ⟨rfl, hw1⟩; subst hw1))
  go_ret
  exact ⟨by simp, rfl⟩
theorem cut_low (neg : Bool) (n drop : Nat) : (Ieee.Toward.zero.cut neg n drop) * 2 ^ drop ≤ n := by
  simp only [Ieee.Toward.cut, Bool.toNat_false, Nat.add_zero, Nat.one_shiftLeft]
  by_cases h : drop ≤ n.log2 + 2
  · rw [Nat.min_eq_left h]; exact Nat.div_mul_le_self _ _
  · rw [Nat.min_eq_right (by omega)]
    have : n / 2 ^ (n.log2 + 2) = 0 := Nat.div_eq_of_lt (Nat.lt_of_lt_of_le Nat.lt_log2_self (Nat.pow_le_pow_right (by decide) (by omega)))
    rw [this]; simp
theorem cut_bound (s : Bool) (m : Nat) (i : Int) (c : Nat) (hc : m * 2 ^ (i - min i 8).toNat < c + 8388608 * 2 ^ (8 - min i 8).toNat) (hc1 : c ≤ 1) : Ieee.Toward.zero.cut s (m <<< i.toNat) (-i).toNat < c + 2147483648 := by
  have h := cut_low s (m <<< i.toNat) (-i).toNat
  rw [Nat.shiftLeft_eq] at h
  by_cases h8 : 8 ≤ i
  · rw [show min i 8 = 8 from by omega] at hc
    rw [show ((8 : Int) - 8).toNat = 0 from rfl] at hc
    rw [show (-i).toNat = 0 from by omega] at h ⊢
    have e : i.toNat = (i - 8).toNat + 8 := by omega
    rw [e, Nat.pow_add, ← Nat.mul_assoc] at h
    rw [Nat.shiftLeft_eq, e, Nat.pow_add, ← Nat.mul_assoc]
    generalize m * 2 ^ (i - 8).toNat = q at *
    omega
  · rw [show min i 8 = i from by omega] at hc
    rw [show (i - i).toNat = 0 from by omega] at hc
    by_cases h0 : 0 ≤ i
    · rw [show (-i).toNat = 0 from by omega] at h ⊢
      rw [Nat.shiftLeft_eq]
      have : i = 0 ∨ i = 1 ∨ i = 2 ∨ i = 3 ∨ i = 4 ∨ i = 5 ∨ i = 6 ∨ i = 7 := by omega
      rcases this with rfl | rfl | rfl | rfl | rfl | rfl | rfl | rfl <;> simp at h hc ⊢ <;> omega
    · obtain ⟨D, hD⟩ : ∃ D : Nat, i = -(D : Int) := ⟨(-i).toNat, by omega⟩
      rw [show (8 - i).toNat = 8 + D from by omega, Nat.pow_add] at hc
      rw [show (-i).toNat = D from by omega, show i.toNat = 0 from by omega] at h ⊢
      rw [Nat.shiftLeft_eq]
      have hp := Nat.two_pow_pos D
      generalize 2 ^ D = p at *
      generalize Ieee.Toward.zero.cut s (m * 2 ^ 0) D = v at *
      have h1 : v * p < c + 2147483648 * p := by
        have : 8388608 * (2 ^ 8 * p) = 2147483648 * p := by omega
        omega
      rcases (show c = 0 ∨ c = 1 by omega) with rfl | rfl
      · rw [Nat.zero_add] at h1 ⊢
        exact Nat.lt_of_mul_lt_mul_right h1
      · have : v ≤ 2147483648 := Nat.le_of_mul_le_mul_right (show v * p ≤ 2147483648 * p by omega) hp
        omega
/-- Toward nought: the number is within the kind where it is not too great and not too small. -/
def towardF (x : Nat) : Int := if nanF x then 0 else if (FloatKind.f32.format.order x 1325400064 == some .gt || FloatKind.f32.format.order x 1325400064 == some .eq) then 2147483647 else if FloatKind.f32.format.order x 3472883712 == some .lt then -2147483648 else (floatToIntVal .f32 x .i32).getD 0
theorem read_hi : Ieee.single.read 1325400064 = .number false 8388608 8 := by decide +kernel
theorem read_lo : Ieee.single.read 3472883712 = .number true 8388608 8 := by decide +kernel
theorem ord_lt (a b : Int) (h : (some (compare a b) == some .gt || some (compare a b) == some .eq) = false) : a < b := by
  rw [← Int.compare_eq_lt]
  generalize compare a b = o at h
  cases o
  · rfl
  · simp at h
  · simp at h
theorem ord_ge (a b : Int) (h : (some (compare a b) == some .lt) = false) : ¬ a < b := by
  rw [← Int.compare_eq_lt]
  generalize compare a b = o at h
  cases o
  · simp at h
  · simp
  · simp
theorem toward_fits (x : Nat) (h0 : nanF x = false) (h1 : (FloatKind.f32.format.order x 1325400064 == some .gt || FloatKind.f32.format.order x 1325400064 == some .eq) = false) (h2 : (FloatKind.f32.format.order x 3472883712 == some .lt) = false) :
    ∃ n, floatToIntVal .f32 x .i32 = some n := by
  unfold nanF at h0
  simp only [FloatKind.format, Ieee.Format.order, read_hi, read_lo] at h0 h1 h2
  unfold floatToIntVal FloatKind.decode
  simp only [FloatKind.format]
  cases hd : Ieee.single.read x with
  | nan s t => rw [hd] at h0; simp [Ieee.Datum.order] at h0
  | infinity s =>
    rw [hd] at h1 h2
    cases s <;> simp [Ieee.Datum.order] at h1 h2
  | number s m i =>
    rw [hd] at h1 h2
    simp only [Ieee.Datum.order, Ieee.signed] at h1 h2
    have hc1 := ord_lt _ _ h1
    have hc2 := ord_ge _ _ h2
    clear h1 h2
    simp only [Nat.shiftLeft_eq] at hc1 hc2
    simp only [Ieee.Datum.toInt, Ieee.Datum.integral, Ieee.signed, Nat.shiftLeft_zero]
    have hm : IntKind.i32.min = -2147483648 := rfl
    have hM : IntKind.i32.max = 2147483647 := rfl
    cases s with
    | false =>
      simp only [Bool.false_eq_true, if_false] at hc1 hc2 ⊢
      have := cut_bound false m i 0 (by omega) (by omega)
      rw [if_pos (by omega)]
      exact ⟨_, rfl⟩
    | true =>
      simp only [if_true] at hc1 hc2 ⊢
      have := cut_bound true m i 1 (by omega) (by omega)
      rw [if_pos (by omega)]
      exact ⟨_, rfl⟩
set_option maxRecDepth 100000 in
theorem toward_any (x : Nat) (w : World) : Calls Tryz.prog 415 #[.int .u32 x] w fun e w' => e = .returned (.int .i32 (towardF x)) ∧ w' = w := by
  unfold towardF
  cases h0 : nanF x
  · cases h1 : (FloatKind.f32.format.order x 1325400064 == some .gt || FloatKind.f32.format.order x 1325400064 == some .eq)
    · cases h2 : FloatKind.f32.format.order x 3472883712 == some .lt
      · obtain ⟨n, hn⟩ := toward_fits x h0 h1 h2
        have hcv := fun w => run_convert_float_int (P := Tryz.prog) w 596 21 .f32 .i32 x n (by kernel_rfl) Tryz.underlying21 hn
        rw [hn]
        unfold nanF at h0
        go_enter Tryz.func415, Tryz.ntmps415
        go_wp2_with (first | (go_at_call 475; refine (number_any _ _).mono ?_; rintro e w1 ⟨rfl, hw1⟩; subst hw1))
        go_ret
        exact ⟨by simp, rfl⟩
      · unfold nanF at h0
        go_enter Tryz.func415, Tryz.ntmps415
        go_wp2_with (first | (go_at_call 475; refine (number_any _ _).mono ?_; rintro e w1 ⟨rfl, hw1⟩; subst hw1))
        go_ret
        exact ⟨by simp, rfl⟩
    · unfold nanF at h0
      go_enter Tryz.func415, Tryz.ntmps415
      go_wp2_with (first | (go_at_call 475; refine (number_any _ _).mono ?_; rintro e w1 ⟨rfl, hw1⟩; subst hw1))
      go_ret
      exact ⟨by simp, rfl⟩
  · unfold nanF at h0
    go_enter Tryz.func415, Tryz.ntmps415
    go_wp2_with (first | (go_at_call 475; refine (number_any _ _).mono ?_; rintro e w1 ⟨rfl, hw1⟩; subst hw1))
    go_ret
    exact ⟨by simp, rfl⟩
end Go.Proofs.YtgpicmiaanapkaaGreat
/- What Unary does. -/
namespace Go.Proofs.YtgpicmiaanapkaaGreat
open Go.RowKit
def isUn (o : Nat) : Bool := o == 36 || o == 37 || o == 38 || o == 49 || o == 53 || o == 58 || o == 59
def unW (o a : Nat) : Nat :=
  if o = 36 then w32 (IntKind.i8.wrap a) else if o = 37 then w32 (IntKind.i16.wrap a) else if o = 38 then w32 (-a) else if o = 49 then (bits .xor .u32 IntKind.u32.max a).toNat else if o = 53 then turnF a else if o = 58 then wordF (floatOfInt .f32 (wrap32 a)) else if o = 59 then w32 (towardF a) else 0
def unE (o : Nat) : Nat := if isUn o then 0 else 61
set_option maxRecDepth 100000 in
set_option maxHeartbeats 1000000 in
theorem un36 (a : Nat) (w : World) : Calls Tryz.prog 340 #[.int .u8 36, .int .u32 a] w fun e w' => e = .returned (.tuple #[.int .u32 (unW 36 a : Nat), .int .i64 (unE 36 : Nat)]) ∧ w' = w := by
  have e1 : unW 36 a = w32 (IntKind.i8.wrap a) := by simp [unW]
  have e2 : unE 36 = 0 := by decide
  rw [e1, e2]
  clear e1 e2
  have hw := fun x => w32_eq x
  go_enter Tryz.func340, Tryz.ntmps340
  go_wp2
  go_ret2
  exact ⟨rfl, rfl⟩
set_option maxRecDepth 100000 in
set_option maxHeartbeats 1000000 in
theorem un37 (a : Nat) (w : World) : Calls Tryz.prog 340 #[.int .u8 37, .int .u32 a] w fun e w' => e = .returned (.tuple #[.int .u32 (unW 37 a : Nat), .int .i64 (unE 37 : Nat)]) ∧ w' = w := by
  have e1 : unW 37 a = w32 (IntKind.i16.wrap a) := by simp [unW]
  have e2 : unE 37 = 0 := by decide
  rw [e1, e2]
  clear e1 e2
  have hw := fun x => w32_eq x
  go_enter Tryz.func340, Tryz.ntmps340
  go_wp2
  go_ret2
  exact ⟨rfl, rfl⟩
set_option maxRecDepth 100000 in
set_option maxHeartbeats 1000000 in
theorem un38 (a : Nat) (w : World) : Calls Tryz.prog 340 #[.int .u8 38, .int .u32 a] w fun e w' => e = .returned (.tuple #[.int .u32 (unW 38 a : Nat), .int .i64 (unE 38 : Nat)]) ∧ w' = w := by
  have e1 : unW 38 a = w32 (-a) := by simp [unW]
  have e2 : unE 38 = 0 := by decide
  rw [e1, e2]
  clear e1 e2
  have hw := fun x => w32_eq x
  go_enter Tryz.func340, Tryz.ntmps340
  go_wp2
  go_ret2
  exact ⟨rfl, rfl⟩
set_option maxRecDepth 100000 in
set_option maxHeartbeats 1000000 in
theorem un49 (a : Nat) (w : World) : Calls Tryz.prog 340 #[.int .u8 49, .int .u32 a] w fun e w' => e = .returned (.tuple #[.int .u32 (unW 49 a : Nat), .int .i64 (unE 49 : Nat)]) ∧ w' = w := by
  have e1 : unW 49 a = (bits .xor .u32 IntKind.u32.max a).toNat := by simp [unW]
  have e2 : unE 49 = 0 := by decide
  rw [e1, e2]
  clear e1 e2
  have hx := bits_nat .xor IntKind.u32.max a
  generalize (bits .xor .u32 IntKind.u32.max a).toNat = t at *
  go_enter Tryz.func340, Tryz.ntmps340
  go_wp2
  go_ret2
  exact ⟨rfl, rfl⟩
set_option maxRecDepth 100000 in
set_option maxHeartbeats 1000000 in
theorem un53 (a : Nat) (w : World) : Calls Tryz.prog 340 #[.int .u8 53, .int .u32 a] w fun e w' => e = .returned (.tuple #[.int .u32 (unW 53 a : Nat), .int .i64 (unE 53 : Nat)]) ∧ w' = w := by
  have e1 : unW 53 a = turnF a := by simp [unW]
  have e2 : unE 53 = 0 := by decide
  rw [e1, e2]
  clear e1 e2
  have hw := fun x => w32_eq x
  have H := Lib.hid (fun W => turned_any a W)
  generalize turnF a = t at *
  go_enter Tryz.func340, Tryz.ntmps340
  go_wp2_with (go_at_call 413; refine (H.out _).mono ?_; rintro e w1 ⟨rfl, hw1⟩; subst hw1)
  go_ret2
  exact ⟨rfl, rfl⟩
set_option maxRecDepth 100000 in
set_option maxHeartbeats 1000000 in
theorem un58 (a : Nat) (w : World) : Calls Tryz.prog 340 #[.int .u8 58, .int .u32 a] w fun e w' => e = .returned (.tuple #[.int .u32 (unW 58 a : Nat), .int .i64 (unE 58 : Nat)]) ∧ w' = w := by
  have e1 : unW 58 a = wordF (floatOfInt .f32 (wrap32 a)) := by simp [unW]
  have e2 : unE 58 = 0 := by decide
  rw [e1, e2]
  clear e1 e2
  have hw := fun x => w32_eq x
  have H := Lib.hid (fun W => sof_any (wrap32 a) W)
  generalize wordF (floatOfInt .f32 (wrap32 a)) = t at *
  go_enter Tryz.func340, Tryz.ntmps340
  go_wp2_with (go_at_call 414; refine (H.out _).mono ?_; rintro e w1 ⟨rfl, hw1⟩; subst hw1)
  go_ret2
  exact ⟨rfl, rfl⟩
set_option maxRecDepth 100000 in
set_option maxHeartbeats 1000000 in
theorem un59 (a : Nat) (w : World) : Calls Tryz.prog 340 #[.int .u8 59, .int .u32 a] w fun e w' => e = .returned (.tuple #[.int .u32 (unW 59 a : Nat), .int .i64 (unE 59 : Nat)]) ∧ w' = w := by
  have e1 : unW 59 a = w32 (towardF a) := by simp [unW]
  have e2 : unE 59 = 0 := by decide
  rw [e1, e2]
  clear e1 e2
  have hw := fun x => w32_eq x
  have H := Lib.hid (fun W => toward_any a W)
  generalize towardF a = t at *
  go_enter Tryz.func340, Tryz.ntmps340
  go_wp2_with (go_at_call 415; refine (H.out _).mono ?_; rintro e w1 ⟨rfl, hw1⟩; subst hw1)
  go_ret2
  exact ⟨rfl, rfl⟩
set_option maxRecDepth 100000 in
set_option maxHeartbeats 1000000 in
theorem un_no (o a : Nat) (h : isUn o = false) (w : World) : Calls Tryz.prog 340 #[.int .u8 o, .int .u32 a] w fun e w' => e = .returned (.tuple #[.int .u32 (0 : Nat), .int .i64 (61 : Nat)]) ∧ w' = w := by
  simp only [isUn, Bool.or_eq_false_iff, beq_eq_false_iff_ne] at h
  have k36 : ((o : Int) == 36) = false := by simp; omega
  have k37 : ((o : Int) == 37) = false := by simp; omega
  have k38 : ((o : Int) == 38) = false := by simp; omega
  have k49 : ((o : Int) == 49) = false := by simp; omega
  have k53 : ((o : Int) == 53) = false := by simp; omega
  have k58 : ((o : Int) == 58) = false := by simp; omega
  have k59 : ((o : Int) == 59) = false := by simp; omega
  go_enter Tryz.func340, Tryz.ntmps340
  go_wp2
  go_ret2
  exact ⟨rfl, rfl⟩
theorem unary_any (o a : Nat) (w : World) : Calls Tryz.prog 340 #[.int .u8 o, .int .u32 a] w fun e w' => e = .returned (.tuple #[.int .u32 (unW o a : Nat), .int .i64 (unE o : Nat)]) ∧ w' = w := by
  cases h : isUn o with
  | true =>
    simp only [isUn, Bool.or_eq_true, beq_iff_eq] at h
    rcases h with (((((rfl | rfl) | rfl) | rfl) | rfl) | rfl) | rfl
    · exact un36 a w
    · exact un37 a w
    · exact un38 a w
    · exact un49 a w
    · exact un53 a w
    · exact un58 a w
    · exact un59 a w
  | false =>
    have e1 : unW o a = 0 := by
      simp only [isUn, Bool.or_eq_false_iff, beq_eq_false_iff_ne] at h
      unfold unW
      rw [if_neg (by omega), if_neg (by omega), if_neg (by omega), if_neg (by omega), if_neg (by omega), if_neg (by omega), if_neg (by omega)]
    have e2 : unE o = 61 := by unfold unE; rw [h]; rfl
    rw [e1, e2]
    exact un_no o a h w
end Go.Proofs.YtgpicmiaanapkaaGreat
/- What the comparisons say. -/
namespace Go.Proofs.YtgpicmiaanapkaaGreat
open Go.RowKit
theorem beq_int (a b : Nat) : ((a : Int) == (b : Int)) = (a == b) := by
  rw [Bool.eq_iff_iff, beq_iff_eq, beq_iff_eq]; omega
theorem bne_int (a b : Nat) : ((a : Int) != (b : Int)) = (a != b) := by unfold bne; rw [beq_int]
def floB (o s : Nat) : Bool :=
  if o = 23 then s == 3 else if o = 24 then s != 3 else if o = 25 then s == 2 else if o = 26 then s == 2 || s == 3 else if o = 27 then s == 4 else if o = 28 then s == 4 || s == 3 else false
set_option maxRecDepth 100000 in
set_option maxHeartbeats 1000000 in
theorem flo23 (s : Nat) (h : s = 1 ∨ s = 2 ∨ s = 3 ∨ s = 4) (w : World) : Calls Tryz.prog 416 #[.int .u8 23, .int .u8 s] w fun e w' => e = .returned (.tuple #[.bool (floB 23 s), .int .i64 0]) ∧ w' = w := by
  rcases h with rfl | rfl | rfl | rfl
  all_goals
    go_enter Tryz.func416, Tryz.ntmps416
    go_wp2
    go_ret2
    exact ⟨rfl, rfl⟩
set_option maxRecDepth 100000 in
set_option maxHeartbeats 1000000 in
theorem flo24 (s : Nat) (h : s = 1 ∨ s = 2 ∨ s = 3 ∨ s = 4) (w : World) : Calls Tryz.prog 416 #[.int .u8 24, .int .u8 s] w fun e w' => e = .returned (.tuple #[.bool (floB 24 s), .int .i64 0]) ∧ w' = w := by
  rcases h with rfl | rfl | rfl | rfl
  all_goals
    go_enter Tryz.func416, Tryz.ntmps416
    go_wp2
    go_ret2
    exact ⟨rfl, rfl⟩
set_option maxRecDepth 100000 in
set_option maxHeartbeats 1000000 in
theorem flo25 (s : Nat) (h : s = 1 ∨ s = 2 ∨ s = 3 ∨ s = 4) (w : World) : Calls Tryz.prog 416 #[.int .u8 25, .int .u8 s] w fun e w' => e = .returned (.tuple #[.bool (floB 25 s), .int .i64 0]) ∧ w' = w := by
  rcases h with rfl | rfl | rfl | rfl
  all_goals
    go_enter Tryz.func416, Tryz.ntmps416
    go_wp2
    go_ret2
    exact ⟨rfl, rfl⟩
set_option maxRecDepth 100000 in
set_option maxHeartbeats 1000000 in
theorem flo26 (s : Nat) (h : s = 1 ∨ s = 2 ∨ s = 3 ∨ s = 4) (w : World) : Calls Tryz.prog 416 #[.int .u8 26, .int .u8 s] w fun e w' => e = .returned (.tuple #[.bool (floB 26 s), .int .i64 0]) ∧ w' = w := by
  rcases h with rfl | rfl | rfl | rfl
  all_goals
    go_enter Tryz.func416, Tryz.ntmps416
    go_wp2
    go_ret2
    exact ⟨rfl, rfl⟩
set_option maxRecDepth 100000 in
set_option maxHeartbeats 1000000 in
theorem flo27 (s : Nat) (h : s = 1 ∨ s = 2 ∨ s = 3 ∨ s = 4) (w : World) : Calls Tryz.prog 416 #[.int .u8 27, .int .u8 s] w fun e w' => e = .returned (.tuple #[.bool (floB 27 s), .int .i64 0]) ∧ w' = w := by
  rcases h with rfl | rfl | rfl | rfl
  all_goals
    go_enter Tryz.func416, Tryz.ntmps416
    go_wp2
    go_ret2
    exact ⟨rfl, rfl⟩
set_option maxRecDepth 100000 in
set_option maxHeartbeats 1000000 in
theorem flo28 (s : Nat) (h : s = 1 ∨ s = 2 ∨ s = 3 ∨ s = 4) (w : World) : Calls Tryz.prog 416 #[.int .u8 28, .int .u8 s] w fun e w' => e = .returned (.tuple #[.bool (floB 28 s), .int .i64 0]) ∧ w' = w := by
  rcases h with rfl | rfl | rfl | rfl
  all_goals
    go_enter Tryz.func416, Tryz.ntmps416
    go_wp2
    go_ret2
    exact ⟨rfl, rfl⟩
def hoB (o a b : Nat) : Bool :=
  if o = 13 then a == b else if o = 14 then a != b else if o = 15 then decide (wrap32 a < wrap32 b) else if o = 16 then decide (wrap32 a ≤ wrap32 b) else if o = 17 then decide (wrap32 b < wrap32 a) else if o = 18 then decide (wrap32 b ≤ wrap32 a) else if o = 19 then decide (a < b) else if o = 20 then decide (a ≤ b) else if o = 21 then decide (b < a) else if o = 22 then decide (b ≤ a) else floB o (standF a b)
set_option maxRecDepth 100000 in
set_option maxHeartbeats 1000000 in
theorem ho13 (a b : Nat) (w : World) : Calls Tryz.prog 341 #[.int .u8 13, .int .u32 a, .int .u32 b] w fun e w' => e = .returned (.tuple #[.bool (hoB 13 a b), .int .i64 0]) ∧ w' = w := by
  have e1 : hoB 13 a b = (a == b) := by simp [hoB]
  rw [e1]
  clear e1
  have hq := beq_int a b
  go_enter Tryz.func341, Tryz.ntmps341
  go_wp2
  go_ret2
  exact ⟨rfl, rfl⟩
set_option maxRecDepth 100000 in
set_option maxHeartbeats 1000000 in
theorem ho14 (a b : Nat) (w : World) : Calls Tryz.prog 341 #[.int .u8 14, .int .u32 a, .int .u32 b] w fun e w' => e = .returned (.tuple #[.bool (hoB 14 a b), .int .i64 0]) ∧ w' = w := by
  have e1 : hoB 14 a b = (a != b) := by simp [hoB]
  rw [e1]
  clear e1
  have hq := bne_int a b
  go_enter Tryz.func341, Tryz.ntmps341
  go_wp2
  go_ret2
  exact ⟨rfl, rfl⟩
set_option maxRecDepth 100000 in
set_option maxHeartbeats 1000000 in
theorem ho15 (a b : Nat) (w : World) : Calls Tryz.prog 341 #[.int .u8 15, .int .u32 a, .int .u32 b] w fun e w' => e = .returned (.tuple #[.bool (hoB 15 a b), .int .i64 0]) ∧ w' = w := by
  have e1 : hoB 15 a b = (decide (wrap32 a < wrap32 b)) := by simp [hoB]
  rw [e1]
  clear e1
  go_enter Tryz.func341, Tryz.ntmps341
  go_wp2
  go_ret2
  exact ⟨rfl, rfl⟩
set_option maxRecDepth 100000 in
set_option maxHeartbeats 1000000 in
theorem ho16 (a b : Nat) (w : World) : Calls Tryz.prog 341 #[.int .u8 16, .int .u32 a, .int .u32 b] w fun e w' => e = .returned (.tuple #[.bool (hoB 16 a b), .int .i64 0]) ∧ w' = w := by
  have e1 : hoB 16 a b = (decide (wrap32 a ≤ wrap32 b)) := by simp [hoB]
  rw [e1]
  clear e1
  go_enter Tryz.func341, Tryz.ntmps341
  go_wp2
  go_ret2
  exact ⟨rfl, rfl⟩
set_option maxRecDepth 100000 in
set_option maxHeartbeats 1000000 in
theorem ho17 (a b : Nat) (w : World) : Calls Tryz.prog 341 #[.int .u8 17, .int .u32 a, .int .u32 b] w fun e w' => e = .returned (.tuple #[.bool (hoB 17 a b), .int .i64 0]) ∧ w' = w := by
  have e1 : hoB 17 a b = (decide (wrap32 b < wrap32 a)) := by simp [hoB]
  rw [e1]
  clear e1
  go_enter Tryz.func341, Tryz.ntmps341
  go_wp2
  go_ret2
  exact ⟨rfl, rfl⟩
set_option maxRecDepth 100000 in
set_option maxHeartbeats 1000000 in
theorem ho18 (a b : Nat) (w : World) : Calls Tryz.prog 341 #[.int .u8 18, .int .u32 a, .int .u32 b] w fun e w' => e = .returned (.tuple #[.bool (hoB 18 a b), .int .i64 0]) ∧ w' = w := by
  have e1 : hoB 18 a b = (decide (wrap32 b ≤ wrap32 a)) := by simp [hoB]
  rw [e1]
  clear e1
  go_enter Tryz.func341, Tryz.ntmps341
  go_wp2
  go_ret2
  exact ⟨rfl, rfl⟩
set_option maxRecDepth 100000 in
set_option maxHeartbeats 1000000 in
theorem ho19 (a b : Nat) (w : World) : Calls Tryz.prog 341 #[.int .u8 19, .int .u32 a, .int .u32 b] w fun e w' => e = .returned (.tuple #[.bool (hoB 19 a b), .int .i64 0]) ∧ w' = w := by
  have e1 : hoB 19 a b = (decide (a < b)) := by simp [hoB]
  rw [e1]
  clear e1
  go_enter Tryz.func341, Tryz.ntmps341
  go_wp2
  go_ret2
  exact ⟨by simp, rfl⟩
set_option maxRecDepth 100000 in
set_option maxHeartbeats 1000000 in
theorem ho20 (a b : Nat) (w : World) : Calls Tryz.prog 341 #[.int .u8 20, .int .u32 a, .int .u32 b] w fun e w' => e = .returned (.tuple #[.bool (hoB 20 a b), .int .i64 0]) ∧ w' = w := by
  have e1 : hoB 20 a b = (decide (a ≤ b)) := by simp [hoB]
  rw [e1]
  clear e1
  go_enter Tryz.func341, Tryz.ntmps341
  go_wp2
  go_ret2
  exact ⟨by simp, rfl⟩
set_option maxRecDepth 100000 in
set_option maxHeartbeats 1000000 in
theorem ho21 (a b : Nat) (w : World) : Calls Tryz.prog 341 #[.int .u8 21, .int .u32 a, .int .u32 b] w fun e w' => e = .returned (.tuple #[.bool (hoB 21 a b), .int .i64 0]) ∧ w' = w := by
  have e1 : hoB 21 a b = (decide (b < a)) := by simp [hoB]
  rw [e1]
  clear e1
  go_enter Tryz.func341, Tryz.ntmps341
  go_wp2
  go_ret2
  exact ⟨by simp, rfl⟩
set_option maxRecDepth 100000 in
set_option maxHeartbeats 1000000 in
theorem ho22 (a b : Nat) (w : World) : Calls Tryz.prog 341 #[.int .u8 22, .int .u32 a, .int .u32 b] w fun e w' => e = .returned (.tuple #[.bool (hoB 22 a b), .int .i64 0]) ∧ w' = w := by
  have e1 : hoB 22 a b = (decide (b ≤ a)) := by simp [hoB]
  rw [e1]
  clear e1
  go_enter Tryz.func341, Tryz.ntmps341
  go_wp2
  go_ret2
  exact ⟨by simp, rfl⟩
set_option maxRecDepth 100000 in
set_option maxHeartbeats 1000000 in
theorem ho23 (a b : Nat) (w : World) : Calls Tryz.prog 341 #[.int .u8 23, .int .u32 a, .int .u32 b] w fun e w' => e = .returned (.tuple #[.bool (hoB 23 a b), .int .i64 0]) ∧ w' = w := by
  have e1 : hoB 23 a b = floB 23 (standF a b) := by simp [hoB]
  have hs : standF a b = 1 ∨ standF a b = 2 ∨ standF a b = 3 ∨ standF a b = 4 := by unfold standF; split <;> (try split) <;> (try split) <;> simp
  have H := Lib.hid (fun W => stand_any a b W)
  have H2 := Lib.hid (fun W => flo23 _ hs W)
  rw [e1]
  clear e1 hs
  generalize standF a b = s at *
  generalize floB 23 s = t at *
  go_enter Tryz.func341, Tryz.ntmps341
  go_wp2_with (first | (go_at_call 417; refine (H.out _).mono ?_; rintro e w1 ⟨rfl, hw1⟩; subst hw1) | (go_at_call 416; refine (H2.out _).mono ?_; rintro e w1 ⟨rfl, hw1⟩; subst hw1))
  go_ret2
  exact ⟨rfl, rfl⟩
set_option maxRecDepth 100000 in
set_option maxHeartbeats 1000000 in
theorem ho24 (a b : Nat) (w : World) : Calls Tryz.prog 341 #[.int .u8 24, .int .u32 a, .int .u32 b] w fun e w' => e = .returned (.tuple #[.bool (hoB 24 a b), .int .i64 0]) ∧ w' = w := by
  have e1 : hoB 24 a b = floB 24 (standF a b) := by simp [hoB]
  have hs : standF a b = 1 ∨ standF a b = 2 ∨ standF a b = 3 ∨ standF a b = 4 := by unfold standF; split <;> (try split) <;> (try split) <;> simp
  have H := Lib.hid (fun W => stand_any a b W)
  have H2 := Lib.hid (fun W => flo24 _ hs W)
  rw [e1]
  clear e1 hs
  generalize standF a b = s at *
  generalize floB 24 s = t at *
  go_enter Tryz.func341, Tryz.ntmps341
  go_wp2_with (first | (go_at_call 417; refine (H.out _).mono ?_; rintro e w1 ⟨rfl, hw1⟩; subst hw1) | (go_at_call 416; refine (H2.out _).mono ?_; rintro e w1 ⟨rfl, hw1⟩; subst hw1))
  go_ret2
  exact ⟨rfl, rfl⟩
set_option maxRecDepth 100000 in
set_option maxHeartbeats 1000000 in
theorem ho25 (a b : Nat) (w : World) : Calls Tryz.prog 341 #[.int .u8 25, .int .u32 a, .int .u32 b] w fun e w' => e = .returned (.tuple #[.bool (hoB 25 a b), .int .i64 0]) ∧ w' = w := by
  have e1 : hoB 25 a b = floB 25 (standF a b) := by simp [hoB]
  have hs : standF a b = 1 ∨ standF a b = 2 ∨ standF a b = 3 ∨ standF a b = 4 := by unfold standF; split <;> (try split) <;> (try split) <;> simp
  have H := Lib.hid (fun W => stand_any a b W)
  have H2 := Lib.hid (fun W => flo25 _ hs W)
  rw [e1]
  clear e1 hs
  generalize standF a b = s at *
  generalize floB 25 s = t at *
  go_enter Tryz.func341, Tryz.ntmps341
  go_wp2_with (first | (go_at_call 417; refine (H.out _).mono ?_; rintro e w1 ⟨rfl, hw1⟩; subst hw1) | (go_at_call 416; refine (H2.out _).mono ?_; rintro e w1 ⟨rfl, hw1⟩; subst hw1))
  go_ret2
  exact ⟨rfl, rfl⟩
set_option maxRecDepth 100000 in
set_option maxHeartbeats 1000000 in
theorem ho26 (a b : Nat) (w : World) : Calls Tryz.prog 341 #[.int .u8 26, .int .u32 a, .int .u32 b] w fun e w' => e = .returned (.tuple #[.bool (hoB 26 a b), .int .i64 0]) ∧ w' = w := by
  have e1 : hoB 26 a b = floB 26 (standF a b) := by simp [hoB]
  have hs : standF a b = 1 ∨ standF a b = 2 ∨ standF a b = 3 ∨ standF a b = 4 := by unfold standF; split <;> (try split) <;> (try split) <;> simp
  have H := Lib.hid (fun W => stand_any a b W)
  have H2 := Lib.hid (fun W => flo26 _ hs W)
  rw [e1]
  clear e1 hs
  generalize standF a b = s at *
  generalize floB 26 s = t at *
  go_enter Tryz.func341, Tryz.ntmps341
  go_wp2_with (first | (go_at_call 417; refine (H.out _).mono ?_; rintro e w1 ⟨rfl, hw1⟩; subst hw1) | (go_at_call 416; refine (H2.out _).mono ?_; rintro e w1 ⟨rfl, hw1⟩; subst hw1))
  go_ret2
  exact ⟨rfl, rfl⟩
set_option maxRecDepth 100000 in
set_option maxHeartbeats 1000000 in
theorem ho27 (a b : Nat) (w : World) : Calls Tryz.prog 341 #[.int .u8 27, .int .u32 a, .int .u32 b] w fun e w' => e = .returned (.tuple #[.bool (hoB 27 a b), .int .i64 0]) ∧ w' = w := by
  have e1 : hoB 27 a b = floB 27 (standF a b) := by simp [hoB]
  have hs : standF a b = 1 ∨ standF a b = 2 ∨ standF a b = 3 ∨ standF a b = 4 := by unfold standF; split <;> (try split) <;> (try split) <;> simp
  have H := Lib.hid (fun W => stand_any a b W)
  have H2 := Lib.hid (fun W => flo27 _ hs W)
  rw [e1]
  clear e1 hs
  generalize standF a b = s at *
  generalize floB 27 s = t at *
  go_enter Tryz.func341, Tryz.ntmps341
  go_wp2_with (first | (go_at_call 417; refine (H.out _).mono ?_; rintro e w1 ⟨rfl, hw1⟩; subst hw1) | (go_at_call 416; refine (H2.out _).mono ?_; rintro e w1 ⟨rfl, hw1⟩; subst hw1))
  go_ret2
  exact ⟨rfl, rfl⟩
set_option maxRecDepth 100000 in
set_option maxHeartbeats 1000000 in
theorem ho28 (a b : Nat) (w : World) : Calls Tryz.prog 341 #[.int .u8 28, .int .u32 a, .int .u32 b] w fun e w' => e = .returned (.tuple #[.bool (hoB 28 a b), .int .i64 0]) ∧ w' = w := by
  have e1 : hoB 28 a b = floB 28 (standF a b) := by simp [hoB]
  have hs : standF a b = 1 ∨ standF a b = 2 ∨ standF a b = 3 ∨ standF a b = 4 := by unfold standF; split <;> (try split) <;> (try split) <;> simp
  have H := Lib.hid (fun W => stand_any a b W)
  have H2 := Lib.hid (fun W => flo28 _ hs W)
  rw [e1]
  clear e1 hs
  generalize standF a b = s at *
  generalize floB 28 s = t at *
  go_enter Tryz.func341, Tryz.ntmps341
  go_wp2_with (first | (go_at_call 417; refine (H.out _).mono ?_; rintro e w1 ⟨rfl, hw1⟩; subst hw1) | (go_at_call 416; refine (H2.out _).mono ?_; rintro e w1 ⟨rfl, hw1⟩; subst hw1))
  go_ret2
  exact ⟨rfl, rfl⟩
theorem holds_any (o a b : Nat) (h1 : 13 ≤ o) (h2 : o ≤ 28) (w : World) : Calls Tryz.prog 341 #[.int .u8 o, .int .u32 a, .int .u32 b] w fun e w' => e = .returned (.tuple #[.bool (hoB o a b), .int .i64 0]) ∧ w' = w := by
  have : o = 13 ∨ o = 14 ∨ o = 15 ∨ o = 16 ∨ o = 17 ∨ o = 18 ∨ o = 19 ∨ o = 20 ∨ o = 21 ∨ o = 22 ∨ o = 23 ∨ o = 24 ∨ o = 25 ∨ o = 26 ∨ o = 27 ∨ o = 28 := by omega
  rcases this with rfl | rfl | rfl | rfl | rfl | rfl | rfl | rfl | rfl | rfl | rfl | rfl | rfl | rfl | rfl | rfl
  · exact ho13 a b w
  · exact ho14 a b w
  · exact ho15 a b w
  · exact ho16 a b w
  · exact ho17 a b w
  · exact ho18 a b w
  · exact ho19 a b w
  · exact ho20 a b w
  · exact ho21 a b w
  · exact ho22 a b w
  · exact ho23 a b w
  · exact ho24 a b w
  · exact ho25 a b w
  · exact ho26 a b w
  · exact ho27 a b w
  · exact ho28 a b w
end Go.Proofs.YtgpicmiaanapkaaGreat
/- What the binary operations do. -/
namespace Go.Proofs.YtgpicmiaanapkaaGreat
open Go.RowKit
def isDiv (o : Nat) : Bool := o == 42 || o == 43 || o == 44 || o == 45
def isBi (o : Nat) : Bool := o == 39 || o == 40 || o == 41 || o == 46 || o == 47 || o == 48 || o == 50 || o == 52 || o == 51 || o == 54 || o == 55 || o == 56 || o == 57
def biW (o a b : Nat) : Nat :=
  if o = 39 then w32 (a + b) else if o = 40 then w32 (a - b) else if o = 41 then w32 (a * b) else if o = 42 then w32 (wrap32 ((wrap32 a).tdiv (wrap32 b))) else if o = 44 then w32 ((wrap32 a).tmod (wrap32 b)) else if o = 43 then w32 ((a : Int) / b) else if o = 45 then a % b else if o = 46 then (bits .and .u32 a b).toNat else if o = 47 then (bits .or .u32 a b).toNat else if o = 48 then (bits .xor .u32 a b).toNat else if o = 50 then w32 (a * 2 ^ (b % 32)) else if o = 52 then a / 2 ^ (b % 32) else if o = 51 then w32 (wrap32 a / 2 ^ (b % 32)) else if o = 54 then arithF .add a b else if o = 55 then arithF .sub a b else if o = 56 then arithF .mul a b else if o = 57 then arithF .quo a b else 0
set_option maxRecDepth 100000 in
set_option maxHeartbeats 1000000 in
theorem bi39 (a b : Nat) (w : World) : Calls Tryz.prog 419 #[.int .u8 39, .int .u32 a, .int .u32 b] w fun e w' => e = .returned (.tuple #[.int .u32 (biW 39 a b : Nat), .int .i64 0]) ∧ Below w.heap.size w w' := by
  have e1 : biW 39 a b = w32 (a + b) := by simp [biW]
  rw [e1]
  clear e1
  have hw := fun x => w32_eq x
  go_enter Tryz.func419, Tryz.ntmps419
  go_wp2
  go_ret2
  exact ⟨rfl, Below.refl _ _⟩
set_option maxRecDepth 100000 in
set_option maxHeartbeats 1000000 in
theorem bi40 (a b : Nat) (w : World) : Calls Tryz.prog 419 #[.int .u8 40, .int .u32 a, .int .u32 b] w fun e w' => e = .returned (.tuple #[.int .u32 (biW 40 a b : Nat), .int .i64 0]) ∧ Below w.heap.size w w' := by
  have e1 : biW 40 a b = w32 (a - b) := by simp [biW]
  rw [e1]
  clear e1
  have hw := fun x => w32_eq x
  go_enter Tryz.func419, Tryz.ntmps419
  go_wp2
  go_ret2
  exact ⟨rfl, Below.refl _ _⟩
set_option maxRecDepth 100000 in
set_option maxHeartbeats 1000000 in
theorem bi41 (a b : Nat) (w : World) : Calls Tryz.prog 419 #[.int .u8 41, .int .u32 a, .int .u32 b] w fun e w' => e = .returned (.tuple #[.int .u32 (biW 41 a b : Nat), .int .i64 0]) ∧ Below w.heap.size w w' := by
  have e1 : biW 41 a b = w32 (a * b) := by simp [biW]
  rw [e1]
  clear e1
  have hw := fun x => w32_eq x
  go_enter Tryz.func419, Tryz.ntmps419
  go_wp2
  go_ret2
  exact ⟨rfl, Below.refl _ _⟩
set_option maxRecDepth 100000 in
set_option maxHeartbeats 1000000 in
theorem bi42 (a b : Nat) (hb : b < 4294967296) (hb0 : b ≠ 0) (w : World) : Calls Tryz.prog 419 #[.int .u8 42, .int .u32 a, .int .u32 b] w fun e w' => e = .returned (.tuple #[.int .u32 (biW 42 a b : Nat), .int .i64 0]) ∧ Below w.heap.size w w' := by
  have e1 : biW 42 a b = w32 (wrap32 ((wrap32 a).tdiv (wrap32 b))) := by simp [biW]
  rw [e1]
  clear e1
  have hw := fun x => w32_eq x
  have hz : ¬ wrap32 (b : Int) = 0 := by unfold wrap32; omega
  go_enter Tryz.func419, Tryz.ntmps419
  go_wp2
  go_ret2
  exact ⟨rfl, Below.refl _ _⟩
set_option maxRecDepth 100000 in
set_option maxHeartbeats 1000000 in
theorem bi44 (a b : Nat) (hb : b < 4294967296) (hb0 : b ≠ 0) (w : World) : Calls Tryz.prog 419 #[.int .u8 44, .int .u32 a, .int .u32 b] w fun e w' => e = .returned (.tuple #[.int .u32 (biW 44 a b : Nat), .int .i64 0]) ∧ Below w.heap.size w w' := by
  have e1 : biW 44 a b = w32 ((wrap32 a).tmod (wrap32 b)) := by simp [biW]
  rw [e1]
  clear e1
  have hw := fun x => w32_eq x
  have hz : ¬ wrap32 (b : Int) = 0 := by unfold wrap32; omega
  go_enter Tryz.func419, Tryz.ntmps419
  go_wp2
  go_ret2
  exact ⟨rfl, Below.refl _ _⟩
set_option maxRecDepth 100000 in
set_option maxHeartbeats 1000000 in
theorem bi43 (a b : Nat) (_hb : b < 4294967296) (hb0 : b ≠ 0) (w : World) : Calls Tryz.prog 419 #[.int .u8 43, .int .u32 a, .int .u32 b] w fun e w' => e = .returned (.tuple #[.int .u32 (biW 43 a b : Nat), .int .i64 0]) ∧ Below w.heap.size w w' := by
  have e1 : biW 43 a b = w32 ((a : Int) / b) := by simp [biW]
  rw [e1]
  clear e1
  have hw := fun x => w32_eq x
  have hz : ¬ (b : Int) = 0 := by omega
  go_enter Tryz.func419, Tryz.ntmps419
  go_wp2
  go_ret2
  exact ⟨rfl, Below.refl _ _⟩
set_option maxRecDepth 100000 in
set_option maxHeartbeats 1000000 in
theorem bi45 (a b : Nat) (_hb : b < 4294967296) (hb0 : b ≠ 0) (w : World) : Calls Tryz.prog 419 #[.int .u8 45, .int .u32 a, .int .u32 b] w fun e w' => e = .returned (.tuple #[.int .u32 (biW 45 a b : Nat), .int .i64 0]) ∧ Below w.heap.size w w' := by
  have e1 : biW 45 a b = a % b := by simp [biW]
  rw [e1]
  clear e1
  have hw := fun x => w32_eq x
  have hz : ¬ (b : Int) = 0 := by omega
  go_enter Tryz.func419, Tryz.ntmps419
  go_wp2
  go_ret2
  exact ⟨by simp, Below.refl _ _⟩
set_option maxRecDepth 100000 in
set_option maxHeartbeats 1000000 in
theorem bi46 (a b : Nat) (w : World) : Calls Tryz.prog 419 #[.int .u8 46, .int .u32 a, .int .u32 b] w fun e w' => e = .returned (.tuple #[.int .u32 (biW 46 a b : Nat), .int .i64 0]) ∧ Below w.heap.size w w' := by
  have e1 : biW 46 a b = (bits .and .u32 a b).toNat := by simp [biW]
  rw [e1]
  clear e1
  have hx := bits_nat .and a b
  generalize (bits .and .u32 a b).toNat = t at *
  go_enter Tryz.func419, Tryz.ntmps419
  go_wp2
  go_ret2
  exact ⟨rfl, Below.refl _ _⟩
set_option maxRecDepth 100000 in
set_option maxHeartbeats 1000000 in
theorem bi47 (a b : Nat) (w : World) : Calls Tryz.prog 419 #[.int .u8 47, .int .u32 a, .int .u32 b] w fun e w' => e = .returned (.tuple #[.int .u32 (biW 47 a b : Nat), .int .i64 0]) ∧ Below w.heap.size w w' := by
  have e1 : biW 47 a b = (bits .or .u32 a b).toNat := by simp [biW]
  rw [e1]
  clear e1
  have hx := bits_nat .or a b
  generalize (bits .or .u32 a b).toNat = t at *
  go_enter Tryz.func419, Tryz.ntmps419
  go_wp2
  go_ret2
  exact ⟨rfl, Below.refl _ _⟩
set_option maxRecDepth 100000 in
set_option maxHeartbeats 1000000 in
theorem bi48 (a b : Nat) (w : World) : Calls Tryz.prog 419 #[.int .u8 48, .int .u32 a, .int .u32 b] w fun e w' => e = .returned (.tuple #[.int .u32 (biW 48 a b : Nat), .int .i64 0]) ∧ Below w.heap.size w w' := by
  have e1 : biW 48 a b = (bits .xor .u32 a b).toNat := by simp [biW]
  rw [e1]
  clear e1
  have hx := bits_nat .xor a b
  generalize (bits .xor .u32 a b).toNat = t at *
  go_enter Tryz.func419, Tryz.ntmps419
  go_wp2
  go_ret2
  exact ⟨rfl, Below.refl _ _⟩
set_option maxRecDepth 100000 in
set_option maxHeartbeats 1000000 in
theorem bi50 (a b : Nat) (w : World) : Calls Tryz.prog 419 #[.int .u8 50, .int .u32 a, .int .u32 b] w fun e w' => e = .returned (.tuple #[.int .u32 (biW 50 a b : Nat), .int .i64 0]) ∧ Below w.heap.size w w' := by
  have e1 : biW 50 a b = w32 (a * 2 ^ (b % 32)) := by simp [biW]
  rw [e1]
  clear e1
  have hw := fun x => w32_eq x
  go_enter Tryz.func419, Tryz.ntmps419
  go_wp2
  go_ret2
  exact ⟨rfl, Below.refl _ _⟩
set_option maxRecDepth 100000 in
set_option maxHeartbeats 1000000 in
theorem bi52 (a b : Nat) (w : World) : Calls Tryz.prog 419 #[.int .u8 52, .int .u32 a, .int .u32 b] w fun e w' => e = .returned (.tuple #[.int .u32 (biW 52 a b : Nat), .int .i64 0]) ∧ Below w.heap.size w w' := by
  have e1 : biW 52 a b = a / 2 ^ (b % 32) := by simp [biW]
  rw [e1]
  clear e1
  have hw := fun x => w32_eq x
  go_enter Tryz.func419, Tryz.ntmps419
  go_wp2
  go_ret2
  exact ⟨by simp, Below.refl _ _⟩
set_option maxRecDepth 100000 in
set_option maxHeartbeats 1000000 in
theorem bi51 (a b : Nat) (w : World) : Calls Tryz.prog 419 #[.int .u8 51, .int .u32 a, .int .u32 b] w fun e w' => e = .returned (.tuple #[.int .u32 (biW 51 a b : Nat), .int .i64 0]) ∧ Below w.heap.size w w' := by
  have e1 : biW 51 a b = w32 (wrap32 a / 2 ^ (b % 32)) := by simp [biW]
  rw [e1]
  clear e1
  have hw := fun x => w32_eq x
  go_enter Tryz.func419, Tryz.ntmps419
  go_wp2
  go_ret2
  exact ⟨rfl, Below.refl _ _⟩
set_option maxRecDepth 100000 in
set_option maxHeartbeats 1000000 in
theorem bi54 (a b : Nat) (w : World) : Calls Tryz.prog 419 #[.int .u8 54, .int .u32 a, .int .u32 b] w fun e w' => e = .returned (.tuple #[.int .u32 (biW 54 a b : Nat), .int .i64 0]) ∧ Below w.heap.size w w' := by
  have e1 : biW 54 a b = arithF .add a b := by simp [biW]
  rw [e1]
  clear e1
  have H := Lib.hid (fun W => sum_any a b W)
  generalize arithF .add a b = t at *
  go_enter Tryz.func419, Tryz.ntmps419
  go_wp2_with (go_at_call 476; refine (H.out _).mono ?_; rintro e w1 ⟨rfl, hb1⟩)
  go_ret2
  exact ⟨rfl, hb1⟩
set_option maxRecDepth 100000 in
set_option maxHeartbeats 1000000 in
theorem bi55 (a b : Nat) (w : World) : Calls Tryz.prog 419 #[.int .u8 55, .int .u32 a, .int .u32 b] w fun e w' => e = .returned (.tuple #[.int .u32 (biW 55 a b : Nat), .int .i64 0]) ∧ Below w.heap.size w w' := by
  have e1 : biW 55 a b = arithF .sub a b := by simp [biW]
  rw [e1]
  clear e1
  have H := Lib.hid (fun W => rest_any a b W)
  generalize arithF .sub a b = t at *
  go_enter Tryz.func419, Tryz.ntmps419
  go_wp2_with (go_at_call 477; refine (H.out _).mono ?_; rintro e w1 ⟨rfl, hb1⟩)
  go_ret2
  exact ⟨rfl, hb1⟩
set_option maxRecDepth 100000 in
set_option maxHeartbeats 1000000 in
theorem bi56 (a b : Nat) (w : World) : Calls Tryz.prog 419 #[.int .u8 56, .int .u32 a, .int .u32 b] w fun e w' => e = .returned (.tuple #[.int .u32 (biW 56 a b : Nat), .int .i64 0]) ∧ Below w.heap.size w w' := by
  have e1 : biW 56 a b = arithF .mul a b := by simp [biW]
  rw [e1]
  clear e1
  have H := Lib.hid (fun W => product_any a b W)
  generalize arithF .mul a b = t at *
  go_enter Tryz.func419, Tryz.ntmps419
  go_wp2_with (go_at_call 478; refine (H.out _).mono ?_; rintro e w1 ⟨rfl, hb1⟩)
  go_ret2
  exact ⟨rfl, hb1⟩
set_option maxRecDepth 100000 in
set_option maxHeartbeats 1000000 in
theorem bi57 (a b : Nat) (w : World) : Calls Tryz.prog 419 #[.int .u8 57, .int .u32 a, .int .u32 b] w fun e w' => e = .returned (.tuple #[.int .u32 (biW 57 a b : Nat), .int .i64 0]) ∧ Below w.heap.size w w' := by
  have e1 : biW 57 a b = arithF .quo a b := by simp [biW]
  rw [e1]
  clear e1
  have H := Lib.hid (fun W => ratio_any a b W)
  generalize arithF .quo a b = t at *
  go_enter Tryz.func419, Tryz.ntmps419
  go_wp2_with (go_at_call 479; refine (H.out _).mono ?_; rintro e w1 ⟨rfl, hb1⟩)
  go_ret2
  exact ⟨rfl, hb1⟩
set_option maxRecDepth 100000 in
set_option maxHeartbeats 1000000 in
theorem bi42_no (a : Nat) (w : World) : Calls Tryz.prog 419 #[.int .u8 42, .int .u32 a, .int .u32 (0 : Nat)] w fun e w' => (∃ u pv, e = .panicked [{ v := .iface u pv, recovered := false }]) ∧ Below w.heap.size w w' := by
  have hz : wrap32 ((0 : Nat) : Int) = 0 := by unfold wrap32; decide
  go_enter Tryz.func419, Tryz.ntmps419
  go_wp2
  exact ⟨rfl, ⟨_, _, rfl⟩, Below.refl _ _⟩
set_option maxRecDepth 100000 in
set_option maxHeartbeats 1000000 in
theorem bi44_no (a : Nat) (w : World) : Calls Tryz.prog 419 #[.int .u8 44, .int .u32 a, .int .u32 (0 : Nat)] w fun e w' => (∃ u pv, e = .panicked [{ v := .iface u pv, recovered := false }]) ∧ Below w.heap.size w w' := by
  have hz : wrap32 ((0 : Nat) : Int) = 0 := by unfold wrap32; decide
  go_enter Tryz.func419, Tryz.ntmps419
  go_wp2
  exact ⟨rfl, ⟨_, _, rfl⟩, Below.refl _ _⟩
set_option maxRecDepth 100000 in
set_option maxHeartbeats 1000000 in
theorem bi43_no (a : Nat) (w : World) : Calls Tryz.prog 419 #[.int .u8 43, .int .u32 a, .int .u32 (0 : Nat)] w fun e w' => (∃ u pv, e = .panicked [{ v := .iface u pv, recovered := false }]) ∧ Below w.heap.size w w' := by
  have hz : wrap32 ((0 : Nat) : Int) = 0 := by unfold wrap32; decide
  go_enter Tryz.func419, Tryz.ntmps419
  go_wp2
  exact ⟨rfl, ⟨_, _, rfl⟩, Below.refl _ _⟩
set_option maxRecDepth 100000 in
set_option maxHeartbeats 1000000 in
theorem bi45_no (a : Nat) (w : World) : Calls Tryz.prog 419 #[.int .u8 45, .int .u32 a, .int .u32 (0 : Nat)] w fun e w' => (∃ u pv, e = .panicked [{ v := .iface u pv, recovered := false }]) ∧ Below w.heap.size w w' := by
  have hz : wrap32 ((0 : Nat) : Int) = 0 := by unfold wrap32; decide
  go_enter Tryz.func419, Tryz.ntmps419
  go_wp2
  exact ⟨rfl, ⟨_, _, rfl⟩, Below.refl _ _⟩
set_option maxRecDepth 100000 in
set_option maxHeartbeats 1000000 in
theorem bi_un (o a b : Nat) (h : isBi o = false) (h2 : isDiv o = false) (w : World) : Calls Tryz.prog 419 #[.int .u8 o, .int .u32 a, .int .u32 b] w fun e w' => e = .returned (.tuple #[.int .u32 (0 : Nat), .int .i64 61]) ∧ Below w.heap.size w w' := by
  simp only [isBi, isDiv, Bool.or_eq_false_iff, beq_eq_false_iff_ne] at h h2
  have k39 : ((o : Int) == 39) = false := by simp; omega
  have k40 : ((o : Int) == 40) = false := by simp; omega
  have k41 : ((o : Int) == 41) = false := by simp; omega
  have k42 : ((o : Int) == 42) = false := by simp; omega
  have k44 : ((o : Int) == 44) = false := by simp; omega
  have k43 : ((o : Int) == 43) = false := by simp; omega
  have k45 : ((o : Int) == 45) = false := by simp; omega
  have k46 : ((o : Int) == 46) = false := by simp; omega
  have k47 : ((o : Int) == 47) = false := by simp; omega
  have k48 : ((o : Int) == 48) = false := by simp; omega
  have k50 : ((o : Int) == 50) = false := by simp; omega
  have k52 : ((o : Int) == 52) = false := by simp; omega
  have k51 : ((o : Int) == 51) = false := by simp; omega
  have k54 : ((o : Int) == 54) = false := by simp; omega
  have k55 : ((o : Int) == 55) = false := by simp; omega
  have k56 : ((o : Int) == 56) = false := by simp; omega
  have k57 : ((o : Int) == 57) = false := by simp; omega
  go_enter Tryz.func419, Tryz.ntmps419
  go_wp2
  go_ret2
  exact ⟨rfl, Below.refl _ _⟩
/-- What Binary answers: the word, the error. -/
def biR (o a b : Nat) : Nat × Nat := if isBi o then (biW o a b, 0) else if isDiv o then (if b = 0 then (0, 60) else (biW o a b, 0)) else (0, 61)
theorem bi_yes (o a b : Nat) (hb : b < 4294967296) (h : ¬ (isDiv o = true ∧ b = 0)) (w : World) : Calls Tryz.prog 419 #[.int .u8 o, .int .u32 a, .int .u32 b] w fun e w' => e = .returned (.tuple #[.int .u32 (biR o a b).1, .int .i64 (biR o a b).2]) ∧ Below w.heap.size w w' := by
  cases h1 : isBi o with
  | true =>
    rw [show biR o a b = (biW o a b, 0) from by unfold biR; rw [h1]; rfl]
    simp only [isBi, Bool.or_eq_true, beq_iff_eq] at h1
    rcases h1 with (((((((((((rfl | rfl) | rfl) | rfl) | rfl) | rfl) | rfl) | rfl) | rfl) | rfl) | rfl) | rfl) | rfl
    · exact bi39 a b w
    · exact bi40 a b w
    · exact bi41 a b w
    · exact bi46 a b w
    · exact bi47 a b w
    · exact bi48 a b w
    · exact bi50 a b w
    · exact bi52 a b w
    · exact bi51 a b w
    · exact bi54 a b w
    · exact bi55 a b w
    · exact bi56 a b w
    · exact bi57 a b w
  | false =>
    cases h2 : isDiv o with
    | true =>
      have hb0 : b ≠ 0 := fun e => h ⟨h2, e⟩
      rw [show biR o a b = (biW o a b, 0) from by unfold biR; rw [h1, h2]; simp [hb0]]
      simp only [isDiv, Bool.or_eq_true, beq_iff_eq] at h2
      rcases h2 with ((rfl | rfl) | rfl) | rfl
      · exact bi42 a b hb hb0 w
      · exact bi43 a b hb hb0 w
      · exact bi44 a b hb hb0 w
      · exact bi45 a b hb hb0 w
    | false =>
      rw [show biR o a b = (0, 61) from by unfold biR; rw [h1, h2]; rfl]
      exact bi_un o a b h1 h2 w
theorem bi_no (o a : Nat) (h : isDiv o = true) (w : World) : Calls Tryz.prog 419 #[.int .u8 o, .int .u32 a, .int .u32 (0 : Nat)] w fun e w' => (∃ u pv, e = .panicked [{ v := .iface u pv, recovered := false }]) ∧ Below w.heap.size w w' := by
  simp only [isDiv, Bool.or_eq_true, beq_iff_eq] at h
  rcases h with ((rfl | rfl) | rfl) | rfl
  · exact bi42_no a w
  · exact bi43_no a w
  · exact bi44_no a w
  · exact bi45_no a w
end Go.Proofs.YtgpicmiaanapkaaGreat
/- Binary: a division by nought is met by its deferred closure. -/
namespace Go.Proofs.YtgpicmiaanapkaaGreat
open Go.RowKit
theorem catch_panicking (b c : Nat) (hpq : b ≠ c) (u : TypeId) (pv : Value) (older : List PanicEntry) (w : World) (hc : w.cell? ⟨b, 0, none⟩ = some (.int .u32 0)) (hz : w.frozen? ⟨b, 0, none⟩ = false) (hc2 : w.cell? ⟨c, 0, none⟩ = some (.int .i64 0)) (hz2 : w.frozen? ⟨c, 0, none⟩ = false) :
    CallsD Tryz.prog 418 #[.pointer (some ⟨b, 0, none⟩), .pointer (some ⟨c, 0, none⟩)] (.panicking ({ v := .iface u pv, recovered := false } :: older)) w fun e u' w' =>
      e = .returned (.tuple #[]) ∧ u' = .panicking ({ v := .iface u pv, recovered := true } :: older) ∧ w' = (w.setCell ⟨b, 0, none⟩ (.int .u32 0)).setCell ⟨c, 0, none⟩ (.int .i64 60) := by
  have hq : (w.setCell ⟨b, 0, none⟩ (.int .u32 0)).cell? ⟨c, 0, none⟩ = some (.int .i64 0) := by
    rw [World.cell?_of_block (Below.heap_setCell _ _ _ _ (Ne.symm hpq))]; exact hc2
  have hqz : (w.setCell ⟨b, 0, none⟩ (.int .u32 0)).frozen? ⟨c, 0, none⟩ = false := by
    simp [go_sem, hz2]
  refine callsD_of_wpS Tryz.func418 rfl fun c₀ cs hu => ?_
  apply wpS_seq
  apply wpS_region
  simp [wpOpsS, go_sem, recoverD, hu, Tryz.ntmps418, Exit.thenS]
  refine wpS_cond (t := true) (by simp [Act.eval, Array.replicate]) ?_
  simp only [if_true]
  apply wpS_region
  simp [wpOpsS, go_sem, hc, hz, hq, hqz, bodyPostS, results, Tryz.results418]
theorem catch_idle (p q : Addr) (w : World) :
    CallsD Tryz.prog 418 #[.pointer (some p), .pointer (some q)] .returning w fun e u' w' => e = .returned (.tuple #[]) ∧ u' = .returning ∧ w' = w := by
  refine callsD_of_wpS Tryz.func418 rfl fun c₀ cs hu => ?_
  apply wpS_seq
  apply wpS_region
  simp [wpOpsS, go_sem, recoverD, hu, Tryz.ntmps418, Exit.thenS]
  refine wpS_cond (t := false) (by simp [Act.eval, Array.replicate]) ?_
  simp only [Bool.false_eq_true, if_false]
  refine wpS_of_wp (wp_skip ?_)
  cases c₀
  simp_all [bodyPostS, results, Tryz.results418]
theorem isBi_div {o : Nat} (h : isDiv o = true) : isBi o = false := by
  simp only [isDiv, Bool.or_eq_true, beq_iff_eq] at h
  rcases h with ((rfl | rfl) | rfl) | rfl <;> rfl
theorem set2 {w w1 : World} (h : Below w.heap.size w w1) (v u : Value) : Below w.heap.size w ((w1.setCell ⟨w.heap.size, 0, none⟩ v).setCell ⟨w.heap.size + 1, 0, none⟩ u) :=
  (h.setCell (p := ⟨w.heap.size, 0, none⟩) (Nat.le_refl _) v).setCell (p := ⟨w.heap.size + 1, 0, none⟩) (Nat.le_succ _) u
set_option maxRecDepth 100000 in
set_option maxHeartbeats 1000000 in
theorem binary_any (o a b : Nat) (hb : b < 4294967296) (w : World) : Calls Tryz.prog 342 #[.int .u8 o, .int .u32 a, .int .u32 b] w fun e w' => e = .returned (.tuple #[.int .u32 (biR o a b).1, .int .i64 (biR o a b).2]) ∧ Below w.heap.size w w' := by
  have hmf : ∀ (fn : Fn) (first cap : Array Value) (w : World), (Instr.makeFunc fn first cap).run Tryz.prog w = .ok (.func fn first cap) w := fun _ _ _ _ => rfl
  by_cases h : isDiv o = true ∧ b = 0
  · obtain ⟨h1, rfl⟩ := h
    have H := Lib.hid (fun W => bi_no o a h1 W)
    go_enter_defers Tryz.func342, Tryz.ntmps342
    go_wp2_with fail
    refine (H.out _).mono ?_
    rintro e w1 ⟨⟨u, pv, rfl⟩, hb1⟩
    have c6 : w1.cell? ⟨w.heap.size, 0, none⟩ = some (.int .u32 0) := (hb1.cell (p := ⟨w.heap.size, 0, none⟩) (by simp; omega)).trans (by simp [go_sem])
    have c7 : w1.cell? ⟨w.heap.size + 1, 0, none⟩ = some (.int .i64 0) := (hb1.cell (p := ⟨w.heap.size + 1, 0, none⟩) (by simp)).trans (by simp [go_sem])
    have f6 : w1.frozen? ⟨w.heap.size, 0, none⟩ = false := (hb1.frozen (p := ⟨w.heap.size, 0, none⟩) (by simp; omega)).trans (by simp [go_sem])
    have f7 : w1.frozen? ⟨w.heap.size + 1, 0, none⟩ = false := (hb1.frozen (p := ⟨w.heap.size + 1, 0, none⟩) (by simp)).trans (by simp [go_sem])
    have HB := Lib.hid (Bel.of (Bel.of hb1))
    clear hb1
    go_wp2
    refine leaves_cons (f := 418) (args := #[.pointer (some ⟨w.heap.size, 0, none⟩), .pointer (some ⟨w.heap.size + 1, 0, none⟩)]) (by simp) (by simp [go_sem]) ?_
    refine (catch_panicking w.heap.size (w.heap.size + 1) (by omega) u pv [] w1 c6 f6 c7 f7).mono ?_
    rintro e u' w'' ⟨rfl, rfl, rfl⟩
    rw [show biR o a 0 = (0, 60) from by unfold biR; rw [isBi_div h1, h1]; rfl]
    have hb3 := set2 HB.out (.int .u32 0) (.int .i64 60)
    simp [Leaves, settle, results, Tryz.results342, go_sem, c6, c7, hb3]
  · have H := Lib.hid (fun W => bi_yes o a b hb h W)
    generalize (biR o a b).1 = x at *
    generalize (biR o a b).2 = y at *
    go_enter_defers Tryz.func342, Tryz.ntmps342
    go_wp2_with fail
    refine (H.out _).mono ?_
    rintro e w1 ⟨rfl, hb1⟩
    have c6 : w1.cell? ⟨w.heap.size, 0, none⟩ = some (.int .u32 0) := (hb1.cell (p := ⟨w.heap.size, 0, none⟩) (by simp; omega)).trans (by simp [go_sem])
    have c7 : w1.cell? ⟨w.heap.size + 1, 0, none⟩ = some (.int .i64 0) := (hb1.cell (p := ⟨w.heap.size + 1, 0, none⟩) (by simp)).trans (by simp [go_sem])
    have f6 : w1.frozen? ⟨w.heap.size, 0, none⟩ = false := (hb1.frozen (p := ⟨w.heap.size, 0, none⟩) (by simp; omega)).trans (by simp [go_sem])
    have f7 : w1.frozen? ⟨w.heap.size + 1, 0, none⟩ = false := (hb1.frozen (p := ⟨w.heap.size + 1, 0, none⟩) (by simp)).trans (by simp [go_sem])
    have HB := Lib.hid (Bel.of (Bel.of hb1))
    clear hb1
    go_wp2
    refine leaves_cons (f := 418) (args := #[.pointer (some ⟨w.heap.size, 0, none⟩), .pointer (some ⟨w.heap.size + 1, 0, none⟩)]) (by simp) (by simp [go_sem]) ?_
    refine (catch_idle _ _ _).mono ?_
    rintro e u' w'' ⟨rfl, rfl, rfl⟩
    have hb3 := set2 HB.out (.int .u32 x) (.int .i64 y)
    simp [Leaves, settle, results, Tryz.results342, go_sem, c6, c7, hb3]
end Go.Proofs.YtgpicmiaanapkaaGreat
