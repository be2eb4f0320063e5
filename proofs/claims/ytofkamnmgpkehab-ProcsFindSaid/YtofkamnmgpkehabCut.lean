import Derived.Test.YtofkamnmgpkehabProcs1
import Derived.Test.YtofkamnmgpkehabApartP
import Derived.Deep.RegionLaw
import Derived.Deep.Cut
import Derived.Test.YtofkamnmgpkehabOwnB
import Derived.Test.YtofkamnmgpkehabEncode
import Derived.Deep.RegionHeld3
/- procs.cut. -/
namespace Go.Proofs.Ytofkamnmgpkehab
open Go.RowKit
/-- The last procedure ends there. -/
def endAt (ps : List (Nat × Nat × Nat)) (e : Nat) : List (Nat × Nat × Nat) := ps.set (ps.length - 1) ((ps.getD (ps.length - 1) (0, 0, 0)).1, e, (ps.getD (ps.length - 1) (0, 0, 0)).2.2)
def cutStep (ps : List (Nat × Nat × Nat)) (i : Nat) (ins : Nat × Nat) : List (Nat × Nat × Nat) := endAt (if ins.1 = 3 then ps ++ [(i, 0, ins.2)] else ps) (i + 1)
/-- The procedures of the first k instructions. -/
def psTo (code : List (Nat × Nat)) : Nat → List (Nat × Nat × Nat)
  | 0 => []
  | k + 1 => cutStep (psTo code k) k (code.getD k (0, 0))
def ofTo (code : List (Nat × Nat)) : Nat → List Nat
  | 0 => []
  | k + 1 => ofTo code k ++ [(psTo code (k + 1)).length - 1]
theorem endAt_length (ps : List (Nat × Nat × Nat)) (e : Nat) : (endAt ps e).length = ps.length := by simp [endAt]
theorem ofTo_length (code : List (Nat × Nat)) (k : Nat) : (ofTo code k).length = k := by
  induction k with
  | zero => rfl
  | succ k ih => simp [ofTo, ih]
theorem psTo_le (code : List (Nat × Nat)) (k : Nat) : (psTo code k).length ≤ k := by
  induction k with
  | zero => exact Nat.le_refl _
  | succ k ih =>
    show (endAt _ _).length ≤ _
    rw [endAt_length]
    split
    · rw [List.length_append]; simp; omega
    · omega
theorem psTo_pos {code : List (Nat × Nat)} (h0 : (code.getD 0 (0, 0)).1 = 3) (k : Nat) : 0 < (psTo code (k + 1)).length := by
  induction k with
  | zero =>
    show 0 < (endAt _ _).length
    rw [endAt_length, if_pos h0]; simp
  | succ k ih =>
    show 0 < (endAt _ _).length
    rw [endAt_length]
    split
    · rw [List.length_append]; omega
    · exact ih
theorem encP_set (ps : List (Nat × Nat × Nat)) (k : Nat) (hk : k < ps.length) (e : Nat) : (encP ps).set (k * 4 + 1) (.int .u32 e) = encP (ps.set k ((ps.getD k (0, 0, 0)).1, e, (ps.getD k (0, 0, 0)).2.2)) := by
  induction ps generalizing k with
  | nil => simp at hk
  | cons p ps ih =>
    have e1 : encP (p :: ps) = .int .u32 p.1 :: .int .u32 p.2.1 :: .int .u32 p.2.2 :: .int .i64 0 :: encP ps := rfl
    cases k with
    | zero => rw [e1]; rfl
    | succ k =>
      have := ih k (by simpa using hk)
      rw [e1, show (k + 1) * 4 + 1 = (k * 4 + 1) + 1 + 1 + 1 + 1 from by omega]
      simp only [List.set_cons_succ, List.getD_cons_succ]
      rw [this]
      rfl
theorem zeroProcs (w : World) : (zeroValue 75).run Try.prog w = .ok (.agg #[.slice none 0 0, .slice none 0 0, .slice none 0 0]) w := by kernel_rfl
theorem run_buildProcs (w : World) : (Instr.build 75 #[]).run Try.prog w = .ok (.agg #[.slice none 0 0, .slice none 0 0, .slice none 0 0]) w := by kernel_rfl
theorem run_build39_2 (x y : Int) (w : World) : (Instr.build 39 #[(0, .int .u32 x), (2, .int .u32 y)]).run Try.prog w = .ok (.agg #[.int .u32 x, .int .u32 0, .int .u32 y, .int .i64 0]) w := by kernel_rfl
theorem run_buildSlice64 (x y z : Int) (w : World) : (Instr.buildSlice 64 1 #[(0, .agg #[.int .u32 x, .int .u32 y, .int .u32 z, .int .i64 0])]).run Try.prog w = .ok (.slice (some ⟨w.heap.size, 0, none⟩) 1 1) (w.alloc (.cells #[.int .u32 x, .int .u32 y, .int .u32 z, .int .i64 0] 39)) := by kernel_rfl
theorem run_buildSlice73 (x : Int) (w : World) : (Instr.buildSlice 73 1 #[(0, .int .i64 x)]).run Try.prog w = .ok (.slice (some ⟨w.heap.size, 0, none⟩) 1 1) (w.alloc (.cells #[.int .i64 x] 3)) := by kernel_rfl
theorem info39 : (Try.prog.info? 39).map (fun i => (i.zero, i.size, i.bytes)) = some (some (.agg #[.int .u32 0, .int .u32 0, .int .u32 0, .int .i64 0]), 4, 24) := by kernel_rfl
theorem info3' : (Try.prog.info? 3).map (fun i => (i.zero, i.size, i.bytes)) = some (some (.int .i64 0), 1, 8) := by kernel_rfl
theorem cells_new2 (w : World) (a b : Value) (t : TypeId) : (w.alloc (.cells #[a, b] t)).cell? ⟨w.heap.size, 0, none⟩ = some a ∧ (w.alloc (.cells #[a, b] t)).cell? ⟨w.heap.size, 1, none⟩ = some b := ⟨by simp [go_sem], by simp [go_sem]⟩
/-- What cut keeps: the struct, two rows that grow. -/
structure CutI (w W : World) (b : Nat) (vp vo : Value) (ps : List (Nat × Nat × Nat)) (ofs : List Nat) : Prop where
  c0 : W.cell? ⟨b, 0, none⟩ = some vp
  c1 : W.cell? ⟨b, 1, none⟩ = some vo
  c2 : W.cell? ⟨b, 2, none⟩ = some (.slice none 0 0)
  f : ∀ j, W.frozen? ⟨b, j, none⟩ = false
  hb : w.heap.size ≤ b
  op : W.ownsRow w.heap.size 39 4 vp ps.length (encP ps)
  oo : W.ownsRow w.heap.size 3 1 vo ofs.length (encN .i64 ofs)
  np : vp.ownBlock ≠ some b
  no : vo.ownBlock ≠ some b
  npo : ∀ g, vp.ownBlock = some g → vo.ownBlock ≠ some g
  below : Below w.heap.size w W
theorem CutI.calm {w W W' : World} {b : Nat} {vp vo : Value} {ps : List (Nat × Nat × Nat)} {ofs : List Nat} (h : CutI w W b vp vo ps ofs) (hb : Below W.heap.size W W') : CutI w W' b vp vo ps ofs :=
  have hl := World.block_lt_of_cell? _ _ h.c0
  ⟨(hb.cell (p := ⟨b, 0, none⟩) hl).trans h.c0, (hb.cell (p := ⟨b, 1, none⟩) hl).trans h.c1, (hb.cell (p := ⟨b, 2, none⟩) hl).trans h.c2, fun j => (hb.frozen (p := ⟨b, j, none⟩) hl).trans (h.f j), h.hb, own_below h.op hb, own_below h.oo hb, h.np, h.no, h.npo, Bel.tr h.below hb⟩
/-- The row of procedures has grown, or turned within itself. -/
theorem CutI.row {w W W' : World} {b : Nat} {vp vp' vo : Value} {ps ps' : List (Nat × Nat × Nat)} {ofs : List Nat} (h : CutI w W b vp vo ps ofs) (hg : Grew W W' vp vp') (ho : W'.ownsRow 0 39 4 vp' ps'.length (encP ps')) :
    CutI w (W'.setCell ⟨b, 0, none⟩ vp') b vp' vo ps' ofs := by
  have hl : b < W.heap.size := World.block_lt_of_cell? _ _ h.c0
  have hnb : vp'.ownBlock ≠ some b := fun e => by
    rcases hg.2 b e with h' | h'
    · exact h.np h'
    · omega
  have c0' := grown_cell hg.1 h.c0 hl h.np
  have c1' := grown_cell hg.1 h.c1 hl h.np
  have c2' := grown_cell hg.1 h.c2 hl h.np
  have hbs := h.below.grown hg.1 h.below.size (fun g e => (h.op.lt g e).1)
  exact ⟨World.cell?_setCell_same' _ _ _ (by rw [c0']; rfl), (World.cell?_setCell_other _ _ _ _ (by simp)).trans c1', (World.cell?_setCell_other _ _ _ _ (by simp)).trans c2',
    fun j => by rw [World.frozen?_setCell]; exact (World.frozen?_of_block (hg.1.block b hl (fun e => h.np e.symm))).trans (h.f j), h.hb,
    ownsRow_setCell_other (own_from ho (fun g e => by
      rcases hg.2 g e with h' | h'
      · exact (h.op.lt g h').1
      · have := h.below.size; omega)) (by simpa using hnb) _,
    ownsRow_setCell_other (own_grown h.oo hg.1 (fun g e e2 => h.npo g e2 e)) (by simpa using h.no) _, hnb, h.no, fun g e e2 => by
      rcases hg.2 g e with h' | h'
      · exact h.npo g h' e2
      · have := (h.oo.lt g e2).2; omega, hbs.setCell h.hb _⟩
theorem CutI.ofs {w W W' : World} {b : Nat} {vp vo vo' : Value} {ps : List (Nat × Nat × Nat)} {ofs ofs' : List Nat} (h : CutI w W b vp vo ps ofs) (hg : Grew W W' vo vo') (ho : W'.ownsRow 0 3 1 vo' ofs'.length (encN .i64 ofs')) :
    CutI w (W'.setCell ⟨b, 1, none⟩ vo') b vp vo' ps ofs' := by
  have hl : b < W.heap.size := World.block_lt_of_cell? _ _ h.c0
  have hnb : vo'.ownBlock ≠ some b := fun e => by
    rcases hg.2 b e with h' | h'
    · exact h.no h'
    · omega
  have c0' := grown_cell hg.1 h.c0 hl h.no
  have c1' := grown_cell hg.1 h.c1 hl h.no
  have c2' := grown_cell hg.1 h.c2 hl h.no
  have hbs := h.below.grown hg.1 h.below.size (fun g e => (h.oo.lt g e).1)
  exact ⟨(World.cell?_setCell_other _ _ _ _ (by simp)).trans c0', World.cell?_setCell_same' _ _ _ (by rw [c1']; rfl), (World.cell?_setCell_other _ _ _ _ (by simp)).trans c2',
    fun j => by rw [World.frozen?_setCell]; exact (World.frozen?_of_block (hg.1.block b hl (fun e => h.no e.symm))).trans (h.f j), h.hb,
    ownsRow_setCell_other (own_grown h.op hg.1 (fun g e e2 => h.npo g e e2)) (by simpa using h.np) _,
    ownsRow_setCell_other (own_from ho (fun g e => by
      rcases hg.2 g e with h' | h'
      · exact (h.oo.lt g h').1
      · have := h.below.size; omega)) (by simpa using hnb) _, h.np, hnb, fun g e e2 => by
      rcases hg.2 g e2 with h' | h'
      · exact h.npo g e h'
      · have := (h.op.lt g e).2; omega, hbs.setCell h.hb _⟩
/-- The last procedure's end is written. -/
theorem CutI.ends {w W : World} {b g n c : Nat} {vo : Value} {ps : List (Nat × Nat × Nat)} {ofs : List Nat} (h : CutI w W b (.slice (some ⟨g, 0, none⟩) n c) vo ps ofs) (hn : ps.length = n) (h0 : 0 < n) (e : Nat) :
    CutI w (W.setCell ⟨g, (n - 1) * 4 + 1, none⟩ (.int .u32 e)) b (.slice (some ⟨g, 0, none⟩) n c) vo (endAt ps e) ofs := by
  subst hn
  have hl := World.block_lt_of_cell? _ _ h.c0
  have hop := h.op
  have hs := hop.stored ((ps.length - 1) * 4 + 1) (.int .u32 e)
  have hgb : g ≠ b := fun e => h.np (by rw [← e]; rfl)
  have hgr := hs.2
  have hr := hs.1
  rw [encP_set ps (ps.length - 1) (by omega) e] at hr
  exact ⟨grown_cell hgr h.c0 hl (fun e => hgb (by cases e; rfl)), grown_cell hgr h.c1 hl (fun e => hgb (by cases e; rfl)), grown_cell hgr h.c2 hl (fun e => hgb (by cases e; rfl)),
    fun j => by rw [World.frozen?_setCell]; exact h.f j, h.hb, by rw [endAt_length]; exact hr, own_grown h.oo hgr (fun q e e2 => by cases e2; exact h.npo g rfl e), h.np, h.no, h.npo, h.below.grown hgr h.below.size (fun q e => by cases e; exact (hop.lt g rfl).1)⟩
theorem info23 : (Try.prog.info? 23).map (fun i => (i.zero, i.size, i.bytes)) = some (some (.slice none 0 0), 1, 24) := by kernel_rfl
/-- Procedures that the call owns, each row in a block of its own. -/
structure AimI (w : World) (B b : Nat) (vp vo vt : Value) (ps : List (Nat × Nat × Nat)) (ofs : List Nat) (us : List Value) (ts : List (List Nat)) (tag : Nat → Nat) : Prop where
  at_ : PAt w B b vp vo vt ps ofs us ts
  tb : tag b = 0
  tp : ∀ g, vp.ownBlock = some g → tag g = 1
  to : ∀ g, vo.ownBlock = some g → tag g = 2
  tt : ∀ g, vt.ownBlock = some g → tag g = 3
  tu : ∀ (j : Nat) (u : Value) (g : Nat), us[j]? = some u → u.ownBlock = some g → tag g = 4 + j
def CutPost (code : List (Nat × Nat)) (w : World) (e : Ending) (w' : World) : Prop :=
  ∃ (b : Nat) (vp vo vt : Value) (tag : Nat → Nat), e = .returned (.pointer (some ⟨b, 0, none⟩)) ∧
    AimI w' w.heap.size b vp vo vt (psTo code code.length) (ofTo code code.length) (List.replicate (psTo code code.length).length (.slice none 0 0)) (List.replicate (psTo code code.length).length []) tag ∧ Below w.heap.size w w'
theorem made_nils (n : Nat) : (madeCells (Value.slice none 0 0).cells (n * 1)).toList = List.replicate n (.slice none 0 0) := by
  rw [Nat.mul_one]
  exact toList_madeCells_one (.slice none 0 0) n
theorem below_of_none {w w' : World} (h : w.grownBy w' none) : Below w.heap.size w w' := grownBy_below h
theorem u32_wrap (k : Nat) (h : k < 4294967296) : IntKind.u32.wrap (k : Int) = (k : Int) := by
  have : IntKind.u32.wrap (k : Int) = (k : Int) % 4294967296 := rfl
  omega
theorem four_cells (a b c : Int) : ∀ u ∈ [Value.int .u32 a, .int .u32 b, .int .u32 c, .int .i64 0], u.oneCell' = true := by
  intro u h
  simp only [List.mem_cons, List.not_mem_nil, or_false] at h
  rcases h with rfl | rfl | rfl | rfl <;> rfl
set_option maxRecDepth 100000 in
set_option maxHeartbeats 4000000 in
theorem cut_any (v : Value) (code : List (Nat × Nat)) (hn : code.length ≤ 16384) (h0 : 0 < code.length) (he : (code.getD 0 (0, 0)).1 = 3) (w : World) (hv : Instrs w v code) : Calls Try.prog 34 #[v] w (CutPost code w) := by
  have hlt := hv.lt
  obtain ⟨i0, hi, hz0, hz1, hz2⟩ := info_parts info39
  obtain ⟨j0, hj, hy0, hy1, hy2⟩ := info_parts info3'
  have hb75 := run_buildProcs
  have hb39 := run_build39_2
  have hb64 := run_buildSlice64
  have hb73 := run_buildSlice73
  have hmx : Try.prog.follows .mixedOrders = true := by kernel_rfl
  obtain ⟨a, cap, rfl, hlc, hcm, hnil, hp⟩ := hv.opened
  have Hp := Lib.hid hp
  have Hlt := Lib.hid hlt
  have He := Lib.hid he
  have hlm : code.length ≤ 9223372036854775807 := by omega
  clear hp hnil hv hlt he
  go_enter Try.func34, Try.ntmps34
  go_wp2_with fail
  obtain ⟨n, hnn⟩ : ∃ n, n = code.length := ⟨_, rfl⟩
  have Hn := Lib.hid hnn
  rw [← hnn] at hn h0 hlc hlm ⊢
  clear hnn
  go_loopw [11] (fun i wr => ∃ (k : Nat) (vp vo : Value), k ≤ n ∧ i = .int .i64 k ∧ CutI w wr w.heap.size vp vo (psTo code k) (ofTo code k)) (fun i _ => n - (intOf i).toNat)
  case atStart =>
    refine ⟨0, .slice none 0 0, .slice none 0 0, by omega, rfl, ?_⟩
    exact ⟨by simp [go_sem], by simp [go_sem], by simp [go_sem], fun j => by simp [go_sem], Nat.le_refl _, World.ownsRow_nil _ _ _ _, World.ownsRow_nil _ _ _ _, (fun e => by cases e), (fun e => by cases e), (fun g e => by cases e), Bel.new _ _⟩
  case round =>
    obtain ⟨k, vp, vo, hk, rfl, hI⟩ := hrel
    by_cases hlt' : k < n
    · obtain ⟨b, off, rfl, hbl, hc⟩ := Hp.out (by rw [← Hn.out]; omega)
      obtain ⟨hc1, hc2⟩ := hc k (by rw [← Hn.out]; omega)
      have hq1 := (hI.below.cell (p := ⟨b, off + k * 2, none⟩) hbl).trans hc1
      have hq2 := (hI.below.cell (p := ⟨b, off + k * 2 + 1, none⟩) hbl).trans hc2
      have hps : psTo code (k + 1) = cutStep (psTo code k) k (code.getD k (0, 0)) := rfl
      have hof : ofTo code (k + 1) = ofTo code k ++ [(psTo code (k + 1)).length - 1] := rfl
      have hle := psTo_le code k
      have hpos := psTo_pos He.out k
      have hol := ofTo_length code k
      have hk0 : k = 0 → (code.getD k (0, 0)).1 = 3 := fun e => by rw [e]; exact He.out
      obtain ⟨hlo, hla⟩ := Hlt.out k
      rw [hps] at hof hpos
      generalize code.getD k (0, 0) = ins at *
      obtain ⟨o, x⟩ := ins
      simp only at hq1 hq2 hlo hla hk0
      have hki : (k : Int) < (n : Int) := by omega
      have hb0 : w.heap.size < wr.heap.size := World.block_lt_of_cell? _ _ hI.c0
      have hbr : b < wr.heap.size := Nat.lt_of_lt_of_le hbl hI.below.size
      have Hps := Lib.hid hps
      have Hof := Lib.hid hof
      have Hpos := Lib.hid hpos
      have Hol := Lib.hid hol
      have hIa := hI.calm (Bel.new wr (.cells #[.int .u8 o, .int .u32 x] 49))
      have hba : w.heap.size < (wr.alloc (.cells #[.int .u8 o, .int .u32 x] 49)).heap.size := by simp; omega
      have hw0 := cells_new2 wr (.int .u8 o) (.int .u32 x) 49
      by_cases h3 : o = 3
      · subst h3
        obtain ⟨ap, cp, hvp, -, -, -⟩ := own_sl hIa.op
        have HIa := Lib.hid hIa
        subst hvp
        have hId := HIa.out.calm (Below.refl _ _).drew
        have hIB : wr.heap.size < (wr.alloc (.cells #[.int .u8 3, .int .u32 x] 49)).heap.size := by simp
        have Hps2 := Lib.hid (show psTo code (k + 1) = endAt (psTo code k ++ [(k, 0, x)]) (k + 1) from hps)
        clear hI hIa hps hof hpos hol hc hc1 hc2 hk0
        go_wp2_with fail
        clear hq1 hq2
        generalize wr.alloc (.cells #[.int .u8 3, .int .u32 x] 49) = wa at *
        obtain ⟨IB, hIBe⟩ : ∃ IB, IB = wr.heap.size := ⟨_, rfl⟩
        rw [← hIBe] at hb0 hw0 hIB ⊢
        have HIB := Lib.hid hIBe
        have hc0 := HIa.out.c0
        obtain ⟨hw0, hw1⟩ := hw0
        generalize hpl : (psTo code k).length = m at *
        have Hpl := Lib.hid hpl
        have hm14 : m ≤ 16384 := by omega
        have hb63 : m + 1 ≤ maxLen := by unfold maxLen; omega
        have hb47 : (m + 1) * 24 ≤ 140737488355328 := by omega
        have hkm : IntKind.u32.wrap (k : Int) = (k : Int) := u32_wrap k (by omega)
        have HId := Lib.hid hId
        clear hIBe hId hpl
        go_region_law ((refine step_append_grew rfl (.tmp 23) (.tmp 29) 64 rfl 39 i0 (.agg #[.int .u32 0, .int .u32 0, .int .u32 0, .int .i64 0]) 4 24 Try.underlying64 hi hz0 hz1 hz2 rfl (by decide) _ _ _ rfl (own_base (HId.out.calm (Bel.new _ _)).op) ⟨_, 0, none⟩ 1 1 [_, _, _, _] rfl rfl (news_new _ #[_, _, _, _] 39) ?_ ?_ ?_ ?_; exact four_cells _ _ _; rw [Hpl.out]; exact hb63; rw [Hpl.out]; exact hb47; intro v3 w3 hr3 hg3 hn3; obtain ⟨g3, c3, hv3, hb3, hl3⟩ := own_start hr3 (Nat.succ_pos _); have hCd := HId.out.calm (Bel.new wa.drew (.cells #[.int .u32 k, .int .u32 0, .int .u32 x, .int .i64 0] 39)); have hcx := grown_cell hg3.1 hCd.c0 (World.block_lt_of_cell? _ _ hCd.c0) hCd.np; have hfx : w3.frozen? ⟨w.heap.size, 0, none⟩ = false := (World.frozen?_of_block (hg3.1.block w.heap.size (World.block_lt_of_cell? _ _ hCd.c0) (fun e => hCd.np e.symm))).trans (hCd.f 0); have HCn := Lib.hid (hCd.row hg3 (ps' := psTo code k ++ [(k, 0, x)]) (by rw [List.length_append, encP_append]; exact hr3)); subst hv3; clear hr3 hg3 hn3 hCd))
        all_goals
          have hC := HCn.out
          rw [Hpl.out] at hC ⊢
          have HQl := Lib.hid (show (psTo code k ++ [(k, 0, x)]).length = m + 1 from by rw [List.length_append, Hpl.out]; rfl)
          have HQ := Hps2
          have Hof2 := Lib.hid (show ofTo code (k + 1) = ofTo code k ++ [m] from by
            show ofTo code k ++ [(psTo code (k + 1)).length - 1] = _
            rw [HQ.out, endAt_length, HQl.out]; rfl)
          clear HCn hcx hfx Hps Hof Hpos
          obtain ⟨q, hqe⟩ : ∃ q, q = m := ⟨_, rfl⟩
          rw [← hqe] at hC HQl Hof2 ⊢
          have hq14 : q ≤ 16384 := by omega
          clear hqe
          obtain ⟨Q, hQe⟩ : ∃ Q, Q = psTo code k ++ [(k, 0, x)] := ⟨_, rfl⟩
          rw [← hQe] at hC HQl HQ
          clear hQe
          generalize World.setCell w3 _ _ = W at hC ⊢
          obtain ⟨ao, co, hvo, -, -, -⟩ := own_sl hC.oo
          subst hvo
          rw [Hol.out] at hC
          have hc0 := hC.c0
          have hc1 := hC.c1
          have hbW : w.heap.size < W.heap.size := World.block_lt_of_cell? _ _ hc0
          obtain ⟨-, hce, -, -⟩ := encP_at Q q (by rw [HQl.out]; exact Nat.lt_succ_self _)
          have hop := hC.op
          rw [HQl.out] at hop
          have hcl : W.cell? ⟨g3, q * 4 + 1, none⟩ = some (.int .u32 (Q.getD q (0, 0, 0)).2.1) := by
            rw [hop.cellAt (q * 4 + 1) (by omega)]; exact hce
          have hfl := hop.frozenAt (q * 4 + 1)
          have hwk : IntKind.u32.wrap ((k : Int) + 1) = (k : Int) + 1 := by rw [show ((k : Int) + 1) = ((k + 1 : Nat) : Int) from by omega]; exact u32_wrap _ (by omega)
          have hq1 : (0 : Int) ≤ (q : Int) := by omega
          have hq2 : (q : Int) < (q : Int) + 1 := by omega
          have hC8 : CutI w (W.setCell ⟨g3, q * 4 + 1, none⟩ (.int .u32 ((k : Int) + 1))) w.heap.size (.slice (some ⟨g3, 0, none⟩) (q + 1) c3) (.slice ao k co) (endAt Q (k + 1)) (ofTo code k) := by
            have := hC.ends HQl.out (Nat.succ_pos _) (k + 1)
            rwa [Nat.add_sub_cancel, show ((k + 1 : Nat) : Int) = (k : Int) + 1 from by omega] at this
          have h8c1 := hC8.c1
          have hown8 := own_base hC8.oo
          rw [Hol.out] at hown8
          have HC8 := Lib.hid hC8
          clear hC hC8 hce hop
          go_wp2_with ((with_reducible refine wpList_append1B (o := ⟨some 56, .call { callee := .builtin .append, args := #[.tmp 53, .tmp 55], argTypes := #[73, 73] }, _, _, _, none⟩) rfl _ _ 73 rfl 3 j0 (.int .i64 0) 1 8 Try.underlying73 hj hy0 hy1 hy2 ?_ ?_ _ _ _ hown8 _ _ W.heap.size ?_ ?_ ?_ ?_ ?_ ?_ ?_ ?_); rfl; decide; rfl; rfl; (simp [World.setCell]); rfl; (simp [Value.oneCell']); (unfold maxLen; omega); omega; intro g9 c9 w9 o9 r9 hl9; have hl8 : w.heap.size < (W.setCell ⟨g3, q * 4 + 1, none⟩ (.int .u32 ((k : Int) + 1))).heap.size := World.block_lt_of_cell? _ _ h8c1; have h9c := grown_cell r9.1 h8c1 hl8 HC8.out.no; have h9f : w9.frozen? ⟨w.heap.size, 1, none⟩ = false := (World.frozen?_of_block (r9.1.block w.heap.size hl8 (fun e => HC8.out.no e.symm))).trans (HC8.out.f 1))
          have hC9 := HC8.out.ofs (ofs' := ofTo code k ++ [q]) r9 (by rw [List.length_append, Hol.out, encN_append]; exact o9)
          have HC9 := Lib.hid hC9
          clear hC9 o9 r9 hown8 h8c1 hcl hfl hc0 hc1
          go_roundw
          case rel => exact ⟨k + 1, _, _, by omega, by go_num, by rw [HQ.out, Hof2.out]; exact HC9.out⟩
          case measure => simp [intOf]; omega
      · have hne3 : ((o : Int) == 3) = false := by simp; omega
        have hpl := psTo_le code k
        have hne : cutStep (psTo code k) k (o, x) = endAt (psTo code k) (k + 1) := by
          unfold cutStep; rw [if_neg h3]
        have HQ := Lib.hid (hps.trans hne)
        rw [hne, endAt_length] at hpos hof
        obtain ⟨q, hqe⟩ : ∃ q, (psTo code k).length = q + 1 := ⟨(psTo code k).length - 1, by omega⟩
        rw [hqe, Nat.add_sub_cancel] at hof
        have HQl := Lib.hid hqe
        have Hof2 := Lib.hid hof
        have hq14 : q ≤ 16384 := by omega
        obtain ⟨g3, c3, hvp, -, -⟩ := own_start hIa.op (by omega)
        rw [hqe] at hvp
        subst hvp
        have hC := hIa
        obtain ⟨Q, hQe⟩ : ∃ Q, Q = psTo code k := ⟨_, rfl⟩
        rw [← hQe] at hC HQl HQ
        have hki2 : (k : Int) < (n : Int) := hki
        clear hI hIa hps hof hpos hol hc hc1 hc2 hk0 hne hqe hQe hle hpl Hps Hof Hpos h3
        have HC0 := Lib.hid hC
        clear hC
        go_upto_region 7 with (fail)
        have hC := HC0.out
        clear HC0 hq1 hq2 hw0
        generalize wr.alloc (.cells #[.int .u8 o, .int .u32 x] 49) = W at *
        obtain ⟨ao, co, hvo, -, -, -⟩ := own_sl hC.oo
        subst hvo
        rw [Hol.out] at hC
        have hc0 := hC.c0
        have hc1 := hC.c1
        have hbW : w.heap.size < W.heap.size := World.block_lt_of_cell? _ _ hc0
        obtain ⟨-, hce, -, -⟩ := encP_at Q q (by rw [HQl.out]; exact Nat.lt_succ_self _)
        have hop := hC.op
        rw [HQl.out] at hop
        have hcl : W.cell? ⟨g3, q * 4 + 1, none⟩ = some (.int .u32 (Q.getD q (0, 0, 0)).2.1) := by
          rw [hop.cellAt (q * 4 + 1) (by omega)]; exact hce
        have hfl := hop.frozenAt (q * 4 + 1)
        have hwk : IntKind.u32.wrap ((k : Int) + 1) = (k : Int) + 1 := by rw [show ((k : Int) + 1) = ((k + 1 : Nat) : Int) from by omega]; exact u32_wrap _ (by omega)
        have hq1 : (0 : Int) ≤ (q : Int) := by omega
        have hq2 : (q : Int) < (q : Int) + 1 := by omega
        have hC8 : CutI w (W.setCell ⟨g3, q * 4 + 1, none⟩ (.int .u32 ((k : Int) + 1))) w.heap.size (.slice (some ⟨g3, 0, none⟩) (q + 1) c3) (.slice ao k co) (endAt Q (k + 1)) (ofTo code k) := by
          have := hC.ends HQl.out (Nat.succ_pos _) (k + 1)
          rwa [Nat.add_sub_cancel, show ((k + 1 : Nat) : Int) = (k : Int) + 1 from by omega] at this
        have h8c1 := hC8.c1
        have hown8 := own_base hC8.oo
        rw [Hol.out] at hown8
        have HC8 := Lib.hid hC8
        clear hC hC8 hce hop
        go_wp2_with ((with_reducible refine wpList_append1B (o := ⟨some 56, .call { callee := .builtin .append, args := #[.tmp 53, .tmp 55], argTypes := #[73, 73] }, _, _, _, none⟩) rfl _ _ 73 rfl 3 j0 (.int .i64 0) 1 8 Try.underlying73 hj hy0 hy1 hy2 ?_ ?_ _ _ _ hown8 _ _ W.heap.size ?_ ?_ ?_ ?_ ?_ ?_ ?_ ?_); rfl; decide; rfl; rfl; (simp [World.setCell]); rfl; (simp [Value.oneCell']); (unfold maxLen; omega); omega; intro g9 c9 w9 o9 r9 hl9; have hl8 : w.heap.size < (W.setCell ⟨g3, q * 4 + 1, none⟩ (.int .u32 ((k : Int) + 1))).heap.size := World.block_lt_of_cell? _ _ h8c1; have h9c := grown_cell r9.1 h8c1 hl8 HC8.out.no; have h9f : w9.frozen? ⟨w.heap.size, 1, none⟩ = false := (World.frozen?_of_block (r9.1.block w.heap.size hl8 (fun e => HC8.out.no e.symm))).trans (HC8.out.f 1))
        have hC9 := HC8.out.ofs (ofs' := ofTo code k ++ [q]) r9 (by rw [List.length_append, Hol.out, encN_append]; exact o9)
        have HC9 := Lib.hid hC9
        clear hC9 o9 r9 hown8 h8c1 hcl hfl hc0 hc1
        go_roundw
        case rel => exact ⟨k + 1, _, _, by omega, by go_num, by rw [HQ.out, Hof2.out]; exact HC9.out⟩
        case measure => simp [intOf]; omega
    · obtain rfl : n = k := by omega
      obtain ⟨i1, hi1, x0, x1, x2⟩ := info_parts info23
      obtain ⟨ap, cp, hvp, -, -, -⟩ := own_sl hI.op
      have hle := psTo_le code n
      subst hvp
      have hc0 := hI.c0
      obtain ⟨q, hqe⟩ : ∃ q, q = (psTo code n).length := ⟨_, rfl⟩
      rw [← hqe] at hc0 hle
      have Hq := Lib.hid hqe
      have HI := Lib.hid hI
      have hsz := hI.below.size
      have hbl : w.heap.size < wr.heap.size := World.block_lt_of_cell? _ _ hc0
      clear hqe hI
      go_wp2_with (at_make; refine wpList_make_full _ rfl _ _ 71 rfl w.heap.size 23 i1 (.slice none 0 0) 1 Try.underlying71 hi1 x0 x1 .i64 .i64 _ _ q rfl rfl rfl rfl (by rw [x2]; omega) (by unfold maxLen; omega) hsz ?_; intro w9 ho9 hg9; have h9c := grown_cell hg9 HI.out.c2 hbl (fun e => by cases e); have h9f : w9.frozen? ⟨w.heap.size, 2, none⟩ = false := (World.frozen?_of_block (hg9.block w.heap.size hbl (fun e => by cases e))).trans (HI.out.f 2))
      rw [made_nils] at ho9
      have hfin : AimI (w9.setCell ⟨w.heap.size, 2, none⟩ (.slice (some ⟨wr.heap.size, 0, none⟩) q q)) w.heap.size w.heap.size (.slice ap q cp) vo (.slice (some ⟨wr.heap.size, 0, none⟩) q q) (psTo code n) (ofTo code n) (List.replicate q (.slice none 0 0)) (List.replicate q [])
          (fun g => if g = w.heap.size then 0 else if (Value.slice ap q cp).ownBlock = some g then 1 else if vo.ownBlock = some g then 2 else 3) := by
        have hI := HI.out
        rw [← Hq.out] at hI
        have hgb := below_of_none hg9
        refine ⟨⟨(World.cell?_setCell_other _ _ _ _ (by simp)).trans (grown_cell hg9 hI.c0 hbl (fun e => by cases e)), (World.cell?_setCell_other _ _ _ _ (by simp)).trans (grown_cell hg9 hI.c1 hbl (fun e => by cases e)),
          World.cell?_setCell_same' _ _ _ (by rw [h9c]; rfl), Nat.le_refl _, ownsRow_setCell_other (own_below hI.op hgb) (by simpa using hI.np) _, ownsRow_setCell_other (own_below hI.oo hgb) (by simpa using hI.no) _,
          ownsRow_setCell_other (by rw [List.length_replicate]; exact ho9) (fun e => by simp [Value.ownBlock] at e; omega) _, by simp, fun j u l hu hl => ?_⟩, if_pos rfl, fun g e => ?_, fun g e => ?_, fun g e => ?_, fun j u g hu e => ?_⟩
        · rw [List.getElem?_replicate] at hu hl
          split at hu
          · rename_i hlt
            rw [if_pos hlt] at hl
            cases hu; cases hl
            exact World.ownsRow_nil _ _ _ _
          · cases hu
        · show (if g = w.heap.size then 0 else _) = 1
          rw [if_neg (fun (h : g = w.heap.size) => hI.np (h ▸ e)), if_pos e]
        · show (if g = w.heap.size then 0 else _) = 2
          rw [if_neg (fun (h : g = w.heap.size) => hI.no (h ▸ e)), if_neg (fun h => hI.npo g h e), if_pos e]
        · have hg : wr.heap.size = g := by simpa [Value.ownBlock] using e
          show (if g = w.heap.size then 0 else _) = 3
          rw [if_neg (by omega), if_neg (fun h => by have := (hI.op.lt g h).2; omega), if_neg (fun h => by have := (hI.oo.lt g h).2; omega)]
        · rw [List.getElem?_replicate] at hu
          split at hu
          · cases hu; cases e
          · cases hu
      have hbf : Below w.heap.size w (w9.setCell ⟨w.heap.size, 2, none⟩ (.slice (some ⟨wr.heap.size, 0, none⟩) q q)) := (Bel.tr HI.out.below (below_of_none hg9)).setCell (p := ⟨w.heap.size, 2, none⟩) (Nat.le_refl _) _
      have Hfin := Lib.hid hfin
      have Hbf := Lib.hid hbf
      clear hfin hbf ho9 hg9
      go_wp2
      go_ret
      exact ⟨w.heap.size, _, vo, _, _, rfl, by rw [← Hn.out, ← Hq.out]; exact Hfin.out, Hbf.out⟩
end Go.Proofs.Ytofkamnmgpkehab
