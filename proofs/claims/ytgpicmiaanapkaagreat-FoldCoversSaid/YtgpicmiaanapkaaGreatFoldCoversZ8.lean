import Derived.Test.YtgpicmiaanapkaaGreatFoldCoversZ7
import Derived.Test.YtgpicmiaanapkaaGreatFoldCoversZ5
import Derived.ProofKit
import Derived.OpenShut
import Derived.Lib.SmallJoins
import Derived.Deep.Slices
import Derived.Deep.Fields
import Derived.ChangeSame
import Derived.SizedLaws
import Derived.Test.YtgpicmiaanapkaaGreatFoldCoversZ4
import Derived.Deep.RegionLaw
import Derived.Test.YtgpicmiaanapkaaGreatFoldCoversZ3
/- Listed, aimed; pieces one behind the other. -/
namespace Go.Proofs.YtgpicmiaanapkaaGreat
open Go.RowKit
set_option linter.unusedVariables false
def lenSum (l : List (Nat × Nat × Nat × Nat)) : Nat := (l.map (·.2.1)).sum
theorem Pieces.end_ {code : List (Nat × Nat)} {lead : Nat → Bool} {a e : Nat} {l : List (Nat × Nat × Nat × Nat)} (h : Pieces code lead a l e) : e = a + lenSum l := by
  induction h with
  | nil => rfl
  | snoc b l p h hp ih => rw [ih]; simp [lenSum]; omega
theorem Pieces.piece {code : List (Nat × Nat)} {lead : Nat → Bool} {a e : Nat} {l : List (Nat × Nat × Nat × Nat)} (h : Pieces code lead a l e) : ∀ k, k < l.length → PieceOk code lead (a + lenSum (l.take k)) (l.getD k (0, 0, 0, 0)) := by
  induction h with
  | nil => intro k h; simp at h
  | snoc b l p h hp ih =>
    intro k hk
    by_cases e : k < l.length
    · have := ih k e
      rw [List.take_append_of_le_length (by omega)]
      rw [List.getD_eq_getElem?_getD, List.getElem?_append_left e, ← List.getD_eq_getElem?_getD]
      exact this
    · have hk' : k = l.length := by simp at hk; omega
      subst hk'
      rw [List.take_append_of_le_length (Nat.le_refl _), List.take_length, List.getD_eq_getElem?_getD, List.getElem?_append_right (Nat.le_refl _), Nat.sub_self]
      rw [← h.end_]
      exact hp
theorem lenSum_succ {l : List (Nat × Nat × Nat × Nat)} {k : Nat} (h : k < l.length) : lenSum (l.take (k + 1)) = lenSum (l.take k) + (l.getD k (0, 0, 0, 0)).2.1 := by
  rw [List.take_succ_eq_append_getElem h, List.getD_eq_getElem?_getD, List.getElem?_eq_getElem h]
  unfold lenSum
  rw [List.map_append, List.sum_append]
  simp only [List.map_cons, List.map_nil, List.sum_cons, List.sum_nil, Nat.add_zero, Option.getD_some]
set_option maxRecDepth 100000 in
set_option maxHeartbeats 1000000 in
theorem listed_no (vj : Value) (js : List Nat) (i : Nat) (hi : i < 4294967296) (w : World) (hj : Words w vj js) (hno : ∀ j, j < js.length → js.getD j 0 ≠ i) :
    Calls Tryz.prog 63 #[vj, .int .i64 i] w fun e w' => e = .returned (.bool false) ∧ w = w' := by
  obtain ⟨⟨a, c, rfl, -, hnc, hcm, -, hp⟩, hlt⟩ := hj
  have hm : js.length ≤ 9223372036854775807 := by unfold maxLen at hcm; omega
  have Hp := Lib.hid hp
  have Hno := Lib.hid hno
  have hw : IntKind.u32.wrap (i : Int) = (i : Int) := u32_wrap' i hi
  clear hp hno hlt hcm
  go_enter Tryz.func63, Tryz.ntmps63
  go_wp2_with fail
  go_loop [5] (fun x => ∃ k : Nat, k ≤ js.length ∧ x = .int .i64 k) (fun x => js.length - (intOf x).toNat)
  case atStart => exact ⟨0, by omega, rfl⟩
  case round =>
    obtain ⟨k, hk, rfl⟩ := hrel
    by_cases hlt : k < js.length
    · obtain ⟨b, off, rfl, hbl, hc⟩ := Hp.out (by omega)
      have q := hc k (by rw [encN_length]; exact hlt)
      rw [encN_at _ _ _ hlt] at q
      have hne := Hno.out k hlt
      have hki : (k : Int) < (js.length : Int) := by omega
      have hk0 : (0 : Int) ≤ (k : Int) := by omega
      generalize js.getD k 0 = x at *
      have hb : ((x : Int) == (i : Int)) = false := by simp; omega
      clear hc hne
      go_wp2_with fail
      go_round
      case rel => exact ⟨k + 1, by omega, by go_num⟩
      case measure => simp [intOf]; omega
    · obtain rfl : k = js.length := by omega
      go_wp2_with fail
      go_ret
      exact ⟨rfl, rfl⟩
set_option maxRecDepth 100000 in
set_option maxHeartbeats 2000000 in
theorem aimed_no (vc : Value) (code : List (Nat × Nat)) (i : Nat) (hi : i < 4294967296) (w : World) (hc : Instrs w vc code)
    (hno : ∀ j, j < code.length → (code.getD j (0, 0)).1 = 6 ∨ (13 ≤ (code.getD j (0, 0)).1 ∧ (code.getD j (0, 0)).1 ≤ 28) → (code.getD j (0, 0)).2 ≠ i) :
    Calls Tryz.prog 64 #[vc, .int .i64 i] w fun e w' => e = .returned (.bool false) ∧ w = w' := by
  obtain ⟨a, c, rfl, hnc, hcm, -, hp⟩ := hc.opened
  have hm : code.length ≤ 9223372036854775807 := by unfold maxLen at hcm; omega
  have Hp := Lib.hid hp
  have Hno := Lib.hid hno
  have hw : IntKind.u32.wrap (i : Int) = (i : Int) := u32_wrap' i hi
  clear hp hno hcm hc
  go_enter Tryz.func64, Tryz.ntmps64
  go_wp2_with fail
  go_loop [5] (fun x => ∃ k : Nat, k ≤ code.length ∧ x = .int .i64 k) (fun x => code.length - (intOf x).toNat)
  case atStart => exact ⟨0, by omega, rfl⟩
  case round =>
    obtain ⟨k, hk, rfl⟩ := hrel
    by_cases hlt : k < code.length
    · obtain ⟨b, off, rfl, hbl, hcc⟩ := Hp.out (by omega)
      obtain ⟨q0, q1⟩ := hcc k hlt
      have hne := Hno.out k hlt
      have hki : (k : Int) < (code.length : Int) := by omega
      have hk0 : (0 : Int) ≤ (k : Int) := by omega
      generalize code.getD k (0, 0) = ins at *
      obtain ⟨o, x⟩ := ins
      simp only at q0 q1 hne
      have hcase : (o = 6 ∧ x ≠ i) ∨ (o ≠ 6 ∧ o < 13) ∨ (o ≠ 6 ∧ 28 < o) ∨ (o ≠ 6 ∧ 13 ≤ o ∧ o ≤ 28 ∧ x ≠ i) := by omega
      clear hcc hne
      rcases hcase with ⟨rfl, h2⟩ | ⟨h1, h2⟩ | ⟨h1, h2⟩ | ⟨h1, h2, h3, h4⟩
      · have hb : ((x : Int) == (i : Int)) = false := by simp; omega
        clear h2
        go_wp2_with fail
        go_round
        case rel => exact ⟨k + 1, by omega, by go_num⟩
        case measure => simp [intOf]; omega
      · have hb : ((o : Int) == 6) = false := by simp; omega
        have hb2 : (o : Int) < 13 := by omega
        clear h1 h2
        go_wp2_with fail
        go_round
        case rel => exact ⟨k + 1, by omega, by go_num⟩
        case measure => simp [intOf]; omega
      · have hb : ((o : Int) == 6) = false := by simp; omega
        have hb2 : (13 : Int) ≤ (o : Int) := by omega
        have hb3 : (28 : Int) < (o : Int) := by omega
        clear h1 h2
        go_wp2_with fail
        go_round
        case rel => exact ⟨k + 1, by omega, by go_num⟩
        case measure => simp [intOf]; omega
      · have hb : ((o : Int) == 6) = false := by simp; omega
        have hb2 : (13 : Int) ≤ (o : Int) := by omega
        have hb3 : (o : Int) ≤ 28 := by omega
        have hb4 : ((x : Int) == (i : Int)) = false := by simp; omega
        clear h1 h2 h3 h4
        go_wp2_with fail
        go_round
        case rel => exact ⟨k + 1, by omega, by go_num⟩
        case measure => simp [intOf]; omega
    · obtain rfl : k = code.length := by omega
      go_wp2_with fail
      go_ret
      exact ⟨rfl, rfl⟩
end Go.Proofs.YtgpicmiaanapkaaGreat
/- An image that came in, opened. -/
namespace Go.Proofs.YtgpicmiaanapkaaGreat
open Go.ChangeShapes Go.WideShapes Go.ChangeAt Go.RowKit Go.Joins Go.Deep
set_option linter.unusedVariables false
section
variable {H : Type} {enc : TypeId × Value → H} {P : Program} {w : World} {base : Nat} {spare : Nat → Bool} {held : Bool}
theorem open_slice_fields {t e : TypeId} {fs : Array Field} {fuel : Nat} {cs : List Value} {x : DataW H × List MemPlace} (ht : P.underlying t = some (.slice e)) (he : P.underlying e = some (.struct fs))
    (hone : oneCellFields P fs = true) (hC : P.cellsOf e = fs.size) (h : DataW.trod enc P w base spare held fuel t cs = some x) :
    (cs = [.slice none 0 0] ∧ x = (.nil, [])) ∨
    ∃ (a : Addr) (len cap m : Nat) (D : Nat → DataW H) (Pl : Nat → List MemPlace), cs = [.slice (some a) len cap] ∧ base ≤ a.block ∧ len ≤ cap ∧ cap ≤ maxLen ∧ m = (if spare a.block then cap else len) ∧
      x = (.slice ((List.range len).map D) ((List.range (m - len)).map fun j => D (len + j)), MemPlace.row a (m * fs.size) ++ (List.range m).flatMap Pl) ∧
      ∀ i, i < m → ∃ (ys : List (DataW H × List MemPlace)) (n : Nat), D i = .agg (ys.map (·.1)) ∧ Pl i = ys.flatMap (·.2) ∧ ys.length = fs.size ∧
        ∀ (j : Nat) (f : Field), fs[j]? = some f → ∃ (v : Value) (y : DataW H × List MemPlace), w.cell? (a.add (i * fs.size + j)) = some v ∧ ys[j]? = some y ∧ DataW.trod enc P w base spare held n f.type [v] = some y := by
  rcases open_slice ht h with h0 | ⟨a, len, cap, m, n, D, Pl, hcs, hb, hl, hm, hmm, hx, hi⟩
  · exact .inl h0
  · refine .inr ⟨a, len, cap, m, D, Pl, hcs, hb, hl, hm, hmm, by rw [hC] at hx; exact hx, fun i him => ?_⟩
    obtain ⟨cs', hc, ht'⟩ := hi i him
    rw [hC] at hc
    obtain ⟨ys, n', hn', hy, hlen, hyl, hf⟩ := DataW.trod_struct he ht'
    obtain ⟨_, hcl, hat⟩ := World.cells?_some hc
    simp only [Prod.mk.injEq] at hy
    refine ⟨ys, n', hy.1, hy.2, hyl, fun j f hj => ?_⟩
    obtain ⟨ho, hk⟩ := hone_of hone j f hj
    have hjl : j < fs.size := (Array.getElem?_eq_some_iff.1 hj).1
    have hcell := hat j hjl
    have hv : cs'[j]? = some (cs'[j]'(by omega)) := List.getElem?_eq_getElem (by omega)
    have h1 := hf j f hj
    rw [ho, hk] at h1
    have hone' : (cs'.drop j).take 1 = [cs'[j]'(by omega)] := by
      rw [List.drop_eq_getElem_cons (by omega)]
      rfl
    rw [hone'] at h1
    have hys : ys[j]? = some (ys[j]'(by omega)) := List.getElem?_eq_getElem (by omega)
    refine ⟨_, _, ?_, hys, h1.trans hys⟩
    rw [← Go.Deep.add_add, hcell, hv]
end
/-- A choice for each number below n. -/
theorem choose_list {α : Type} [Inhabited α] (n : Nat) (R : Nat → α → Prop) (h : ∀ i, i < n → ∃ x, R i x) : ∃ l : List α, l.length = n ∧ ∀ i (hi : i < l.length), R i l[i] := by
  classical
  refine ⟨(List.range n).map fun i => if hi : i < n then (h i hi).choose else default, by simp, fun i hi => ?_⟩
  have hi' : i < n := by simpa using hi
  rw [List.getElem_map, List.getElem_range, dif_pos hi']
  exact (h i hi').choose_spec
theorem encI_get (l : List (Nat × Nat)) (R : Nat → Value → Prop) (h0 : ∀ i (hi : i < l.length), R (i * 2) (.int .u8 (l[i].1 : Nat))) (h1 : ∀ i (hi : i < l.length), R (i * 2 + 1) (.int .u32 (l[i].2 : Nat))) :
    ∀ j, j < (encI l).length → ∃ u, (encI l)[j]? = some u ∧ R j u := by
  intro j hj
  rw [encI_length] at hj
  rcases Nat.mod_two_eq_zero_or_one j with e | e
  · obtain ⟨k, rfl⟩ : ∃ k, j = k * 2 := ⟨j / 2, by omega⟩
    have hk : k < l.length := by omega
    refine ⟨_, encI_op l k hk, ?_⟩
    have := h0 k hk
    rwa [List.getD_eq_getElem?_getD, List.getElem?_eq_getElem hk]
  · obtain ⟨k, rfl⟩ : ∃ k, j = k * 2 + 1 := ⟨j / 2, by omega⟩
    have hk : k < l.length := by omega
    refine ⟨_, encI_arg l k hk, ?_⟩
    have := h1 k hk
    rwa [List.getD_eq_getElem?_getD, List.getElem?_eq_getElem hk]
theorem cells40 : Tryz.prog.cellsOf 122 = 2 := by kernel_rfl
theorem cells33 : Tryz.prog.cellsOf 25 = 1 := by kernel_rfl
theorem cells5 : Tryz.prog.cellsOf 5 = 1 := by kernel_rfl
theorem cells52 : Tryz.prog.cellsOf 217 = 2 := by kernel_rfl
theorem ocells28 : Tryz.prog.cellsOf 28 = 6 := by kernel_rfl
theorem getD_get {α : Type} (l : List α) (d : α) {k : Nat} (hk : k < l.length) : l.getD k d = l[k] := by
  rw [List.getD_eq_getElem?_getD, List.getElem?_eq_getElem hk]; rfl
theorem getD_lt {l : List Nat} {m : Nat} (h : ∀ i (hi : i < l.length), l[i] < m) (h0 : 0 < m) (k : Nat) : l.getD k 0 < m := by
  by_cases hk : k < l.length
  · rw [getD_get l 0 hk]; exact h k hk
  · rw [List.getD_eq_getElem?_getD, List.getElem?_eq_none (by omega)]; exact h0
section
variable {H : Type} {enc : TypeId × Value → H} {w : World} {base : Nat}
theorem open_instrs2 {n : Nat} {v : Value} {x : DataW H × List MemPlace} (hf : DataW.trod enc Tryz.prog w base (fun _ => true) true n 22 [v] = some x) (hz : ∀ els sp, x.1 = .slice els sp → (els.length + sp.length) * 8 ≤ 140737488351232) : ∃ l : List (Nat × Nat), Instrs w v l ∧ l.length * 8 ≤ 140737488351232 := by
  rcases open_slice_fields Tryz.underlying22 Tryz.underlying122 (by kernel_rfl) cells40 hf with ⟨hcs, _⟩ | ⟨a, len0, cap0, m, D, Pl, hcs, _, hl, hm, hmm, hx, hi⟩
  · simp at hcs
    subst hcs
    exact ⟨[], ⟨Reads.nil w 2, fun i hi => by cases hi⟩, by simp⟩
  · simp at hcs
    subst hcs
    rw [if_pos rfl] at hmm
    subst hmm
    have key : ∀ i, i < len0 → ∃ q : Nat × Nat, (w.cell? (a.add (i * 2)) = some (.int .u8 (q.1 : Nat)) ∧ w.cell? (a.add (i * 2 + 1)) = some (.int .u32 (q.2 : Nat))) ∧ q.1 < 256 ∧ q.2 < 4294967296 := by
      intro i hil
      obtain ⟨ys, n, _, _, _, hfs⟩ := hi i (by omega)
      obtain ⟨v0, y0, hc0, _, t0⟩ := hfs 0 _ rfl
      obtain ⟨v1, y1, hc1, _, t1⟩ := hfs 1 _ rfl
      obtain ⟨x, e0, _, w0⟩ := DataW.trod_int Tryz.underlying120 t0
      obtain ⟨y, e1, _, w1⟩ := DataW.trod_int Tryz.underlying25 t1
      simp at e0 e1
      subst e0 e1
      obtain ⟨o, rfl, ho⟩ := u8_of w0
      obtain ⟨z, rfl, hz⟩ := u32_of w1
      exact ⟨(o, z), ⟨hc0, hc1⟩, ho, hz⟩
    obtain ⟨l, hll, hl2⟩ := choose_list len0 _ key
    have hzz := hz _ _ (by rw [hx])
    simp only [List.length_map, List.length_range] at hzz
    refine ⟨l, ⟨⟨some a, m, by rw [hll], encI_length l, by omega, hm, (fun h => by cases h), fun h0 => ?_⟩, fun i hi => ?_⟩, by rw [hll]; omega⟩
    · obtain ⟨b, off, spot⟩ := a
      have hc := (hl2 0 h0).1.1
      have hspot : spot = none := by simpa [Addr.add] using World.cell?_spot hc
      subst hspot
      refine ⟨b, off, rfl, by simpa [Addr.add] using World.block_lt_of_cell? w _ hc, fun j hj => ?_⟩
      obtain ⟨u, e, hR⟩ := encI_get l (fun j u => w.cell? ((⟨b, off, none⟩ : Addr).add j) = some u) (fun i hi => (hl2 i hi).1.1) (fun i hi => (hl2 i hi).1.2) j hj
      rw [e, ← hR, Addr.add_mid]
    · obtain ⟨k, hk, rfl⟩ := List.mem_iff_getElem.1 hi
      exact (hl2 k hk).2
theorem open_words2 {n : Nat} {v : Value} {x : DataW H × List MemPlace} (hf : DataW.trod enc Tryz.prog w base (fun _ => true) true n 23 [v] = some x) (hz : ∀ els sp, x.1 = .slice els sp → (els.length + sp.length) * 4 ≤ 140737488351232) : ∃ l : List Nat, Words w v l ∧ l.length * 4 ≤ 140737488351232 := by
  rcases open_ints Tryz.underlying23 Tryz.underlying25 cells33 hf with ⟨hcs, _⟩ | ⟨a, len0, cap0, zs, hcs, _, hl, hm, hzl, hx, hcell, hwz⟩
  · simp at hcs
    subst hcs
    exact ⟨[], ⟨Reads.nil w 1, fun k => by simp⟩, by simp⟩
  · simp at hcs
    subst hcs
    rw [if_pos rfl] at hzl
    have key : ∀ i, i < len0 → ∃ q : Nat, w.cell? (a.add i) = some (.int .u32 (q : Nat)) ∧ q < 4294967296 := by
      intro i hil
      have hiz : i < zs.length := by omega
      have hc := hcell i hiz
      rw [List.getD_eq_getElem?_getD, List.getElem?_eq_getElem hiz] at hc
      obtain ⟨o, ho, hlt⟩ := u32_of (hwz _ (List.getElem_mem hiz))
      simp only [Option.getD_some] at hc
      rw [ho] at hc
      exact ⟨o, hc, hlt⟩
    obtain ⟨l, hll, hl2⟩ := choose_list len0 _ key
    have hzz : len0 * 4 ≤ 140737488351232 := by
      have hzz := hz _ _ (by rw [hx])
      have hl1 : (lits (H := H) IntKind.u32 (List.take len0 zs)).length = (List.take len0 zs).length := by simp [lits]
      rw [hl1, List.length_take] at hzz
      omega
    refine ⟨l, ⟨⟨some a, cap0, by rw [hll], by rw [encN_length, Nat.mul_one], by omega, hm, (fun h => by cases h), fun h0 => ?_⟩, getD_lt (fun i hi => (hl2 i hi).2) (by decide)⟩, by rw [hll]; exact hzz⟩
    obtain ⟨b, off, spot⟩ := a
    have hc := (hl2 0 h0).1
    have hspot : spot = none := by simpa [Addr.add] using World.cell?_spot hc
    subst hspot
    refine ⟨b, off, rfl, by simpa [Addr.add] using World.block_lt_of_cell? w _ hc, fun k hk => ?_⟩
    rw [encN_length] at hk
    have hR := (hl2 k hk).1
    rw [Addr.add_mid] at hR
    rw [hR, encN_at _ l k hk, getD_get l 0 hk]
theorem open_names2 {n : Nat} {v : Value} {x : DataW H × List MemPlace} (hf : DataW.trod enc Tryz.prog w base (fun _ => true) true n 26 [v] = some x) (hz : ∀ els sp, x.1 = .slice els sp → (els.length + sp.length) * 24 ≤ 140737488351232) : ∃ l : List (ByteArray × Nat), Texts w v l ∧ l.length * 24 ≤ 140737488351232 := by
  rcases open_slice_fields Tryz.underlying26 Tryz.underlying217 (by kernel_rfl) cells52 hf with ⟨hcs, _⟩ | ⟨a, len0, cap0, m, D, Pl, hcs, _, hl, hm, hmm, hx, hi⟩
  · simp at hcs
    subst hcs
    exact ⟨[], ⟨Reads.nil w 2, fun k => by simp⟩, by simp⟩
  · simp at hcs
    subst hcs
    rw [if_pos rfl] at hmm
    subst hmm
    have key : ∀ i, i < len0 → ∃ q : ByteArray × Nat, (w.cell? (a.add (i * 2)) = some (.string q.1) ∧ w.cell? (a.add (i * 2 + 1)) = some (.int .u32 (q.2 : Nat))) ∧ q.2 < 4294967296 := by
      intro i hil
      obtain ⟨ys, n, _, _, _, hfs⟩ := hi i (by omega)
      obtain ⟨v0, y0, hc0, _, t0⟩ := hfs 0 _ rfl
      obtain ⟨v1, y1, hc1, _, t1⟩ := hfs 1 _ rfl
      obtain ⟨s, e0, _, _⟩ := DataW.trod_string Tryz.underlying9 t0
      obtain ⟨y, e1, _, w1⟩ := DataW.trod_int Tryz.underlying25 t1
      simp at e0 e1
      subst e0 e1
      obtain ⟨z, rfl, hz⟩ := u32_of w1
      exact ⟨(s, z), ⟨hc0, hc1⟩, hz⟩
    obtain ⟨l, hll, hl2⟩ := choose_list len0 _ key
    have hzz := hz _ _ (by rw [hx])
    simp only [List.length_map, List.length_range] at hzz
    refine ⟨l, ⟨⟨some a, m, by rw [hll], encX_length l, by omega, hm, (fun h => by cases h), fun h0 => ?_⟩, getD_lt (fun i hi => ?_) (by decide)⟩, by rw [hll]; omega⟩
    · obtain ⟨b, off, spot⟩ := a
      have hc := (hl2 0 h0).1.1
      have hspot : spot = none := by simpa [Addr.add] using World.cell?_spot hc
      subst hspot
      refine ⟨b, off, rfl, by simpa [Addr.add] using World.block_lt_of_cell? w _ hc, fun j hj => ?_⟩
      rw [encX_length] at hj
      obtain ⟨k, hk⟩ : ∃ k, k = j / 2 := ⟨_, rfl⟩
      have hkl : k < l.length := by omega
      obtain ⟨e1, e2⟩ := encX_at l k hkl
      obtain ⟨⟨h1, h2⟩, -⟩ := hl2 k hkl
      rw [Addr.add_mid] at h1 h2
      rw [getD_get l _ hkl] at e1 e2
      rcases Nat.mod_two_eq_zero_or_one j with e | e
      · obtain rfl : j = k * 2 := by omega
        rw [h1, e1]
      · obtain rfl : j = k * 2 + 1 := by omega
        rw [h2, e2]
    · rw [List.length_map] at hi
      rw [List.getElem_map]
      exact (hl2 i hi).2
theorem open_bytes2 {n : Nat} {v : Value} {x : DataW H × List MemPlace} (hf : DataW.trod enc Tryz.prog w base (fun _ => true) true n 24 [v] = some x) (hz : ∀ els sp, x.1 = .slice els sp → (els.length + sp.length) * 1 ≤ 140737488351232) : ∃ l : List Nat, Bytes w v l ∧ l.length * 1 ≤ 140737488351232 := by
  rcases open_ints Tryz.underlying24 Tryz.underlying5 cells5 hf with ⟨hcs, _⟩ | ⟨a, len0, cap0, zs, hcs, _, hl, hm, hzl, hx, hcell, hwz⟩
  · simp at hcs
    subst hcs
    exact ⟨[], ⟨Reads.nil w 1, fun k => by simp⟩, by simp⟩
  · simp at hcs
    subst hcs
    rw [if_pos rfl] at hzl
    have key : ∀ i, i < len0 → ∃ q : Nat, w.cell? (a.add i) = some (.int .u8 (q : Nat)) ∧ q < 256 := by
      intro i hil
      have hiz : i < zs.length := by omega
      have hc := hcell i hiz
      rw [List.getD_eq_getElem?_getD, List.getElem?_eq_getElem hiz] at hc
      obtain ⟨o, ho, hlt⟩ := u8_of (hwz _ (List.getElem_mem hiz))
      simp only [Option.getD_some] at hc
      rw [ho] at hc
      exact ⟨o, hc, hlt⟩
    obtain ⟨l, hll, hl2⟩ := choose_list len0 _ key
    have hzz : len0 * 1 ≤ 140737488351232 := by
      have hzz := hz _ _ (by rw [hx])
      have hl1 : (lits (H := H) IntKind.u8 (List.take len0 zs)).length = (List.take len0 zs).length := by simp [lits]
      rw [hl1, List.length_take] at hzz
      omega
    refine ⟨l, ⟨⟨some a, cap0, by rw [hll], by rw [encN_length, Nat.mul_one], by omega, hm, (fun h => by cases h), fun h0 => ?_⟩, fun i hi => by
      obtain ⟨k, hk, rfl⟩ := List.mem_iff_getElem.1 hi
      exact (hl2 k hk).2⟩, by rw [hll]; exact hzz⟩
    obtain ⟨b, off, spot⟩ := a
    have hc := (hl2 0 h0).1
    have hspot : spot = none := by simpa [Addr.add] using World.cell?_spot hc
    subst hspot
    refine ⟨b, off, rfl, by simpa [Addr.add] using World.block_lt_of_cell? w _ hc, fun k hk => ?_⟩
    rw [encN_length] at hk
    have hR := (hl2 k hk).1
    rw [Addr.add_mid] at hR
    rw [hR, encN_at _ l k hk, getD_get l 0 hk]
theorem sized_agg {P : Program} {ts : List TypeId} {ds : List (DataW H)} (h : (DataW.weightsEach P ts ds).all (· ≤ reachBytes) = true) {j : Nat} {t : TypeId} {fs : Array Field} {parts : List (DataW H)} (ht : ts[j]? = some t) (hd : ds[j]? = some (.agg parts)) (hu : P.underlying t = some (.struct fs)) :
    (DataW.weightsEach P (fs.toList.map (·.type)) parts).all (· ≤ reachBytes) = true := by
  refine List.all_eq_true.2 fun n hn => List.all_eq_true.1 h _ (DataW.weights_mem_each ht hd n ?_)
  simp only [DataW.weights, hu]
  exact hn
end
section
variable {H : Type} {enc : TypeId × Value → H} {P : Program} {w : World} {base : Nat} {spare : Nat → Bool} {held : Bool}
/-- A struct of one-cell fields, by value: the fields' cells, each with its reading. -/
theorem open_aggN {r : Reach} {b0 : Nat} {t : TypeId} {fs : Array Field} {v : Value} {d : DataW H} {p : List MemPlace} (hs : P.underlying t = some (.struct fs)) (hone : oneCellFields P fs = true) (hC : P.cellsOf t = fs.size)
    (hv : Value.okWide P w r b0 t v) (h : DataW.Trod enc P w base spare held t v d p) :
    ∃ (cs : Array Value) (ys : List (DataW H × List MemPlace)) (n : Nat), v = .agg cs ∧ cs.size = fs.size ∧ d = .agg (ys.map (·.1)) ∧ ys.length = fs.size ∧
      ∀ (j : Nat) (f : Field), fs[j]? = some f → ∃ (u : Value) (y : DataW H × List MemPlace), cs[j]? = some u ∧ ys[j]? = some y ∧ DataW.trod enc P w base spare held n f.type [u] = some y := by
  obtain ⟨cs, rfl, hsz⟩ := okWide_struct hs hv
  obtain ⟨fuel, hf⟩ := h
  obtain ⟨ys, n, _, hx, hl, hlen, hg⟩ := DataW.trod_struct hs hf
  simp only [Prod.mk.injEq] at hx
  have hcs : cs.size = fs.size := hsz.trans hC
  refine ⟨cs, ys, n, rfl, hcs, hx.1, hlen, fun j f hj => ?_⟩
  obtain ⟨ho, hk⟩ := hone_of hone j f hj
  have hjl : j < fs.size := (Array.getElem?_eq_some_iff.1 hj).1
  have h1 := hg j f hj
  rw [ho, hk] at h1
  have hjc : j < cs.toList.length := by simp [hcs, hjl]
  have hone' : (Value.cells (.agg cs)).toList.length = cs.size := by simp [Value.cells]
  have h2 : ((Value.cells (.agg cs)).toList.drop j).take 1 = [cs[j]'(by omega)] := by
    rw [List.drop_eq_getElem_cons (by simp [Value.cells]; omega)]
    simp [Value.cells]
  rw [h2] at h1
  have hys : ys[j]? = some (ys[j]'(by omega)) := List.getElem?_eq_getElem (by omega)
  exact ⟨_, _, Array.getElem?_eq_getElem (by omega), hys, h1.trans hys⟩
end
section
variable {H : Type} {enc : TypeId × Value → H} {w : World} {base : Nat}
/-- How large an image that came in may be. -/
structure Img.Sized (m : Img) : Prop where
  c : m.code.length * 8 ≤ 140737488351232
  j : m.js.length * 4 ≤ 140737488351232
  d : m.data.length * 1 ≤ 140737488351232
  n : m.lx.length * 24 ≤ 140737488351232
set_option maxRecDepth 100000 in
theorem open_image {r : Reach} {b0 : Nat} {v : Value} {d : DataW H} {p : List MemPlace} (hv : Value.okWide Tryz.prog w r b0 28 v) (h : DataW.Trod enc Tryz.prog w base (fun _ => true) true 28 v d p)
    (hsz : ∀ parts, d = .agg parts → (DataW.weightsEach Tryz.prog [22, 23, 24, 25, 25, 26] parts).all (· ≤ reachBytes) = true) :
    ∃ (vc vj vd vn : Value) (m : Img), v = .agg #[vc, vj, vd, .int .u32 m.zero, .int .u32 m.stack, vn] ∧ ImgAt w vc vj vd vn m ∧ m.Sized := by
  obtain ⟨cs, ys, n, rfl, hcs, hd, hyl, hf⟩ := open_aggN Tryz.underlying28 (by kernel_rfl) ocells28 hv h
  obtain ⟨u0, y0, c0, e0, t0⟩ := hf 0 _ rfl
  obtain ⟨u1, y1, c1, e1, t1⟩ := hf 1 _ rfl
  obtain ⟨u2, y2, c2, e2, t2⟩ := hf 2 _ rfl
  obtain ⟨u3, y3, c3, e3, t3⟩ := hf 3 _ rfl
  obtain ⟨u4, y4, c4, e4, t4⟩ := hf 4 _ rfl
  obtain ⟨u5, y5, c5, e5, t5⟩ := hf 5 _ rfl
  have hs := hsz _ hd
  have at_ : ∀ (j : Nat) (y : DataW H × List MemPlace), ys[j]? = some y → (ys.map (·.1))[j]? = some y.1 := fun j y e => by rw [List.getElem?_map, e]; rfl
  obtain ⟨code, hc, lc⟩ := open_instrs2 t0 (fun els sp e => by
    have := sized_slice hs (j := 0) (t := 22) (e := 122) rfl (by rw [at_ 0 _ e0, e]) Tryz.underlying22
    rwa [show Tryz.prog.bytesOf 122 = 8 from by kernel_rfl] at this)
  obtain ⟨js, hj, lj⟩ := open_words2 t1 (fun els sp e => by
    have := sized_slice hs (j := 1) (t := 23) (e := 25) rfl (by rw [at_ 1 _ e1, e]) Tryz.underlying23
    rwa [show Tryz.prog.bytesOf 25 = 4 from by kernel_rfl] at this)
  obtain ⟨data, hdt, ld⟩ := open_bytes2 t2 (fun els sp e => by
    have := sized_slice hs (j := 2) (t := 24) (e := 5) rfl (by rw [at_ 2 _ e2, e]) Tryz.underlying24
    rwa [show Tryz.prog.bytesOf 5 = 1 from by kernel_rfl] at this)
  obtain ⟨lx, hn, ln⟩ := open_names2 t5 (fun els sp e => by
    have := sized_slice hs (j := 5) (t := 26) (e := 217) rfl (by rw [at_ 5 _ e5, e]) Tryz.underlying26
    rwa [show Tryz.prog.bytesOf 217 = 24 from by kernel_rfl] at this)
  obtain ⟨x3, f3, _, w3⟩ := DataW.trod_int Tryz.underlying25 t3
  obtain ⟨x4, f4, _, w4⟩ := DataW.trod_int Tryz.underlying25 t4
  simp at f3 f4
  subst f3 f4
  obtain ⟨z, rfl, hz⟩ := u32_of w3
  obtain ⟨s, rfl, hst⟩ := u32_of w4
  refine ⟨u0, u1, u2, u5, ⟨code, js, data, z, s, lx⟩, ?_, ⟨hc, hj, hdt, hn, hz, hst⟩, lc, lj, ld, ln⟩
  congr 1
  have h6 : cs.size = 6 := hcs
  apply Array.ext
  · exact h6
  · intro i h1 h2
    have key : ∀ (k : Nat) (u : Value), cs[k]? = some u → ∀ (hk : k < cs.size), cs[k] = u := fun k u e hk => by rw [Array.getElem?_eq_getElem hk] at e; injection e
    match i, h1 with
    | 0, h1 => exact key 0 _ c0 h1
    | 1, h1 => exact key 1 _ c1 h1
    | 2, h1 => exact key 2 _ c2 h1
    | 3, h1 => exact key 3 _ c3 h1
    | 4, h1 => exact key 4 _ c4 h1
    | 5, h1 => exact key 5 _ c5 h1
    | (i + 6), h1 => omega
end
end Go.Proofs.YtgpicmiaanapkaaGreat
/- The document's Copied: the same image in lists of its own. -/
namespace Go.Proofs.YtgpicmiaanapkaaGreat
open Go.RowKit
set_option linter.unusedVariables false
theorem keep_row {W W' : World} {B e sz n r : Nat} {v : Value} {xs : List Value} (h : W.ownsRow B e sz v n xs) (hg : W.grownBy W' (some r)) (hr : r < B) : W'.ownsRow B e sz v n xs :=
  h.kept hg (by
    cases hv : v.ownBlock with
    | none => exact .inl rfl
    | some g => exact .inr (fun e => by cases e; have := (h.lt _ hv).1; omega))
theorem gb_step {W wr wx w3 : World} {r f : Nat} {u v3 : Value} (h : W.grownBy wr (some r)) (hb : Below wr.heap.size wr wx) (hu : ∀ g, u.ownBlock = some g → W.heap.size ≤ g) (hg : Grew wx w3 u v3) : W.grownBy (w3.setCell ⟨r, f, none⟩ v3) (some r) :=
  ⟨hg.1.os.trans (hb.os.trans h.os), hg.1.tape.trans (hb.tape.trans h.tape), hg.1.output.trans (hb.output.trans h.output), by
      have h1 := h.size; have h2 := hb.size; have h3 := hg.1.size
      have : (w3.setCell ⟨r, f, none⟩ v3).heap.size = w3.heap.size := by simp [World.setCell]
      omega,
    fun k hk hne => by
      have h1 := h.size
      have h2 := hb.size
      rw [Below.heap_setCell _ _ _ _ (fun e => hne (by rw [e]))]
      refine (hg.1.block k (by omega) (fun e => ?_)).trans ((hb.block k (by omega)).trans (h.block k hk hne))
      have := hu k e.symm
      omega⟩
theorem tk_code (l : List (Nat × Nat)) {k : Nat} (hk : k < l.length) : encI (l.take (k + 1)) = encI (l.take k) ++ [.int .u8 (l.getD k (0, 0)).1, .int .u32 (l.getD k (0, 0)).2] := by
  rw [List.take_succ_eq_append_getElem hk, encI_append, List.getD_eq_getElem?_getD, List.getElem?_eq_getElem hk]; rfl
theorem take_nums (q : IntKind) (l : List Nat) {k : Nat} (hk : k < l.length) : encN q (l.take (k + 1)) = encN q (l.take k) ++ [.int q (l.getD k 0 : Nat)] := by
  rw [List.take_succ_eq_append_getElem hk, encN_append, List.getD_eq_getElem?_getD, List.getElem?_eq_getElem hk]; rfl
theorem take_texts (l : List (ByteArray × Nat)) {k : Nat} (hk : k < l.length) : encX (l.take (k + 1)) = encX (l.take k) ++ [.string (l.getD k (ByteArray.empty, 0)).1, .int .u32 (l.getD k (ByteArray.empty, 0)).2] := by
  rw [List.take_succ_eq_append_getElem hk, encX_append, List.getD_eq_getElem?_getD, List.getElem?_eq_getElem hk]; rfl
theorem inf122 : (Tryz.prog.info? 122).map (fun i => (i.zero, i.size, i.bytes)) = some (some (.agg #[.int .u8 0, .int .u32 0]), 2, 8) := by kernel_rfl
theorem inf25 : (Tryz.prog.info? 25).map (fun i => (i.zero, i.size, i.bytes)) = some (some (.int .u32 0), 1, 4) := by kernel_rfl
theorem inf5 : (Tryz.prog.info? 5).map (fun i => (i.zero, i.size, i.bytes)) = some (some (.int .u8 0), 1, 1) := by kernel_rfl
theorem inf217 : (Tryz.prog.info? 217).map (fun i => (i.zero, i.size, i.bytes)) = some (some (.agg #[.string ⟨#[]⟩, .int .u32 0]), 2, 24) := by kernel_rfl
theorem bs22_1 (o a : Int) (w : World) : (Instr.buildSlice 22 1 #[(0, .agg #[.int .u8 o, .int .u32 a])]).run Tryz.prog w = .ok (.slice (some ⟨w.heap.size, 0, none⟩) 1 1) (w.alloc (.cells #[.int .u8 o, .int .u32 a] 122)) := by kernel_rfl
theorem bs23_1 (a : Int) (w : World) : (Instr.buildSlice 23 1 #[(0, .int .u32 a)]).run Tryz.prog w = .ok (.slice (some ⟨w.heap.size, 0, none⟩) 1 1) (w.alloc (.cells #[.int .u32 a] 25)) := by kernel_rfl
theorem bs24_1 (a : Int) (w : World) : (Instr.buildSlice 24 1 #[(0, .int .u8 a)]).run Tryz.prog w = .ok (.slice (some ⟨w.heap.size, 0, none⟩) 1 1) (w.alloc (.cells #[.int .u8 a] 5)) := by kernel_rfl
theorem bs26_1 (s : ByteArray) (a : Int) (w : World) : (Instr.buildSlice 26 1 #[(0, .agg #[.string s, .int .u32 a])]).run Tryz.prog w = .ok (.slice (some ⟨w.heap.size, 0, none⟩) 1 1) (w.alloc (.cells #[.string s, .int .u32 a] 217)) := by kernel_rfl
theorem one_IC (o a : Int) : ∀ u ∈ [Value.int .u8 o, .int .u32 a], u.oneCell' = true := by
  intro u h; simp only [List.mem_cons, List.not_mem_nil, or_false] at h; rcases h with rfl | rfl <;> rfl
theorem one_IJ (q : IntKind) (a : Int) : ∀ u ∈ [Value.int q a], u.oneCell' = true := by
  intro u h; rw [List.mem_singleton.1 h]; rfl
theorem one_IX (s : ByteArray) (a : Int) : ∀ u ∈ [Value.string s, .int .u32 a], u.oneCell' = true := by
  intro u h; simp only [List.mem_cons, List.not_mem_nil, or_false] at h; rcases h with rfl | rfl <;> rfl
def CpPost (m : Img) (w : World) (e : Ending) (w' : World) : Prop :=
  ∃ uc uj ud un, e = .returned (.agg #[uc, uj, ud, .int .u32 m.zero, .int .u32 m.stack, un]) ∧ ImgOwn w' w.heap.size uc uj ud un m ∧ Below w.heap.size w w'
theorem cell28 {w : World} {g : Nat} {a b c d e f : Value} (h : w.heap[g]? = some (.cells #[a, b, c, d, e, f] 28 (0, 0))) : (w.cell? ⟨g, 0, none⟩ = some a ∧ w.cell? ⟨g, 1, none⟩ = some b ∧ w.cell? ⟨g, 2, none⟩ = some c ∧ w.cell? ⟨g, 3, none⟩ = some d ∧
    w.cell? ⟨g, 4, none⟩ = some e ∧ w.cell? ⟨g, 5, none⟩ = some f) ∧ ∀ j, w.frozen? ⟨g, j, none⟩ = false :=
  ⟨⟨cell_of_row w g 0 _ _ _ h, cell_of_row w g 1 _ _ _ h, cell_of_row w g 2 _ _ _ h, cell_of_row w g 3 _ _ _ h, cell_of_row w g 4 _ _ _ h, cell_of_row w g 5 _ _ _ h⟩, fun j => frozen_of_row w g j _ _ h⟩
set_option maxRecDepth 100000 in
set_option maxHeartbeats 8000000 in
theorem copiedR_any (vc vj vd vn : Value) (m : Img) (w : World) (h : ImgAt w vc vj vd vn m) (hsz : m.Sized) :
    Calls Tryz.prog 56 #[.agg #[vc, vj, vd, .int .u32 m.zero, .int .u32 m.stack, vn]] w (CpPost m w) := by
  have hz := zero28
  have bs1 := bs22_1
  have bs2 := bs23_1
  have bs3 := bs24_1
  have bs4 := bs26_1
  obtain ⟨ic, hic, hic0, hic1, hic2⟩ := info_parts inf122
  obtain ⟨ij, hij, hij0, hij1, hij2⟩ := info_parts inf25
  obtain ⟨id_, hid_, hid0, hid1, hid2⟩ := info_parts inf5
  obtain ⟨ix, hix, hix0, hix1, hix2⟩ := info_parts inf217
  obtain ⟨⟨a0, c0, rfl, hl0, hn0, hm0, -, hp0⟩, -⟩ := h.c
  obtain ⟨⟨a1, c1, rfl, hl1, hn1, hm1, -, hp1⟩, -⟩ := h.j
  obtain ⟨⟨a2, c2, rfl, hl2, hn2, hm2, -, hp2⟩, -⟩ := h.d
  obtain ⟨⟨a5, c5, rfl, hl5, hn5, hm5, -, hp5⟩, -⟩ := h.n
  have s0 := hsz.c
  have s1 := hsz.j
  have s2 := hsz.d
  have s5 := hsz.n
  have M0 : m.code.length ≤ 9223372036854775807 := by omega
  have M1 : m.js.length ≤ 9223372036854775807 := by omega
  have M2 : m.data.length ≤ 9223372036854775807 := by omega
  have M5 : m.lx.length ≤ 9223372036854775807 := by omega
  have P0 := Lib.hid hp0
  have P1 := Lib.hid hp1
  have P2 := Lib.hid hp2
  have P5 := Lib.hid hp5
  clear h hsz hp0 hp1 hp2 hp5 hm0 hm1 hm2 hm5 hl0 hl1 hl2 hl5
  obtain ⟨W0, hW0⟩ : ∃ W0, W0 = ((w.alloc (.cells #[.slice a0 m.code.length c0, .slice a1 m.js.length c1, .slice a2 m.data.length c2, .int .u32 m.zero, .int .u32 m.stack, .slice a5 m.lx.length c5] 28)).alloc (.cells #[.slice none 0 0, .slice none 0 0, .slice none 0 0, .int .u32 0, .int .u32 0, .slice none 0 0] 28)).alloc (.cells #[.slice none 0 0, .slice none 0 0, .slice none 0 0, .int .u32 0, .int .u32 0, .slice none 0 0] 28) := ⟨_, rfl⟩
  have B0 : Hid (W0.heap[w.heap.size]? = some (.cells #[.slice a0 m.code.length c0, .slice a1 m.js.length c1, .slice a2 m.data.length c2, .int .u32 m.zero, .int .u32 m.stack, .slice a5 m.lx.length c5] 28 (0, 0))) := Lib.hid (by
    rw [hW0, Below.heap_alloc _ _ _ (by simp; omega), Below.heap_alloc _ _ _ (by simp)]; exact heap_alloc_new w _)
  have T0 : Hid (W0.heap[w.heap.size + 1]? = some (.cells #[.slice none 0 0, .slice none 0 0, .slice none 0 0, .int .u32 0, .int .u32 0, .slice none 0 0] 28 (0, 0))) := Lib.hid (by
    rw [hW0, Below.heap_alloc _ _ _ (by simp)]
    have := heap_alloc_new (w.alloc (.cells #[.slice a0 m.code.length c0, .slice a1 m.js.length c1, .slice a2 m.data.length c2, .int .u32 m.zero, .int .u32 m.stack, .slice a5 m.lx.length c5] 28)) (.cells #[.slice none 0 0, .slice none 0 0, .slice none 0 0, .int .u32 0, .int .u32 0, .slice none 0 0] 28)
    simpa using this)
  have O0 : Hid (W0.heap[w.heap.size + 2]? = some (.cells #[.slice none 0 0, .slice none 0 0, .slice none 0 0, .int .u32 0, .int .u32 0, .slice none 0 0] 28 (0, 0))) := Lib.hid (by
    rw [hW0]
    have := heap_alloc_new ((w.alloc (.cells #[.slice a0 m.code.length c0, .slice a1 m.js.length c1, .slice a2 m.data.length c2, .int .u32 m.zero, .int .u32 m.stack, .slice a5 m.lx.length c5] 28)).alloc (.cells #[.slice none 0 0, .slice none 0 0, .slice none 0 0, .int .u32 0, .int .u32 0, .slice none 0 0] 28)) (.cells #[.slice none 0 0, .slice none 0 0, .slice none 0 0, .int .u32 0, .int .u32 0, .slice none 0 0] 28)
    simpa using this)
  have L0 : Hid (Below w.heap.size w W0) := Lib.hid (by rw [hW0]; exact Bel.al (Bel.al (Bel.new w _) _) _)
  have z0 : w.heap.size + 2 < W0.heap.size := by rw [hW0]; simp
  go_enter Tryz.func56, Tryz.ntmps56
  go_wp2_with fail
  rw [← hW0]
  clear hW0
  go_loopw [4] (fun i wr => ∃ (k : Nat) (u : Value), k ≤ m.code.length ∧ i = .int .i64 k ∧ wr.heap[w.heap.size + 2]? = some (.cells #[u, .slice none 0 0, .slice none 0 0, .int .u32 0, .int .u32 0, .slice none 0 0] 28 (0, 0)) ∧ wr.ownsRow W0.heap.size 122 2 u k (encI (m.code.take k)) ∧ W0.grownBy wr (some (w.heap.size + 2))) (fun i _ => m.code.length - (intOf i).toNat)
  case atStart => exact ⟨0, .slice none 0 0, by omega, rfl, O0.out, World.ownsRow_nil _ _ _ _, grownBy_refl _ _⟩
  case round =>
    obtain ⟨k, u, hk, rfl, ho, hr, hg⟩ := hrel
    have HO := Lib.hid ho
    have HR := Lib.hid hr
    have HG := Lib.hid hg
    have hLr : Below w.heap.size w wr := L0.out.grown hg L0.out.size (fun k e => by cases e; omega)
    have HL := Lib.hid hLr
    have HB := Lib.hid ((hg.block w.heap.size (by omega) (by simp)).trans B0.out)
    obtain ⟨⟨b0, b1, b2, b3, b4, b5⟩, bf⟩ := cell28 HB.out
    have hzr : w.heap.size + 2 < wr.heap.size := Nat.lt_of_lt_of_le z0 hg.size
    by_cases hlt : k < m.code.length
    · obtain ⟨b, off, rfl, hbl, hc⟩ := P0.out (by omega)
      have hel := encI_length m.code
      have q0 := (hLr.cell (p := ⟨b, off + (k * 2), none⟩) hbl).trans ((hc (k * 2) (by omega)).trans (encI_op m.code k hlt))
      have q1 := (hLr.cell (p := ⟨b, off + (k * 2 + 1), none⟩) hbl).trans ((hc (k * 2 + 1) (by omega)).trans (encI_arg m.code k hlt))
      rw [← Nat.add_assoc] at q1
      have HT := Lib.hid (tk_code m.code hlt)
      have hki : (k : Int) < (m.code.length : Int) := by omega
      have hk0 : (0 : Int) ≤ (k : Int) := by omega
      obtain ⟨⟨r0, r1, r2, r3, r4, r5⟩, rf⟩ := cell28 HO.out
      have h63 : k + 1 ≤ maxLen := by unfold maxLen; omega
      have h47 : (k + 1) * 8 ≤ 140737488355328 := by omega
      have hbwr : b < wr.heap.size := by omega
      have hu := Lib.hid (fun g e => (HR.out.lt g e).1 : ∀ g, u.ownBlock = some g → W0.heap.size ≤ g)
      have HRd := Lib.hid (own_below HR.out (Below.refl _ _).drew)
      have HOd : Hid (wr.drew.heap[w.heap.size + 2]? = some (.cells #[u, .slice none 0 0, .slice none 0 0, .int .u32 0, .int .u32 0, .slice none 0 0] 28 (0, 0))) := HO
      have hnu : u.ownBlock ≠ some (w.heap.size + 2) := fun e => by have := hu.out _ e; omega
      have Hnu := Lib.hid hnu
      clear hc hel ho hr hg hLr hnu
      generalize m.code.getD k (0, 0) = pr at *
      obtain ⟨o, x⟩ := pr
      simp only at q0 q1
      go_wp2_with fail
      go_region_law ((refine step_append_grew rfl (.tmp 16) (.tmp 22) 22 rfl 122 ic (.agg #[.int .u8 0, .int .u32 0]) 2 8 Tryz.underlying22 hic hic0 hic1 hic2 rfl (by decide) _ _ _ rfl (own_base (own_below HRd.out (Bel.new _ _))) ⟨_, 0, none⟩ 1 1 [_, _] rfl rfl (news_new _ #[_, _] 122) ?_ ?_ ?_ ?_; exact one_IC _ _; exact h63; exact h47; intro v3 w3 hr3 hg3 hn3; have hh3 := (hg3.1.block (w.heap.size + 2) (by simp; omega) (fun e => Hnu.out e.symm)).trans ((Below.heap_alloc wr.drew _ _ hzr).trans HOd.out); obtain ⟨⟨x0, x1, x2, x3, x4, x5⟩, xf⟩ := cell28 hh3; obtain ⟨g3, c3, hv3, hb3, hl3⟩ := own_start hr3 (Nat.succ_pos _); have HH3 := Lib.hid hh3; have HR3 := Lib.hid hr3; have HG3 := Lib.hid hg3; subst hv3; clear hh3 hr3 hg3 hn3))
      all_goals
        go_wp2
        go_roundw
        case rel => exact ⟨k + 1, _, by omega, by go_num, heap_setCell_same w3 (w.heap.size + 2) 0 _ _ _ HH3.out, ownsRow_setCell_below (own_from (by rw [HT.out]; exact HR3.out) (fun g e => (HG3.out.2 g e).elim (hu.out g) (fun h1 => by have := HG.out.size; simp at h1; omega))) (by show w.heap.size + 2 < _; omega) _, gb_step HG.out ((Below.refl _ _).drew.alloc (Nat.le_refl _) _) hu.out HG3.out⟩
        case measure => simp [intOf]; omega
    · obtain rfl : k = m.code.length := by omega
      rw [List.take_length] at HR
      obtain ⟨ya0, yc0, rfl, -⟩ := own_sl HR.out
      obtain ⟨W1, rfl⟩ : ∃ W1 : World, W1 = wr := ⟨_, rfl⟩
      have O1 := HO
      have B1 := HB
      have L1 := HL
      have T1 := Lib.hid ((HG.out.block (w.heap.size + 1) (by omega) (by simp)).trans T0.out)
      have z1 := hzr
      have R0_1 := HR
      have zz0 : W0.heap.size ≤ W1.heap.size := HG.out.size
      clear HO HB HL HG hzr HR ho hr hg hLr O0 B0 L0
      go_wp2_with fail
      go_loopw [5] (fun i wr => ∃ (k : Nat) (u : Value), k ≤ m.js.length ∧ i = .int .i64 k ∧ wr.heap[w.heap.size + 2]? = some (.cells #[.slice ya0 m.code.length yc0, u, .slice none 0 0, .int .u32 0, .int .u32 0, .slice none 0 0] 28 (0, 0)) ∧ wr.ownsRow W1.heap.size 25 1 u k (encN .u32 (m.js.take k)) ∧ W1.grownBy wr (some (w.heap.size + 2))) (fun i _ => m.js.length - (intOf i).toNat)
      case atStart => exact ⟨0, .slice none 0 0, by omega, rfl, O1.out, World.ownsRow_nil _ _ _ _, grownBy_refl _ _⟩
      case round =>
        obtain ⟨k, u, hk, rfl, ho, hr, hg⟩ := hrel
        have HO := Lib.hid ho
        have HR := Lib.hid hr
        have HG := Lib.hid hg
        have hLr : Below w.heap.size w wr := L1.out.grown hg L1.out.size (fun k e => by cases e; omega)
        have HL := Lib.hid hLr
        have HB := Lib.hid ((hg.block w.heap.size (by omega) (by simp)).trans B1.out)
        obtain ⟨⟨b0, b1, b2, b3, b4, b5⟩, bf⟩ := cell28 HB.out
        have hzr : w.heap.size + 2 < wr.heap.size := Nat.lt_of_lt_of_le z1 hg.size
        by_cases hlt : k < m.js.length
        · obtain ⟨b, off, rfl, hbl, hc⟩ := P1.out (by omega)
          have hel := encN_length .u32 m.js
          have q0 := (hLr.cell (p := ⟨b, off + (k), none⟩) hbl).trans ((hc (k) (by omega)).trans (encN_at .u32 m.js k hlt))
          have HT := Lib.hid (take_nums .u32 m.js hlt)
          have hki : (k : Int) < (m.js.length : Int) := by omega
          have hk0 : (0 : Int) ≤ (k : Int) := by omega
          obtain ⟨⟨r0, r1, r2, r3, r4, r5⟩, rf⟩ := cell28 HO.out
          have h63 : k + 1 ≤ maxLen := by unfold maxLen; omega
          have h47 : (k + 1) * 4 ≤ 140737488355328 := by omega
          have hbwr : b < wr.heap.size := by omega
          have hu := Lib.hid (fun g e => (HR.out.lt g e).1 : ∀ g, u.ownBlock = some g → W1.heap.size ≤ g)
          have HRd := Lib.hid (own_below HR.out (Below.refl _ _).drew)
          have HOd : Hid (wr.drew.heap[w.heap.size + 2]? = some (.cells #[.slice ya0 m.code.length yc0, u, .slice none 0 0, .int .u32 0, .int .u32 0, .slice none 0 0] 28 (0, 0))) := HO
          have hnu : u.ownBlock ≠ some (w.heap.size + 2) := fun e => by have := hu.out _ e; omega
          have Hnu := Lib.hid hnu
          clear hc hel ho hr hg hLr hnu
          generalize m.js.getD k 0 = x at *
          go_wp2_with fail
          go_region_law ((refine step_append_grew rfl (.tmp 33) (.tmp 39) 23 rfl 25 ij (.int .u32 0) 1 4 Tryz.underlying23 hij hij0 hij1 hij2 rfl (by decide) _ _ _ rfl (own_base (own_below HRd.out (Bel.new _ _))) ⟨_, 0, none⟩ 1 1 [_] rfl rfl (news_new _ #[_] 25) ?_ ?_ ?_ ?_; exact one_IJ _ _; exact h63; exact h47; intro v3 w3 hr3 hg3 hn3; have hh3 := (hg3.1.block (w.heap.size + 2) (by simp; omega) (fun e => Hnu.out e.symm)).trans ((Below.heap_alloc wr.drew _ _ hzr).trans HOd.out); obtain ⟨⟨x0, x1, x2, x3, x4, x5⟩, xf⟩ := cell28 hh3; obtain ⟨g3, c3, hv3, hb3, hl3⟩ := own_start hr3 (Nat.succ_pos _); have HH3 := Lib.hid hh3; have HR3 := Lib.hid hr3; have HG3 := Lib.hid hg3; subst hv3; clear hh3 hr3 hg3 hn3))
          all_goals
            go_wp2
            go_roundw
            case rel => exact ⟨k + 1, _, by omega, by go_num, heap_setCell_same w3 (w.heap.size + 2) 1 _ _ _ HH3.out, ownsRow_setCell_below (own_from (by rw [HT.out]; exact HR3.out) (fun g e => (HG3.out.2 g e).elim (hu.out g) (fun h1 => by have := HG.out.size; simp at h1; omega))) (by show w.heap.size + 2 < _; omega) _, gb_step HG.out ((Below.refl _ _).drew.alloc (Nat.le_refl _) _) hu.out HG3.out⟩
            case measure => simp [intOf]; omega
        · obtain rfl : k = m.js.length := by omega
          rw [List.take_length] at HR
          obtain ⟨ya1, yc1, rfl, -⟩ := own_sl HR.out
          obtain ⟨W2, rfl⟩ : ∃ W2 : World, W2 = wr := ⟨_, rfl⟩
          have O2 := HO
          have B2 := HB
          have L2 := HL
          have T2 := Lib.hid ((HG.out.block (w.heap.size + 1) (by omega) (by simp)).trans T1.out)
          have z2 := hzr
          have R1_2 := HR
          have R0_2 := Lib.hid (keep_row R0_1.out HG.out (by omega))
          have zz1 : W1.heap.size ≤ W2.heap.size := HG.out.size
          clear HO HB HL HG hzr HR ho hr hg hLr O1 B1 L1
          go_wp2_with fail
          go_loopw [6] (fun i wr => ∃ (k : Nat) (u : Value), k ≤ m.data.length ∧ i = .int .i64 k ∧ wr.heap[w.heap.size + 2]? = some (.cells #[.slice ya0 m.code.length yc0, .slice ya1 m.js.length yc1, u, .int .u32 0, .int .u32 0, .slice none 0 0] 28 (0, 0)) ∧ wr.ownsRow W2.heap.size 5 1 u k (encN .u8 (m.data.take k)) ∧ W2.grownBy wr (some (w.heap.size + 2))) (fun i _ => m.data.length - (intOf i).toNat)
          case atStart => exact ⟨0, .slice none 0 0, by omega, rfl, O2.out, World.ownsRow_nil _ _ _ _, grownBy_refl _ _⟩
          case round =>
            obtain ⟨k, u, hk, rfl, ho, hr, hg⟩ := hrel
            have HO := Lib.hid ho
            have HR := Lib.hid hr
            have HG := Lib.hid hg
            have hLr : Below w.heap.size w wr := L2.out.grown hg L2.out.size (fun k e => by cases e; omega)
            have HL := Lib.hid hLr
            have HB := Lib.hid ((hg.block w.heap.size (by omega) (by simp)).trans B2.out)
            obtain ⟨⟨b0, b1, b2, b3, b4, b5⟩, bf⟩ := cell28 HB.out
            have hzr : w.heap.size + 2 < wr.heap.size := Nat.lt_of_lt_of_le z2 hg.size
            by_cases hlt : k < m.data.length
            · obtain ⟨b, off, rfl, hbl, hc⟩ := P2.out (by omega)
              have hel := encN_length .u8 m.data
              have q0 := (hLr.cell (p := ⟨b, off + (k), none⟩) hbl).trans ((hc (k) (by omega)).trans (encN_at .u8 m.data k hlt))
              have HT := Lib.hid (take_nums .u8 m.data hlt)
              have hki : (k : Int) < (m.data.length : Int) := by omega
              have hk0 : (0 : Int) ≤ (k : Int) := by omega
              obtain ⟨⟨r0, r1, r2, r3, r4, r5⟩, rf⟩ := cell28 HO.out
              have h63 : k + 1 ≤ maxLen := by unfold maxLen; omega
              have h47 : (k + 1) * 1 ≤ 140737488355328 := by omega
              have hbwr : b < wr.heap.size := by omega
              have hu := Lib.hid (fun g e => (HR.out.lt g e).1 : ∀ g, u.ownBlock = some g → W2.heap.size ≤ g)
              have HRd := Lib.hid (own_below HR.out (Below.refl _ _).drew)
              have HOd : Hid (wr.drew.heap[w.heap.size + 2]? = some (.cells #[.slice ya0 m.code.length yc0, .slice ya1 m.js.length yc1, u, .int .u32 0, .int .u32 0, .slice none 0 0] 28 (0, 0))) := HO
              have hnu : u.ownBlock ≠ some (w.heap.size + 2) := fun e => by have := hu.out _ e; omega
              have Hnu := Lib.hid hnu
              clear hc hel ho hr hg hLr hnu
              generalize m.data.getD k 0 = x at *
              go_wp2_with fail
              go_region_law ((refine step_append_grew rfl (.tmp 50) (.tmp 56) 24 rfl 5 id_ (.int .u8 0) 1 1 Tryz.underlying24 hid_ hid0 hid1 hid2 rfl (by decide) _ _ _ rfl (own_base (own_below HRd.out (Bel.new _ _))) ⟨_, 0, none⟩ 1 1 [_] rfl rfl (news_new _ #[_] 5) ?_ ?_ ?_ ?_; exact one_IJ _ _; exact h63; exact h47; intro v3 w3 hr3 hg3 hn3; have hh3 := (hg3.1.block (w.heap.size + 2) (by simp; omega) (fun e => Hnu.out e.symm)).trans ((Below.heap_alloc wr.drew _ _ hzr).trans HOd.out); obtain ⟨⟨x0, x1, x2, x3, x4, x5⟩, xf⟩ := cell28 hh3; obtain ⟨g3, c3, hv3, hb3, hl3⟩ := own_start hr3 (Nat.succ_pos _); have HH3 := Lib.hid hh3; have HR3 := Lib.hid hr3; have HG3 := Lib.hid hg3; subst hv3; clear hh3 hr3 hg3 hn3))
              all_goals
                go_wp2
                go_roundw
                case rel => exact ⟨k + 1, _, by omega, by go_num, heap_setCell_same w3 (w.heap.size + 2) 2 _ _ _ HH3.out, ownsRow_setCell_below (own_from (by rw [HT.out]; exact HR3.out) (fun g e => (HG3.out.2 g e).elim (hu.out g) (fun h1 => by have := HG.out.size; simp at h1; omega))) (by show w.heap.size + 2 < _; omega) _, gb_step HG.out ((Below.refl _ _).drew.alloc (Nat.le_refl _) _) hu.out HG3.out⟩
                case measure => simp [intOf]; omega
            · obtain rfl : k = m.data.length := by omega
              rw [List.take_length] at HR
              obtain ⟨ya2, yc2, rfl, -⟩ := own_sl HR.out
              obtain ⟨W3, rfl⟩ : ∃ W3 : World, W3 = wr := ⟨_, rfl⟩
              have O3 := HO
              have B3 := HB
              have L3 := HL
              have T3 := Lib.hid ((HG.out.block (w.heap.size + 1) (by omega) (by simp)).trans T2.out)
              have z3 := hzr
              have R2_3 := HR
              have R0_3 := Lib.hid (keep_row R0_2.out HG.out (by omega))
              have R1_3 := Lib.hid (keep_row R1_2.out HG.out (by omega))
              have zz2 : W2.heap.size ≤ W3.heap.size := HG.out.size
              clear HO HB HL HG hzr HR ho hr hg hLr O2 B2 L2
              go_wp2_with fail
              go_loopw [7] (fun i wr => ∃ (k : Nat) (u : Value), k ≤ m.lx.length ∧ i = .int .i64 k ∧ wr.heap[w.heap.size + 2]? = some (.cells #[.slice ya0 m.code.length yc0, .slice ya1 m.js.length yc1, .slice ya2 m.data.length yc2, .int .u32 0, .int .u32 0, u] 28 (0, 0)) ∧ wr.ownsRow W3.heap.size 217 2 u k (encX (m.lx.take k)) ∧ W3.grownBy wr (some (w.heap.size + 2))) (fun i _ => m.lx.length - (intOf i).toNat)
              case atStart => exact ⟨0, .slice none 0 0, by omega, rfl, O3.out, World.ownsRow_nil _ _ _ _, grownBy_refl _ _⟩
              case round =>
                obtain ⟨k, u, hk, rfl, ho, hr, hg⟩ := hrel
                have HO := Lib.hid ho
                have HR := Lib.hid hr
                have HG := Lib.hid hg
                have hLr : Below w.heap.size w wr := L3.out.grown hg L3.out.size (fun k e => by cases e; omega)
                have HL := Lib.hid hLr
                have HB := Lib.hid ((hg.block w.heap.size (by omega) (by simp)).trans B3.out)
                obtain ⟨⟨b0, b1, b2, b3, b4, b5⟩, bf⟩ := cell28 HB.out
                have hzr : w.heap.size + 2 < wr.heap.size := Nat.lt_of_lt_of_le z3 hg.size
                by_cases hlt : k < m.lx.length
                · obtain ⟨b, off, rfl, hbl, hc⟩ := P5.out (by omega)
                  have hel := encX_length m.lx
                  have q0 := (hLr.cell (p := ⟨b, off + (k * 2), none⟩) hbl).trans ((hc (k * 2) (by omega)).trans ((encX_at m.lx k hlt).1))
                  have q1 := (hLr.cell (p := ⟨b, off + (k * 2 + 1), none⟩) hbl).trans ((hc (k * 2 + 1) (by omega)).trans ((encX_at m.lx k hlt).2))
                  rw [← Nat.add_assoc] at q1
                  have HT := Lib.hid (take_texts m.lx hlt)
                  have hki : (k : Int) < (m.lx.length : Int) := by omega
                  have hk0 : (0 : Int) ≤ (k : Int) := by omega
                  obtain ⟨⟨r0, r1, r2, r3, r4, r5⟩, rf⟩ := cell28 HO.out
                  have h63 : k + 1 ≤ maxLen := by unfold maxLen; omega
                  have h47 : (k + 1) * 24 ≤ 140737488355328 := by omega
                  have hbwr : b < wr.heap.size := by omega
                  have hu := Lib.hid (fun g e => (HR.out.lt g e).1 : ∀ g, u.ownBlock = some g → W3.heap.size ≤ g)
                  have HRd := Lib.hid (own_below HR.out (Below.refl _ _).drew)
                  have HOd : Hid (wr.drew.heap[w.heap.size + 2]? = some (.cells #[.slice ya0 m.code.length yc0, .slice ya1 m.js.length yc1, .slice ya2 m.data.length yc2, .int .u32 0, .int .u32 0, u] 28 (0, 0))) := HO
                  have hnu : u.ownBlock ≠ some (w.heap.size + 2) := fun e => by have := hu.out _ e; omega
                  have Hnu := Lib.hid hnu
                  clear hc hel ho hr hg hLr hnu
                  generalize m.lx.getD k (ByteArray.empty, 0) = pr at *
                  obtain ⟨o, x⟩ := pr
                  simp only at q0 q1
                  go_wp2_with fail
                  go_region_law ((refine step_append_grew rfl (.tmp 67) (.tmp 73) 26 rfl 217 ix (.agg #[.string ⟨#[]⟩, .int .u32 0]) 2 24 Tryz.underlying26 hix hix0 hix1 hix2 rfl (by decide) _ _ _ rfl (own_base (own_below HRd.out (Bel.new _ _))) ⟨_, 0, none⟩ 1 1 [_, _] rfl rfl (news_new _ #[_, _] 217) ?_ ?_ ?_ ?_; exact one_IX _ _; exact h63; exact h47; intro v3 w3 hr3 hg3 hn3; have hh3 := (hg3.1.block (w.heap.size + 2) (by simp; omega) (fun e => Hnu.out e.symm)).trans ((Below.heap_alloc wr.drew _ _ hzr).trans HOd.out); obtain ⟨⟨x0, x1, x2, x3, x4, x5⟩, xf⟩ := cell28 hh3; obtain ⟨g3, c3, hv3, hb3, hl3⟩ := own_start hr3 (Nat.succ_pos _); have HH3 := Lib.hid hh3; have HR3 := Lib.hid hr3; have HG3 := Lib.hid hg3; subst hv3; clear hh3 hr3 hg3 hn3))
                  all_goals
                    go_wp2
                    go_roundw
                    case rel => exact ⟨k + 1, _, by omega, by go_num, heap_setCell_same w3 (w.heap.size + 2) 5 _ _ _ HH3.out, ownsRow_setCell_below (own_from (by rw [HT.out]; exact HR3.out) (fun g e => (HG3.out.2 g e).elim (hu.out g) (fun h1 => by have := HG.out.size; simp at h1; omega))) (by show w.heap.size + 2 < _; omega) _, gb_step HG.out ((Below.refl _ _).drew.alloc (Nat.le_refl _) _) hu.out HG3.out⟩
                    case measure => simp [intOf]; omega
                · obtain rfl : k = m.lx.length := by omega
                  rw [List.take_length] at HR
                  obtain ⟨ya5, yc5, rfl, -⟩ := own_sl HR.out
                  obtain ⟨W4, rfl⟩ : ∃ W4 : World, W4 = wr := ⟨_, rfl⟩
                  have O4 := HO
                  have B4 := HB
                  have L4 := HL
                  have T4 := Lib.hid ((HG.out.block (w.heap.size + 1) (by omega) (by simp)).trans T3.out)
                  have z4 := hzr
                  have R5_4 := HR
                  have R0_4 := Lib.hid (keep_row R0_3.out HG.out (by omega))
                  have R1_4 := Lib.hid (keep_row R1_3.out HG.out (by omega))
                  have R2_4 := Lib.hid (keep_row R2_3.out HG.out (by omega))
                  have zz3 : W3.heap.size ≤ W4.heap.size := HG.out.size
                  clear HO HB HL HG hzr HR ho hr hg hLr O3 B3 L3
                  have O4' : W4.heap[w.heap.size + 1 + 1]? = some (.cells #[.slice ya0 m.code.length yc0, .slice ya1 m.js.length yc1, .slice ya2 m.data.length yc2, .int .u32 0, .int .u32 0, .slice ya5 m.lx.length yc5] 28 (0, 0)) := O4.out
                  obtain ⟨⟨y0, y1, y2, y3, y4, y5⟩, yf⟩ := cell28 O4'
                  have yf3 := yf 3
                  have h5 := heap_setCell_same _ _ 3 _ _ (.int .u32 (m.zero : Int)) O4'
                  have h5' : (W4.setCell ⟨w.heap.size + 1 + 1, 3, none⟩ (.int .u32 (m.zero : Int))).heap[w.heap.size + 1 + 1]? = some (.cells #[.slice ya0 m.code.length yc0, .slice ya1 m.js.length yc1, .slice ya2 m.data.length yc2, .int .u32 m.zero, .int .u32 0, .slice ya5 m.lx.length yc5] 28 (0, 0)) := h5
                  obtain ⟨⟨k0, k1, k2, k3, k4, k5⟩, kf⟩ := cell28 h5'
                  have kf4 := kf 4
                  have h6 := heap_setCell_same _ _ 4 _ _ (.int .u32 (m.stack : Int)) h5'
                  have h6' : ((W4.setCell ⟨w.heap.size + 1 + 1, 3, none⟩ (.int .u32 (m.zero : Int))).setCell ⟨w.heap.size + 1 + 1, 4, none⟩ (.int .u32 (m.stack : Int))).heap[w.heap.size + 1 + 1]? = some (.cells #[.slice ya0 m.code.length yc0, .slice ya1 m.js.length yc1, .slice ya2 m.data.length yc2, .int .u32 m.zero, .int .u32 m.stack, .slice ya5 m.lx.length yc5] 28 (0, 0)) := h6
                  obtain ⟨⟨j0, j1, j2, j3, j4, j5⟩, -⟩ := cell28 h6'
                  have HT6 : Hid (((W4.setCell ⟨w.heap.size + 1 + 1, 3, none⟩ (.int .u32 (m.zero : Int))).setCell ⟨w.heap.size + 1 + 1, 4, none⟩ (.int .u32 (m.stack : Int))).heap[w.heap.size + 1]? = some (.cells #[.slice none 0 0, .slice none 0 0, .slice none 0 0, .int .u32 0, .int .u32 0, .slice none 0 0] 28 (0, 0))) := Lib.hid ((Below.heap_setCell _ _ _ _ (by simp)).trans ((Below.heap_setCell _ _ _ _ (by simp)).trans T4.out))
                  clear yf kf h5 h5' h6 h6' O4'
                  go_wp2_with (((with_reducible refine wpList_store_row (o := ⟨none, .store 28 (.tmp 2) (.tmp 82), _, _, _, none⟩) rfl 28 _ _ rfl (w.heap.size + 1) #[.slice ya0 m.code.length yc0, .slice ya1 m.js.length yc1, .slice ya2 m.data.length yc2, .int .u32 m.zero, .int .u32 m.stack, .slice ya5 m.lx.length yc5] ?_ ?_ 28 _ HT6.out ?_ ?_ ?_ ?_); rfl; rfl; exact info28; rfl; (simp [Value.oneCell'])))
                  refine bodyPost_ret (v := .agg #[.slice ya0 m.code.length yc0, .slice ya1 m.js.length yc1, .slice ya2 m.data.length yc2, .int .u32 m.zero, .int .u32 m.stack, .slice ya5 m.lx.length yc5]) (results_cell_row Tryz.results56 _ _ (w.heap.size + 1) 28 _ (0, 0) _ rfl (setRow_heap _ _ _ _ _ _ HT6.out) Tryz.underlying28 rfl info28) rfl ⟨_, _, _, _, rfl, ?_, ?_⟩
                  · exact ⟨own_downT (own_setRow (ownsRow_setCell_below (ownsRow_setCell_below R0_4.out (by show w.heap.size + 1 + 1 < W0.heap.size; omega) _) (by show w.heap.size + 1 + 1 < W0.heap.size; omega) _) (by omega)) (by omega), own_downT (own_setRow (ownsRow_setCell_below (ownsRow_setCell_below R1_4.out (by show w.heap.size + 1 + 1 < W1.heap.size; omega) _) (by show w.heap.size + 1 + 1 < W1.heap.size; omega) _) (by omega)) (by omega), own_downT (own_setRow (ownsRow_setCell_below (ownsRow_setCell_below R2_4.out (by show w.heap.size + 1 + 1 < W2.heap.size; omega) _) (by show w.heap.size + 1 + 1 < W2.heap.size; omega) _) (by omega)) (by omega), own_downT (own_setRow (ownsRow_setCell_below (ownsRow_setCell_below R5_4.out (by show w.heap.size + 1 + 1 < W3.heap.size; omega) _) (by show w.heap.size + 1 + 1 < W3.heap.size; omega) _) (by omega)) (by omega)⟩
                  · exact below_setRow ((L4.out.setCell (p := ⟨w.heap.size + 1 + 1, 3, none⟩) (by show w.heap.size ≤ w.heap.size + 1 + 1; omega) _).setCell (p := ⟨w.heap.size + 1 + 1, 4, none⟩) (by show w.heap.size ≤ w.heap.size + 1 + 1; omega) _) _ (by omega) _
end Go.Proofs.YtgpicmiaanapkaaGreat
/- What Take refuses, it refuses in one way. -/
namespace Go.Proofs.YtgpicmiaanapkaaGreat
open Go.RowKit
set_option linter.unusedVariables false
theorem FindBad.det {code : List (Nat × Nat)} {js ats : List Nat} {i c i' c' : Nat} (h : FindBad code js ats i c) (h' : FindBad code js ats i' c') : i = i' ∧ c = c' := by
  cases h with
  | enc h =>
    cases h' with
    | enc => exact ⟨rfl, rfl⟩
    | first he => exact absurd he h
    | fault he => exact absurd he h
    | jump he => exact absurd he h
    | name he => exact absurd he h
  | first he h =>
    cases h' with
    | enc h2 => exact absurd he h2
    | first => exact ⟨rfl, rfl⟩
    | fault _ h3 => exact absurd h3 h
    | jump _ h3 => exact absurd h3 h
    | name _ h3 => exact absurd h3 h
  | fault he h3 _ hi hj hf =>
    cases h' with
    | enc h2 => exact absurd he h2
    | first _ h2 => exact absurd h3 h2
    | fault _ _ _ hi' hj' hf' =>
      rcases Nat.lt_trichotomy i i' with e | e | e
      · exact absurd (hj' _ e) hf
      · exact ⟨e, by rw [e]⟩
      · exact absurd (hj _ e) hf'
    | jump _ _ hall => exact absurd (hall _ hi) hf
    | name _ _ hall => exact absurd (hall _ hi) hf
  | jump he h3 hall _ hi hg hb =>
    cases h' with
    | enc h2 => exact absurd he h2
    | first _ h2 => exact absurd h3 h2
    | fault _ _ _ hi' _ hf' => exact absurd (hall _ hi') hf'
    | jump _ _ _ _ hi' hg' hb' =>
      rcases Nat.lt_trichotomy i i' with e | e | e
      · have := hg' _ e; rw [hb] at this; cases this
      · exact ⟨e, rfl⟩
      · have := hg _ e; rw [hb'] at this; cases this
    | name _ _ _ hg' => have := hg' _ hi; rw [hb] at this; cases this
  | name he h3 hall hg _ hi hj hb =>
    cases h' with
    | enc h2 => exact absurd he h2
    | first _ h2 => exact absurd h3 h2
    | fault _ _ _ hi' _ hf' => exact absurd (hall _ hi') hf'
    | jump _ _ _ _ hi' _ hb' => have := hg _ hi'; rw [hb'] at this; cases this
    | name _ _ _ _ _ hi' hj' hb' =>
      rcases Nat.lt_trichotomy i i' with e | e | e
      · have := hj' _ e; rw [hb] at this; cases this
      · exact ⟨e, rfl⟩
      · have := hj _ e; rw [hb'] at this; cases this
theorem FindOk.not_bad {code : List (Nat × Nat)} {js ats : List Nat} {i c : Nat} (h : FindOk code js ats) (hb : FindBad code js ats i c) : False := by
  cases hb with
  | enc h2 => exact absurd h.he h2
  | first _ h2 => exact h2 h.h3
  | fault _ _ _ hi _ hf => exact hf (h.hall _ hi)
  | jump _ _ _ _ hi _ hb => have := h.hg _ hi; rw [hb] at this; cases this
  | name _ _ _ _ _ hi _ hb => have := h.hn _ hi; rw [hb] at this; cases this
theorem TakeOk.not_bad {m : Img} {a c : Nat} (h : TakeOk m) (hb : TakeBad m a c) : False := by
  rcases hb with ⟨h1, _⟩ | ⟨_, h2⟩ | ⟨_, _, h3, _⟩
  · exact h1 h.k
  · exact h.f.not_bad h2
  · exact h3 h.r
theorem TakeBad.det {m : Img} {a c a' c' : Nat} (h : TakeBad m a c) (h' : TakeBad m a' c') : a = a' ∧ c = c' := by
  rcases h with ⟨h1, h2, h3⟩ | ⟨h1, h2⟩ | ⟨h1, h2, h3, h4, h5⟩ <;> rcases h' with ⟨g1, g2, g3⟩ | ⟨g1, g2⟩ | ⟨g1, g2, g3, g4, g5⟩
  · exact ⟨h2.trans g2.symm, h3.trans g3.symm⟩
  · exact absurd g1 h1
  · exact absurd g1 h1
  · exact absurd h1 g1
  · exact h2.det g2
  · exact (g2.not_bad h2).elim
  · exact absurd h1 g1
  · exact (h2.not_bad g2).elim
  · exact ⟨h4.trans g4.symm, h5.trans g5.symm⟩
theorem TakeBad.pos {m : Img} {a c : Nat} (h : TakeBad m a c) : c ≠ 0 := by
  rcases h with ⟨h1, h2, h3⟩ | ⟨h1, h2⟩ | ⟨h1, h2, h3, h4, h5⟩
  · rw [h3]; exact h1
  · exact findBad_pos h2
  · rw [h5]; exact h3
/-- The tiny images that the laws begin with. -/
def imA : Img := ⟨[(3, 4), (2, 0)], [], [], 0, 64, []⟩
def imB : Img := ⟨[(3, 4), (8, 7), (4, 4)], [], [], 0, 128, []⟩
def imC : Img := ⟨[(3, 8), (9, 12), (31, 0), (12, 0), (8, 4294967294), (5, 0), (4, 8)], [], [], 0, 128, []⟩
def findOkB (code : List (Nat × Nat)) : Bool := decide ((encRes code).2.2 = 0) && (decide (0 < code.length) && (decide ((code.getD 0 (0, 0)).1 = 3) && (List.range code.length).all fun i => decide (faultAt code i = 0)))
theorem findOk_of {code : List (Nat × Nat)} (h : findOkB code = true) : FindOk code [] [] := by
  unfold findOkB at h
  simp only [Bool.and_eq_true, decide_eq_true_eq, List.all_eq_true, List.mem_range] at h
  exact ⟨h.1, ⟨h.2.1, h.2.2.1⟩, h.2.2.2, fun j hj => absurd hj (Nat.not_lt_zero j), fun j hj => absurd hj (Nat.not_lt_zero j)⟩
theorem okA : TakeOk imA := ⟨by decide +kernel, findOk_of (by decide +kernel), by decide +kernel⟩
theorem okB : TakeOk imB := ⟨by decide +kernel, findOk_of (by decide +kernel), by decide +kernel⟩
theorem okC : TakeOk imC := ⟨by decide +kernel, findOk_of (by decide +kernel), by decide +kernel⟩
end Go.Proofs.YtgpicmiaanapkaaGreat
/- A few answers. -/
namespace Go.Proofs.YtgpicmiaanapkaaGreat
open Go.RowKit
def awakeL : List (Nat × Nat) := [(8, 2), (8, 3), (41, 0), (38, 0), (31, 0)]
theorem awake1 : longRes awakeL 0 5 = ((0, 4, 2, 4294967290), 0) := by decide +kernel
theorem awake2 : longRes awakeL 4 5 = ((4, 1, 1, 0), 0) := by decide +kernel
def awakeC : Array Value := #[.int .u8 8, .int .u32 2, .int .u8 8, .int .u32 3, .int .u8 41, .int .u32 0, .int .u8 38, .int .u32 0, .int .u8 31, .int .u32 0]
theorem awake_build (w : World) : (Instr.buildSlice 22 5 #[(0, .agg #[.int .u8 8, .int .u32 2]), (1, .agg #[.int .u8 8, .int .u32 3]), (2, .agg #[.int .u8 41, .int .u32 0]), (3, .agg #[.int .u8 38, .int .u32 0]), (4, .agg #[.int .u8 31, .int .u32 0])]).run Tryz.prog w = .ok (.slice (some ⟨w.heap.size, 0, none⟩) 5 5) (w.alloc (.cells awakeC 122)) := by kernel_rfl
theorem instrs_new (l : List (Nat × Nat)) (hl : ∀ i ∈ l, i.1 < 256 ∧ i.2 < 4294967296) (hm : l.length ≤ maxLen) (w : World) (t : TypeId) : Instrs (w.alloc (.cells (encI l).toArray t)) (.slice (some ⟨w.heap.size, 0, none⟩) l.length l.length) l :=
  ⟨⟨_, l.length, rfl, encI_length l, Nat.le_refl _, hm, (fun h => by cases h), fun _ => ⟨w.heap.size, 0, rfl, by simp, fun j hj => by simp [go_sem]⟩⟩, hl⟩
set_option maxRecDepth 100000 in
set_option maxHeartbeats 2000000 in
theorem awake_any (w : World) : Calls Tryz.prog 59 #[] w fun e w' => e = .returned (.bool true) ∧ Below w.heap.size w w' := by
  have hb := awake_build
  have HI := Lib.hid (show Instrs (w.alloc (.cells awakeC 122)) (.slice (some ⟨w.heap.size, 0, none⟩) 5 5) awakeL from instrs_new awakeL (by decide) (by decide) w 122)
  have hL1 := longest_any (.slice (some ⟨w.heap.size, 0, none⟩) 5 5) awakeL 0 5 (by decide) (by decide) (w.alloc (.cells awakeC 122)) HI.out
  have hL2 := fun W hW => longest_any (.slice (some ⟨w.heap.size, 0, none⟩) 5 5) awakeL 4 5 (by decide) (by decide) W hW
  rw [awake1] at hL1
  rw [awake2] at hL2
  have HL1 := Lib.hid hL1
  have HL2 := Lib.hid hL2
  clear hL1 hL2
  go_enter Tryz.func59, Tryz.ntmps59
  go_wp2_with fail
  refine HL1.out.mono ?_
  rintro x w1 ⟨rfl, hb1⟩
  have hs1 := Bel.lt hb1
  have Hb1 := Lib.hid hb1
  clear hb1 HL1
  go_wp2_with fail
  have HIW := Lib.hid ((HI.out.below Hb1.out).below (Bel.new w1 (.cells #[.int .u32 0, .int .u32 4, .int .u8 2, .int .u32 4294967290] 119)))
  refine (HL2.out _ HIW.out).mono ?_
  rintro x w2 ⟨rfl, hb2⟩
  have hg2 := hb2.block w1.heap.size (by simp)
  rw [heap_alloc_new] at hg2
  have Hg2 := Lib.hid hg2
  have HB2 := Lib.hid (Bel.tr (Bel.al (Bel.of Hb1.out) _) hb2)
  have Hs1 := Lib.hid hs1
  clear hb2 hg2 hs1
  generalize w1.heap.size = g at *
  go_wp2_with ((with_reducible refine wpList_store_row (o := ⟨none, .store 119 (.tmp 2) (.tmp 25), _, _, _, none⟩) rfl 119 _ _ rfl g #[.int .u32 4, .int .u32 1, .int .u8 1, .int .u32 0] ?_ ?_ 119 _ Hg2.out (size27 _ _ _ _) ?_ (one27 _ _ _ _) ?_); rfl; rfl; rfl; obtain ⟨z0, z1, z2, z3⟩ := cells27 (setRow_heap _ _ _ #[Value.int .u32 4, .int .u32 1, .int .u8 1, .int .u32 0] _ _ Hg2.out))
  go_ret
  exact ⟨rfl, below_setRow HB2.out g (Nat.le_of_lt Hs1.out) _⟩
end Go.Proofs.YtgpicmiaanapkaaGreat
/- The law FoldCovers: its walk. -/
namespace Go.Proofs.YtgpicmiaanapkaaGreat
open Go.RowKit
set_option linter.unusedVariables false
/-- What a piece's place does not hold: no jump's target, no goto's or comparison's. -/
theorem lead_no {m : Img} (hk : TakeOk m) {q : Nat} (hq : leadB m.code m.js q = false) :
    (∀ j, j < m.js.length → m.js.getD j 0 ≠ q) ∧ ∀ j, j < m.code.length → (m.code.getD j (0, 0)).1 = 6 ∨ (13 ≤ (m.code.getD j (0, 0)).1 ∧ (m.code.getD j (0, 0)).1 ≤ 28) → (m.code.getD j (0, 0)).2 ≠ q := by
  have hf : FindOk m.code m.js [] := ⟨hk.f.he, hk.f.h3, hk.f.hall, hk.f.hg, fun j hj => absurd hj (Nat.not_lt_zero j)⟩
  refine ⟨fun j hj e => ?_, fun j hj ho e => ?_⟩
  · have := leadB_jump (code := m.code) hj (Nat.le_of_lt (hf.jumps j hj).1)
    rw [e, hq] at this; cases this
  · have hkd : kindOf (m.code.getD j (0, 0)).1 = 2 ∨ kindOf (m.code.getD j (0, 0)).1 = 3 := by
      have : ∀ o < 60, (o = 6 → kindOf o = 3) ∧ (13 ≤ o → o ≤ 28 → kindOf o = 2) := by decide +kernel
      rcases ho with h6 | ⟨h1, h2⟩
      · exact .inr ((this _ (by omega)).1 h6)
      · exact .inl ((this _ (by omega)).2 h1 h2)
    have := leadB_aim m.js hj hkd (Nat.le_of_lt (hf.target j hj (by omega)).1)
    rw [e, hq] at this; cases this
theorem inRow_ops {o : Nat} (h : inRow o = true) : o = 1 ∨ (8 ≤ o ∧ o ≤ 11) ∨ 36 ≤ o := by
  simp only [inRow, Bool.or_eq_true, beq_iff_eq, decide_eq_true_eq] at h
  omega
theorem isBr_ops {o : Nat} (h : isBr o = true) : 13 ≤ o ∧ o ≤ 28 := by
  simpa [isBr] using h
theorem Instrs.opened_at {w : World} {a : Option Addr} {n c : Nat} {l : List (Nat × Nat)} (h : Instrs w (.slice a n c) l) (h0 : 0 < l.length) : ∃ b off, a = some ⟨b, off, none⟩ ∧ b < w.heap.size ∧
    ∀ k, k < l.length → w.cell? ⟨b, off + k * 2, none⟩ = some (.int .u8 (l.getD k (0, 0)).1) ∧ w.cell? ⟨b, off + k * 2 + 1, none⟩ = some (.int .u32 (l.getD k (0, 0)).2) := by
  obtain ⟨a', cap, e, -, -, -, hp⟩ := h.opened
  cases e
  exact hp h0
set_option maxRecDepth 100000 in
set_option maxHeartbeats 8000000 in
theorem foldCovers_walk (vc vj vd vn : Value) (m : Img) (w : World) (h : ImgAt w vc vj vd vn m) (hsz : m.Sized) :
    Calls Tryz.prog 11 #[.agg #[vc, vj, vd, .int .u32 m.zero, .int .u32 m.stack, vn]] w fun e w' => e = .returned (.bool true) ∧ Below w.heap.size w w' := by
  obtain ⟨W0, hW0⟩ : ∃ W0, W0 = w.alloc (.cells #[vc, vj, vd, .int .u32 m.zero, .int .u32 m.stack, vn] 28) := ⟨_, rfl⟩
  have hb0 : Below w.heap.size w W0 := by rw [hW0]; exact Bel.new _ _
  have HI0 := Lib.hid (h.below hb0)
  have HCp := Lib.hid (copiedR_any vc vj vd vn m W0 HI0.out hsz)
  obtain ⟨ac, cc, rfl, hcc, hcm, -, -⟩ := h.c.opened
  obtain ⟨aj, cj, rfl, -⟩ := h.j.1
  obtain ⟨ad, cd, rfl, -⟩ := h.d.1
  obtain ⟨an, cn, rfl, -⟩ := h.n.1
  have K0 : Hid (W0.cell? ⟨w.heap.size, 0, none⟩ = some (.slice ac m.code.length cc) ∧ W0.cell? ⟨w.heap.size, 1, none⟩ = some (.slice aj m.js.length cj)) := Lib.hid (by
    obtain ⟨x0, x1, -⟩ := cells_new6 w (.slice ac m.code.length cc) (.slice aj m.js.length cj) (.slice ad m.data.length cd) (.int .u32 m.zero) (.int .u32 m.stack) (.slice an m.lx.length cn) 28
    rw [hW0]; exact ⟨x0, x1⟩)
  have hs0 : w.heap.size < W0.heap.size := by rw [hW0]; simp
  have HB0 := Lib.hid hb0
  clear h hsz hb0 hcm
  go_enter Tryz.func11, Tryz.ntmps11
  go_wp2_with fail
  rw [← hW0]
  clear hW0
  refine HCp.out.mono ?_
  rintro e w1 ⟨uc, uj, ud, un, rfl, hio, hb1⟩
  have HI1 := Lib.hid ((hio.at HI0.out).below (Below.refl _ _))
  obtain ⟨a1, n1, rfl, -⟩ := own_sl hio.c
  obtain ⟨a2, n2, rfl, -⟩ := own_sl hio.j
  obtain ⟨a3, n3, rfl, -⟩ := own_sl hio.d
  obtain ⟨a4, n4, rfl, -⟩ := own_sl hio.n
  have HTk := Lib.hid (takeV_any _ _ _ _ m w1 HI1.out)
  have HB1 := Lib.hid (Bel.tr HB0.out hb1)
  have HJ1 := Lib.hid (HI0.out.below hb1)
  have hs1 : w.heap.size < w1.heap.size := Nat.lt_of_lt_of_le hs0 hb1.size
  have K1 : Hid (w1.cell? ⟨w.heap.size, 0, none⟩ = some (.slice ac m.code.length cc) ∧ w1.cell? ⟨w.heap.size, 1, none⟩ = some (.slice aj m.js.length cj)) :=
    Lib.hid ⟨(hb1.cell (p := ⟨w.heap.size, 0, none⟩) hs0).trans K0.out.1, (hb1.cell (p := ⟨w.heap.size, 1, none⟩) hs0).trans K0.out.2⟩
  clear hio hb1 HCp K0 HB0
  go_wp2_with fail
  refine HTk.out.mono ?_
  rintro e w2 ⟨hb2, ⟨x, c, rfl, hbad⟩ | ⟨mb, rfl, hok, hmod⟩⟩
  · have HB2 := Lib.hid (Bel.tr HB1.out hb2)
    have HAw := Lib.hid (awake_any w2)
    clear hb2 hbad
    go_wp2_with fail
    refine HAw.out.mono ?_
    rintro e w3 ⟨rfl, hb3⟩
    have HB3 := Lib.hid (Bel.tr HB2.out hb3)
    clear hb3
    go_wp2_with fail
    go_ret
    exact ⟨rfl, HB3.out⟩
  have HB2 := Lib.hid (Bel.tr HB1.out hb2)
  have HPc := Lib.hid (pieces_any mb m _ w2 hok hmod w1 _ _ _ _ HI1.out)
  have hs2 : w.heap.size < w2.heap.size := Nat.lt_of_lt_of_le hs1 hb2.size
  have K2 : Hid (w2.cell? ⟨w.heap.size, 0, none⟩ = some (.slice ac m.code.length cc) ∧ w2.cell? ⟨w.heap.size, 1, none⟩ = some (.slice aj m.js.length cj)) :=
    Lib.hid ⟨(hb2.cell (p := ⟨w.heap.size, 0, none⟩) hs1).trans K1.out.1, (hb2.cell (p := ⟨w.heap.size, 1, none⟩) hs1).trans K1.out.2⟩
  have HOk := Lib.hid hok
  have HJ2 := Lib.hid (HJ1.out.below hb2)
  have hn16 : m.code.length ≤ 16384 := (checkI_ok hok.k).1
  clear hb2 hmod hok HTk K1
  go_wp2_with fail
  refine HPc.out.mono ?_
  rintro e w3 ⟨v, l, rfl, hol, hpcs, hb3⟩
  have HB3 := Lib.hid (Bel.tr HB2.out hb3)
  have hs3 : w.heap.size < w3.heap.size := Nat.lt_of_lt_of_le hs2 hb3.size
  have K3 : Hid (w3.cell? ⟨w.heap.size, 0, none⟩ = some (.slice ac m.code.length cc) ∧ w3.cell? ⟨w.heap.size, 1, none⟩ = some (.slice aj m.js.length cj)) :=
    Lib.hid ⟨(hb3.cell (p := ⟨w.heap.size, 0, none⟩) hs2).trans K2.out.1, (hb3.cell (p := ⟨w.heap.size, 1, none⟩) hs2).trans K2.out.2⟩
  have HJ3 := Lib.hid (HJ2.out.below hb3)
  have Hend := Lib.hid hpcs.end_
  have Hpp := Lib.hid hpcs.piece
  obtain ⟨al, cl, rfl, hlc, hlm, hpl⟩ := own_sl hol
  have hlm2 : l.length ≤ 9223372036854775807 := by unfold maxLen at hlm; omega
  have Hpl := Lib.hid hpl
  clear hb3 hol hpcs hpl hlm K2 HPc
  go_wp2_with fail
  go_loopw [8, 9] (fun x i wr => ∃ k : Nat, k ≤ l.length ∧ i = .int .i64 k ∧ x = .int .i64 (lenSum (l.take k)) ∧ Below w3.heap.size w3 wr) (fun _ i _ => l.length - (intOf i).toNat)
  case atStart => exact ⟨0, by omega, rfl, rfl, Below.refl _ _⟩
  case round =>
    obtain ⟨k, hk, rfl, rfl, hbr⟩ := hrel
    obtain ⟨wo, rfl⟩ : ∃ wo : World, wo = wr := ⟨_, rfl⟩
    have HBr := Lib.hid hbr
    have hso : w.heap.size < wo.heap.size := Nat.lt_of_lt_of_le hs3 hbr.size
    have c0 := (hbr.cell (p := ⟨w.heap.size, 0, none⟩) hs3).trans K3.out.1
    have hsn : wo.heap.size ≠ w.heap.size := by omega
    clear hbr
    by_cases hlt : k < l.length
    · have hpo := Hpp.out k hlt
      rw [Nat.zero_add] at hpo
      have HS := Lib.hid (lenSum_succ hlt)
      obtain ⟨g, rfl, hg, hc⟩ := Hpl.out (by omega)
      obtain ⟨q0, q1, q2, q3⟩ := encPc_at l k hlt
      have hl4 := encPc_length l
      have r0 := ((HBr.out.cell (p := ⟨g, k * 4, none⟩) hg).trans (hc (k * 4) (by omega))).trans q0
      have r1 := ((HBr.out.cell (p := ⟨g, k * 4 + 1, none⟩) hg).trans (hc (k * 4 + 1) (by omega))).trans q1
      have r2 := ((HBr.out.cell (p := ⟨g, k * 4 + 2, none⟩) hg).trans (hc (k * 4 + 2) (by omega))).trans q2
      have r3 := ((HBr.out.cell (p := ⟨g, k * 4 + 3, none⟩) hg).trans (hc (k * 4 + 3) (by omega))).trans q3
      have hgo := Nat.lt_of_lt_of_le hg HBr.out.size
      have hgn : wo.heap.size ≠ g := by omega
      obtain ⟨p1, p2, p3, p4, p5, p6, p7⟩ := hpo
      generalize l.getD k (0, 0, 0, 0) = P at *
      obtain ⟨A, L, K, V⟩ := P
      simp only at r0 r1 r2 r3 p1 p2 p3 p4 p5 p6 p7 HS
      generalize hbb : lenSum (l.take k) = b at *
      have Hbb := Lib.hid hbb
      subst p1
      have P6 := Lib.hid p6
      have P7 := Lib.hid p7
      have hki : (k : Int) < (l.length : Int) := by omega
      have hk0 : (0 : Int) ≤ (k : Int) := by omega
      have t1 : ((L : Int) == 0) = false := by simp; omega
      have t2 : (1 : Int) ≤ (K : Int) := by omega
      have t3 : (K : Int) ≤ 4 := by omega
      have t4 : (A : Int) + (L : Int) ≤ (m.code.length : Int) := by omega
      have hLL : (L = 1 ∧ K = 1) ∨ (L ≠ 1 ∧ K ≠ 1) := by omega
      obtain ⟨Wp, hWp⟩ : ∃ Wp, Wp = wo.alloc (.cells #[.int .u32 A, .int .u32 L, .int .u8 K, .int .u32 V] 119) := ⟨_, rfl⟩
      have HBp : Hid (Below wo.heap.size wo Wp) := Lib.hid (by rw [hWp]; exact Bel.new _ _)
      have HHp : Hid (Wp.heap[wo.heap.size]? = some (.cells #[.int .u32 A, .int .u32 L, .int .u8 K, .int .u32 V] 119 (0, 0))) := Lib.hid (by rw [hWp]; exact heap_alloc_new _ _)
      have hsp : wo.heap.size < Wp.heap.size := by rw [hWp]; simp
      clear q0 q1 q2 q3 hc hl4 p4 p5 p6 p7 hbb
      rcases hLL with ⟨rfl, rfl⟩ | ⟨hL, hK⟩
      · have hWp' : Wp = wo.alloc (.cells #[.int .u32 A, .int .u32 1, .int .u8 1, .int .u32 V] 119) := hWp
        have HHp' : Hid (Wp.heap[wo.heap.size]? = some (.cells #[.int .u32 A, .int .u32 1, .int .u8 1, .int .u32 V] 119 (0, 0))) := HHp
        have t4' : (A : Int) + 1 ≤ (m.code.length : Int) := t4
        clear hWp HHp t4
        go_wp2_with fail
        rw [← hWp']
        clear hWp' r0 r1 r2 r3 c0
        go_loopw [11] (fun x wr => ∃ q : Nat, A ≤ q ∧ q ≤ A + 1 ∧ x = .int .i64 q ∧ Below Wp.heap.size Wp wr) (fun x _ => A + 1 - (intOf x).toNat)
        case atStart => exact ⟨A, Nat.le_refl _, by omega, rfl, Below.refl _ _⟩
        case round =>
          obtain ⟨q, hq1, hq2, rfl, hb5⟩ := hrel
          have HB5 := Lib.hid hb5
          have hh5 := (hb5.block wo.heap.size hsp).trans HHp'.out
          obtain ⟨y0, y1, y2, y3⟩ := cells27 hh5
          have HB35 := Lib.hid (Bel.tr (Bel.tr HBr.out HBp.out) hb5)
          have d0 := (HB35.out.cell (p := ⟨w.heap.size, 0, none⟩) hs3).trans K3.out.1
          have d1 := (HB35.out.cell (p := ⟨w.heap.size, 1, none⟩) hs3).trans K3.out.2
          have hs5 : w.heap.size < wr.heap.size := Nat.lt_of_lt_of_le hs3 HB35.out.size
          have hs6 : wo.heap.size < wr.heap.size := Nat.lt_of_lt_of_le hsp hb5.size
          have hn5 : wr.heap.size ≠ w.heap.size := by omega
          have hn6 : wr.heap.size ≠ wo.heap.size := by omega
          clear hb5 hh5
          by_cases hlt2 : q < A + 1
          · obtain ⟨b, off, e0, hbl, hcc⟩ := HJ3.out.c.opened_at (by omega)
            obtain rfl := e0
            obtain ⟨q0', q1'⟩ := hcc q (by omega)
            have q0 := (HB35.out.cell (p := ⟨b, off + q * 2, none⟩) hbl).trans q0'
            have q1 := (HB35.out.cell (p := ⟨b, off + q * 2 + 1, none⟩) hbl).trans q1'
            have hqi : (q : Int) < (m.code.length : Int) := by omega
            have hqj : (q : Int) < (A : Int) + 1 := by omega
            have hqk : (0 : Int) ≤ (q : Int) := by omega
            have hb7 : b < wr.heap.size := by have := HB35.out.size; omega
            have hb8 : wr.heap.size ≠ b := by omega
            clear q0' q1' hcc
            obtain rfl : q = A := by omega
            generalize m.code.getD q (0, 0) = ins at *
            obtain ⟨o, x⟩ := ins
            simp only at q0 q1
            go_wp2_with fail
            all_goals
              go_roundw
              case rel => exact ⟨q + 1, by omega, by omega, by go_num, Bel.al HB5.out _⟩
              case measure => simp [intOf] <;> omega
          · obtain rfl : q = A + 1 := by omega
            go_wp2_with fail
            go_roundw
            case rel => exact ⟨k + 1, by omega, by go_num, by rw [HS.out]; go_num, (HBr.out.trans ((HBp.out.trans (HB5.out.mono (Nat.le_of_lt hsp))).mono HBr.out.size))⟩
            case measure => simp [intOf]; omega
      · have hWp' := hWp
        have HHp' := HHp
        have t5 : ((L : Int) == 1) = false := by simp; omega
        have t6 : ((K : Int) == 1) = false := by simp; omega
        have t7 : (1 : Int) < (L : Int) := by omega
        clear hWp HHp
        go_wp2_with fail
        rw [← hWp']
        clear hWp' r0 r1 r2 r3 c0
        go_loopw [11] (fun x wr => ∃ q : Nat, A ≤ q ∧ q ≤ A + L ∧ x = .int .i64 q ∧ Below Wp.heap.size Wp wr) (fun x _ => A + L - (intOf x).toNat)
        case atStart => exact ⟨A, Nat.le_refl _, by omega, rfl, Below.refl _ _⟩
        case round =>
          obtain ⟨q, hq1, hq2, rfl, hb5⟩ := hrel
          have HB5 := Lib.hid hb5
          have hh5 := (hb5.block wo.heap.size hsp).trans HHp'.out
          obtain ⟨y0, y1, y2, y3⟩ := cells27 hh5
          have HB35 := Lib.hid (Bel.tr (Bel.tr HBr.out HBp.out) hb5)
          have d0 := (HB35.out.cell (p := ⟨w.heap.size, 0, none⟩) hs3).trans K3.out.1
          have d1 := (HB35.out.cell (p := ⟨w.heap.size, 1, none⟩) hs3).trans K3.out.2
          have hs5 : w.heap.size < wr.heap.size := Nat.lt_of_lt_of_le hs3 HB35.out.size
          have hs6 : wo.heap.size < wr.heap.size := Nat.lt_of_lt_of_le hsp hb5.size
          have hn5 : wr.heap.size ≠ w.heap.size := by omega
          have hn6 : wr.heap.size ≠ wo.heap.size := by omega
          clear hb5 hh5
          by_cases hlt2 : q < A + L
          · obtain ⟨b, off, e0, hbl, hcc⟩ := HJ3.out.c.opened_at (by omega)
            obtain rfl := e0
            obtain ⟨q0', q1'⟩ := hcc q (by omega)
            have q0 := (HB35.out.cell (p := ⟨b, off + q * 2, none⟩) hbl).trans q0'
            have q1 := (HB35.out.cell (p := ⟨b, off + q * 2 + 1, none⟩) hbl).trans q1'
            have hqi : (q : Int) < (m.code.length : Int) := by omega
            have hqj : (q : Int) < (A : Int) + (L : Int) := by omega
            have hqk : (0 : Int) ≤ (q : Int) := by omega
            have hb7 : b < wr.heap.size := by have := HB35.out.size; omega
            have hb8 : wr.heap.size ≠ b := by omega
            clear q0' q1' hcc
            have hop := P6.out (by omega) q hq1 hlt2
            have Hld := Lib.hid (fun (h : A < q) => lead_no HOk.out (P7.out q h hlt2))
            have HJ5 := Lib.hid (HJ3.out.below HB35.out)
            generalize m.code.getD q (0, 0) = ins at q0 q1 hop
            obtain ⟨o, x⟩ := ins
            simp only at q0 q1 hop
            have hop2 : (o < 13 ∧ ¬ (2 ≤ o ∧ o ≤ 7)) ∨ 28 < o ∨ (13 ≤ o ∧ o ≤ 28 ∧ q + 1 = A + L) := by
              rcases hop with h1 | ⟨h1, h2⟩
              · have := inRow_ops h1; omega
              · have := isBr_ops h1; omega
            clear hop
            have o3 : ((o : Int) == 3) = false := by simp; omega
            have o5 : ((o : Int) == 5) = false := by simp; omega
            have o4 : ((o : Int) == 4) = false := by simp; omega
            have o6 : ((o : Int) == 6) = false := by simp; omega
            have o7 : ((o : Int) == 7) = false := by simp; omega
            have o2 : ((o : Int) == 2) = false := by simp; omega
            have HJq := Lib.hid (HJ5.out.below (Bel.new wr (.cells #[.int .u8 o, .int .u32 x] 122)))
            by_cases hqA : q = A
            · subst hqA
              clear Hld
              rcases hop2 with ⟨g1, g2⟩ | g1 | ⟨g1, g2, g3⟩
              · have u1 : (o : Int) < 13 := by omega
                clear g1 g2
                go_wp2_with fail
                go_roundw
                case rel => exact ⟨q + 1, by omega, by omega, by go_num, Bel.al HB5.out _⟩
                case measure => simp [intOf]; omega
              · have u1 : (13 : Int) ≤ (o : Int) := by omega
                have u2 : (28 : Int) < (o : Int) := by omega
                clear g1
                go_wp2_with fail
                go_roundw
                case rel => exact ⟨q + 1, by omega, by omega, by go_num, Bel.al HB5.out _⟩
                case measure => simp [intOf]; omega
              · exfalso; omega
            · have hqA2 : (A : Int) < (q : Int) := by omega
              obtain ⟨n1, n2⟩ := Hld.out (by omega)
              have HLs := Lib.hid (listed_no _ m.js q (by omega) _ HJq.out.j n1)
              have HAm := Lib.hid (aimed_no _ m.code q (by omega) _ HJq.out.c n2)
              clear n1 n2 Hld
              rcases hop2 with ⟨g1, g2⟩ | g1 | ⟨g1, g2, g3⟩
              · have u1 : (o : Int) < 13 := by omega
                clear g1 g2
                go_wp2_with fail
                refine HLs.out.mono ?_
                rintro e w6 ⟨rfl, rfl⟩
                go_wp2_with fail
                refine HAm.out.mono ?_
                rintro e w6 ⟨rfl, rfl⟩
                go_wp2_with fail
                go_roundw
                case rel => exact ⟨q + 1, by omega, by omega, by go_num, Bel.al HB5.out _⟩
                case measure => simp [intOf]; omega
              · have u1 : (13 : Int) ≤ (o : Int) := by omega
                have u2 : (28 : Int) < (o : Int) := by omega
                clear g1
                go_wp2_with fail
                refine HLs.out.mono ?_
                rintro e w6 ⟨rfl, rfl⟩
                go_wp2_with fail
                refine HAm.out.mono ?_
                rintro e w6 ⟨rfl, rfl⟩
                go_wp2_with fail
                go_roundw
                case rel => exact ⟨q + 1, by omega, by omega, by go_num, Bel.al HB5.out _⟩
                case measure => simp [intOf]; omega
              · have u1 : (13 : Int) ≤ (o : Int) := by omega
                have u2 : (o : Int) ≤ 28 := by omega
                have u3 : ((q : Int) != (A : Int) + (L : Int) - 1) = false := by simp; omega
                clear g1 g2 g3
                go_wp2_with fail
                refine HLs.out.mono ?_
                rintro e w6 ⟨rfl, rfl⟩
                go_wp2_with fail
                refine HAm.out.mono ?_
                rintro e w6 ⟨rfl, rfl⟩
                go_wp2_with fail
                go_roundw
                case rel => exact ⟨q + 1, by omega, by omega, by go_num, Bel.al HB5.out _⟩
                case measure => simp [intOf]; omega
          · obtain rfl : q = A + L := by omega
            go_wp2_with fail
            go_roundw
            case rel => exact ⟨k + 1, by omega, by go_num, by rw [HS.out]; go_num, (HBr.out.trans ((HBp.out.trans (HB5.out.mono (Nat.le_of_lt hsp))).mono HBr.out.size))⟩
            case measure => simp [intOf]; omega
    · obtain rfl : k = l.length := by omega
      have he := Hend.out
      rw [Nat.zero_add] at he
      have HAw := Lib.hid (awake_any wo)
      rw [List.take_length, ← he]
      have Hbo := Lib.hid (Bel.tr HB3.out HBr.out)
      clear he
      go_wp2_with fail
      refine HAw.out.mono ?_
      rintro e w4 ⟨rfl, hb4⟩
      have HB4 := Lib.hid (Bel.tr Hbo.out hb4)
      clear hb4
      go_wp2_with fail
      go_ret
      exact ⟨rfl, HB4.out⟩
end Go.Proofs.YtgpicmiaanapkaaGreat
