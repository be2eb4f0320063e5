import Derived.Test.YtofkamnmgpkehabFind
import Derived.ProofKit
import Derived.OpenShut
import Derived.Lib.SmallJoins
import Derived.Deep.Slices
import Derived.Deep.Fields
import Derived.ChangeSame
import Derived.SizedLaws
import Derived.Test.YtofkamnmgpkehabFindM
/- A code with its jumps and names that came in, opened. -/
namespace Go.Proofs.Ytofkamnmgpkehab
open Go.ChangeShapes Go.WideShapes Go.ChangeAt Go.RowKit Go.Joins Go.Deep
section
variable {H : Type} {enc : TypeId × Value → H} {P : Program} {w : World} {base : Nat} {spare : Nat → Bool} {held : Bool}
theorem open_slice_fields {t e : TypeId} {fs : Array Field} {fuel : Nat} {cs : List Value} {x : DataW H × List MemPlace} (ht : P.underlying t = some (.slice e)) (he : P.underlying e = some (.struct fs))
    (hone : oneCellFields P fs = true) (hC : P.cellsOf e = fs.size) (h : DataW.trod enc P w base spare held fuel t cs = some x) :
    (cs = [.slice none 0 0] ∧ x = (.nil, [])) ∨
    ∃ (a : Addr) (len cap m : Nat) (D : Nat → DataW H) (Pl : Nat → List MemPlace), cs = [.slice (some a) len cap] ∧ base ≤ a.block ∧ len ≤ cap ∧ cap ≤ maxLen ∧ m = (if spare a.block then cap else len) ∧
      x = (.slice ((List.range len).map D) ((List.range (m - len)).map fun j => D (len + j)), MemPlace.row a (m * fs.size) ++ (List.range m).flatMap Pl) ∧
      ∀ i, i < m → ∃ (ys : List (DataW H × List MemPlace)) (n : Nat), D i = .agg (ys.map (·.1)) ∧ Pl i = ys.flatMap (·.2) ∧ ys.length = fs.size ∧
        ∀ (j : Nat) (f : Field), fs[j]? = some f → ∃ (v : Value) (y : DataW H × List MemPlace), w.cell? (a.add (i * fs.size + j)) = some v ∧ ys[j]? = some y ∧ DataW.trod enc P w base spare held n f.type [v] = some y := by
  rcases open_slice ht h with h0 | ⟨a, len, cap, m, n, D, Pl, hcs, hb, hl, hm, hmm, hx, hi⟩
  · exact .inl h0
  · refine .inr ⟨a, len, cap, m, D, Pl, hcs, hb, hl, hm, hmm, by rw [hC] at hx; exact hx, fun i him => ?_⟩
    obtain ⟨cs', hc, ht'⟩ := hi i him
    rw [hC] at hc
    obtain ⟨ys, n', hn', hy, hlen, hyl, hf⟩ := DataW.trod_struct he ht'
    obtain ⟨_, hcl, hat⟩ := World.cells?_some hc
    simp only [Prod.mk.injEq] at hy
    refine ⟨ys, n', hy.1, hy.2, hyl, fun j f hj => ?_⟩
    obtain ⟨ho, hk⟩ := hone_of hone j f hj
    have hjl : j < fs.size := (Array.getElem?_eq_some_iff.1 hj).1
    have hcell := hat j hjl
    have hv : cs'[j]? = some (cs'[j]'(by omega)) := List.getElem?_eq_getElem (by omega)
    have h1 := hf j f hj
    rw [ho, hk] at h1
    have hone' : (cs'.drop j).take 1 = [cs'[j]'(by omega)] := by
      rw [List.drop_eq_getElem_cons (by omega)]
      rfl
    rw [hone'] at h1
    have hys : ys[j]? = some (ys[j]'(by omega)) := List.getElem?_eq_getElem (by omega)
    refine ⟨_, _, ?_, hys, h1.trans hys⟩
    rw [← Go.Deep.add_add, hcell, hv]
end
/-- A choice for each number below n. -/
theorem choose_list {α : Type} [Inhabited α] (n : Nat) (R : Nat → α → Prop) (h : ∀ i, i < n → ∃ x, R i x) : ∃ l : List α, l.length = n ∧ ∀ i (hi : i < l.length), R i l[i] := by
  classical
  refine ⟨(List.range n).map fun i => if hi : i < n then (h i hi).choose else default, by simp, fun i hi => ?_⟩
  have hi' : i < n := by simpa using hi
  rw [List.getElem_map, List.getElem_range, dif_pos hi']
  exact (h i hi').choose_spec
theorem encI_get (l : List (Nat × Nat)) (R : Nat → Value → Prop) (h0 : ∀ i (hi : i < l.length), R (i * 2) (.int .u8 (l[i].1 : Nat))) (h1 : ∀ i (hi : i < l.length), R (i * 2 + 1) (.int .u32 (l[i].2 : Nat))) :
    ∀ j, j < (encI l).length → ∃ u, (encI l)[j]? = some u ∧ R j u := by
  intro j hj
  rw [encI_length] at hj
  rcases Nat.mod_two_eq_zero_or_one j with e | e
  · obtain ⟨k, rfl⟩ : ∃ k, j = k * 2 := ⟨j / 2, by omega⟩
    have hk : k < l.length := by omega
    refine ⟨_, encI_op l k hk, ?_⟩
    have := h0 k hk
    rwa [List.getD_eq_getElem?_getD, List.getElem?_eq_getElem hk]
  · obtain ⟨k, rfl⟩ : ∃ k, j = k * 2 + 1 := ⟨j / 2, by omega⟩
    have hk : k < l.length := by omega
    refine ⟨_, encI_arg l k hk, ?_⟩
    have := h1 k hk
    rwa [List.getD_eq_getElem?_getD, List.getElem?_eq_getElem hk]
theorem cells40 : Try.prog.cellsOf 49 = 2 := by kernel_rfl
theorem cells33 : Try.prog.cellsOf 32 = 1 := by kernel_rfl
theorem cells52 : Try.prog.cellsOf 54 = 2 := by kernel_rfl
theorem cells26 : Try.prog.cellsOf 26 = 3 := by kernel_rfl
section
variable {H : Type} {enc : TypeId × Value → H} {w : World} {base : Nat}
theorem open_instrs1 {n : Nat} {v : Value} {x : DataW H × List MemPlace} (hf : DataW.trod enc Try.prog w base (fun _ => true) true n 22 [v] = some x) : ∃ l : List (Nat × Nat), Instrs w v l := by
  rcases open_slice_fields Try.underlying22 Try.underlying49 (by kernel_rfl) cells40 hf with ⟨hcs, _⟩ | ⟨a, len0, cap0, m, D, Pl, hcs, _, hl, hm, hmm, hx, hi⟩
  · simp at hcs
    subst hcs
    exact ⟨[], Reads.nil w 2, fun i hi => by cases hi⟩
  · simp at hcs
    subst hcs
    rw [if_pos rfl] at hmm
    subst hmm
    have key : ∀ i, i < len0 → ∃ q : Nat × Nat, (w.cell? (a.add (i * 2)) = some (.int .u8 (q.1 : Nat)) ∧ w.cell? (a.add (i * 2 + 1)) = some (.int .u32 (q.2 : Nat))) ∧ q.1 < 256 ∧ q.2 < 4294967296 := by
      intro i hil
      obtain ⟨ys, n, _, _, _, hfs⟩ := hi i (by omega)
      obtain ⟨v0, y0, hc0, _, t0⟩ := hfs 0 _ rfl
      obtain ⟨v1, y1, hc1, _, t1⟩ := hfs 1 _ rfl
      obtain ⟨x, e0, _, w0⟩ := DataW.trod_int Try.underlying47 t0
      obtain ⟨y, e1, _, w1⟩ := DataW.trod_int Try.underlying32 t1
      simp at e0 e1
      subst e0 e1
      obtain ⟨o, rfl, ho⟩ := u8_of w0
      obtain ⟨z, rfl, hz⟩ := u32_of w1
      exact ⟨(o, z), ⟨hc0, hc1⟩, ho, hz⟩
    obtain ⟨l, hll, hl2⟩ := choose_list len0 _ key
    refine ⟨l, ⟨some a, m, by rw [hll], encI_length l, by omega, hm, (fun h => by cases h), fun h0 => ?_⟩, fun i hi => ?_⟩
    · obtain ⟨b, off, spot⟩ := a
      have hc := (hl2 0 h0).1.1
      have hspot : spot = none := by simpa [Addr.add] using World.cell?_spot hc
      subst hspot
      refine ⟨b, off, rfl, by simpa [Addr.add] using World.block_lt_of_cell? w _ hc, fun j hj => ?_⟩
      obtain ⟨u, e, hR⟩ := encI_get l (fun j u => w.cell? ((⟨b, off, none⟩ : Addr).add j) = some u) (fun i hi => (hl2 i hi).1.1) (fun i hi => (hl2 i hi).1.2) j hj
      rw [e, ← hR, Addr.add_mid]
    · obtain ⟨k, hk, rfl⟩ := List.mem_iff_getElem.1 hi
      exact (hl2 k hk).2
theorem getD_get {α : Type} (l : List α) (d : α) {k : Nat} (hk : k < l.length) : l.getD k d = l[k] := by
  rw [List.getD_eq_getElem?_getD, List.getElem?_eq_getElem hk]; rfl
theorem getD_lt {l : List Nat} {m : Nat} (h : ∀ i (hi : i < l.length), l[i] < m) (h0 : 0 < m) (k : Nat) : l.getD k 0 < m := by
  by_cases hk : k < l.length
  · rw [getD_get l 0 hk]; exact h k hk
  · rw [List.getD_eq_getElem?_getD, List.getElem?_eq_none (by omega)]; exact h0
theorem open_words1 {n : Nat} {v : Value} {x : DataW H × List MemPlace} (hf : DataW.trod enc Try.prog w base (fun _ => true) true n 23 [v] = some x) : ∃ l : List Nat, RowU w w.heap.size v l := by
  rcases open_ints Try.underlying23 Try.underlying32 cells33 hf with ⟨hcs, _⟩ | ⟨a, len0, cap0, zs, hcs, _, hl, hm, hz, hx, hcell, hwz⟩
  · simp at hcs
    subst hcs
    exact ⟨[], none, 0, rfl, Nat.le_refl _, Nat.zero_le _, fun k => by simp, fun h => absurd h (Nat.lt_irrefl _)⟩
  · simp at hcs
    subst hcs
    rw [if_pos rfl] at hz
    have key : ∀ i, i < len0 → ∃ q : Nat, w.cell? (a.add i) = some (.int .u32 (q : Nat)) ∧ q < 4294967296 := by
      intro i hil
      have hiz : i < zs.length := by omega
      have hc := hcell i hiz
      rw [List.getD_eq_getElem?_getD, List.getElem?_eq_getElem hiz] at hc
      obtain ⟨o, ho, hlt⟩ := u32_of (hwz _ (List.getElem_mem hiz))
      simp only [Option.getD_some] at hc
      rw [ho] at hc
      exact ⟨o, hc, hlt⟩
    obtain ⟨l, hll, hl2⟩ := choose_list len0 _ key
    refine ⟨l, some a, cap0, by rw [hll], by omega, hm, getD_lt (fun i hi => (hl2 i hi).2) (by decide), fun h0 => ?_⟩
    obtain ⟨b, off, spot⟩ := a
    have hc := (hl2 0 h0).1
    have hspot : spot = none := by simpa [Addr.add] using World.cell?_spot hc
    subst hspot
    refine ⟨b, off, rfl, by simpa [Addr.add] using World.block_lt_of_cell? w _ hc, fun k hk => ?_⟩
    have hR := (hl2 k hk).1
    rw [Addr.add_mid] at hR
    rw [hR, getD_get l 0 hk]
theorem open_names1 {n : Nat} {v : Value} {x : DataW H × List MemPlace} (hf : DataW.trod enc Try.prog w base (fun _ => true) true n 24 [v] = some x) : ∃ l : List Nat, NamesU w w.heap.size v l := by
  rcases open_slice_fields Try.underlying24 Try.underlying54 (by kernel_rfl) cells52 hf with ⟨hcs, _⟩ | ⟨a, len0, cap0, m, D, Pl, hcs, _, hl, hm, hmm, hx, hi⟩
  · simp at hcs
    subst hcs
    exact ⟨[], none, 0, rfl, Nat.le_refl _, Nat.zero_le _, fun k => by simp, fun h => absurd h (Nat.lt_irrefl _)⟩
  · simp at hcs
    subst hcs
    rw [if_pos rfl] at hmm
    subst hmm
    have key : ∀ i, i < len0 → ∃ q : Nat, ((∃ s, w.cell? (a.add (i * 2)) = some (.string s)) ∧ w.cell? (a.add (i * 2 + 1)) = some (.int .u32 (q : Nat))) ∧ q < 4294967296 := by
      intro i hil
      obtain ⟨ys, n, _, _, _, hfs⟩ := hi i (by omega)
      obtain ⟨v0, y0, hc0, _, t0⟩ := hfs 0 _ rfl
      obtain ⟨v1, y1, hc1, _, t1⟩ := hfs 1 _ rfl
      obtain ⟨s, e0, _, _⟩ := DataW.trod_string Try.underlying9 t0
      obtain ⟨y, e1, _, w1⟩ := DataW.trod_int Try.underlying32 t1
      simp at e0 e1
      subst e0 e1
      obtain ⟨z, rfl, hz⟩ := u32_of w1
      exact ⟨z, ⟨⟨s, hc0⟩, hc1⟩, hz⟩
    obtain ⟨l, hll, hl2⟩ := choose_list len0 _ key
    refine ⟨l, some a, m, by rw [hll], by omega, hm, getD_lt (fun i hi => (hl2 i hi).2) (by decide), fun h0 => ?_⟩
    obtain ⟨b, off, spot⟩ := a
    obtain ⟨s0, hc⟩ := (hl2 0 h0).1.1
    have hspot : spot = none := by simpa [Addr.add] using World.cell?_spot hc
    subst hspot
    refine ⟨b, off, rfl, by simpa [Addr.add] using World.block_lt_of_cell? w _ hc, fun k hk => ?_⟩
    obtain ⟨⟨s, h1⟩, h2⟩ := (hl2 k hk).1
    rw [Addr.add_mid] at h1 h2
    exact ⟨s, h1, by rw [← Nat.add_assoc] at h2; rw [h2, getD_get l 0 hk]⟩
set_option maxRecDepth 100000 in
theorem open_code {r : Reach} {b0 : Nat} {v : Value} {d : DataW H} {p : List MemPlace} (hv : Value.okWide Try.prog w r b0 26 v) (h : DataW.Trod enc Try.prog w base (fun _ => true) true 26 v d p) :
    ∃ (vc vj vn : Value) (code : List (Nat × Nat)) (js ats : List Nat), v = .agg #[vc, vj, vn] ∧ Instrs w vc code ∧ RowU w w.heap.size vj js ∧ NamesU w w.heap.size vn ats := by
  obtain ⟨v0, v1, v2, y0, y1, y2, n, rfl, _, _, h0, h1, h2⟩ := open_agg3 Try.underlying26 (by kernel_rfl) cells26 hv h
  obtain ⟨code, hc⟩ := open_instrs1 h0
  obtain ⟨js, hj⟩ := open_words1 h1
  obtain ⟨ats, hn⟩ := open_names1 h2
  exact ⟨v0, v1, v2, code, js, ats, rfl, hc, hj, hn⟩
end
end Go.Proofs.Ytofkamnmgpkehab
/- What came in, opened, with its sizes. -/
namespace Go.Proofs.Ytofkamnmgpkehab
open Go.ChangeShapes Go.WideShapes Go.ChangeAt Go.RowKit Go.Joins Go.Deep
section
variable {H : Type} {enc : TypeId × Value → H} {w : World} {base : Nat}
theorem open_instrs2 {n : Nat} {v : Value} {x : DataW H × List MemPlace} (hf : DataW.trod enc Try.prog w base (fun _ => true) true n 22 [v] = some x) (hz : ∀ els sp, x.1 = .slice els sp → (els.length + sp.length) * 8 ≤ 140737488351232) : ∃ l : List (Nat × Nat), Instrs w v l ∧ l.length * 8 ≤ 140737488351232 := by
  rcases open_slice_fields Try.underlying22 Try.underlying49 (by kernel_rfl) cells40 hf with ⟨hcs, _⟩ | ⟨a, len0, cap0, m, D, Pl, hcs, _, hl, hm, hmm, hx, hi⟩
  · simp at hcs
    subst hcs
    exact ⟨[], ⟨Reads.nil w 2, fun i hi => by cases hi⟩, by simp⟩
  · simp at hcs
    subst hcs
    rw [if_pos rfl] at hmm
    subst hmm
    have key : ∀ i, i < len0 → ∃ q : Nat × Nat, (w.cell? (a.add (i * 2)) = some (.int .u8 (q.1 : Nat)) ∧ w.cell? (a.add (i * 2 + 1)) = some (.int .u32 (q.2 : Nat))) ∧ q.1 < 256 ∧ q.2 < 4294967296 := by
      intro i hil
      obtain ⟨ys, n, _, _, _, hfs⟩ := hi i (by omega)
      obtain ⟨v0, y0, hc0, _, t0⟩ := hfs 0 _ rfl
      obtain ⟨v1, y1, hc1, _, t1⟩ := hfs 1 _ rfl
      obtain ⟨x, e0, _, w0⟩ := DataW.trod_int Try.underlying47 t0
      obtain ⟨y, e1, _, w1⟩ := DataW.trod_int Try.underlying32 t1
      simp at e0 e1
      subst e0 e1
      obtain ⟨o, rfl, ho⟩ := u8_of w0
      obtain ⟨z, rfl, hz⟩ := u32_of w1
      exact ⟨(o, z), ⟨hc0, hc1⟩, ho, hz⟩
    obtain ⟨l, hll, hl2⟩ := choose_list len0 _ key
    have hzz := hz _ _ (by rw [hx])
    simp only [List.length_map, List.length_range] at hzz
    refine ⟨l, ⟨⟨some a, m, by rw [hll], encI_length l, by omega, hm, (fun h => by cases h), fun h0 => ?_⟩, fun i hi => ?_⟩, by rw [hll]; omega⟩
    · obtain ⟨b, off, spot⟩ := a
      have hc := (hl2 0 h0).1.1
      have hspot : spot = none := by simpa [Addr.add] using World.cell?_spot hc
      subst hspot
      refine ⟨b, off, rfl, by simpa [Addr.add] using World.block_lt_of_cell? w _ hc, fun j hj => ?_⟩
      obtain ⟨u, e, hR⟩ := encI_get l (fun j u => w.cell? ((⟨b, off, none⟩ : Addr).add j) = some u) (fun i hi => (hl2 i hi).1.1) (fun i hi => (hl2 i hi).1.2) j hj
      rw [e, ← hR, Addr.add_mid]
    · obtain ⟨k, hk, rfl⟩ := List.mem_iff_getElem.1 hi
      exact (hl2 k hk).2
theorem open_words2 {n : Nat} {v : Value} {x : DataW H × List MemPlace} (hf : DataW.trod enc Try.prog w base (fun _ => true) true n 23 [v] = some x) (hz : ∀ els sp, x.1 = .slice els sp → (els.length + sp.length) * 4 ≤ 140737488351232) : ∃ l : List Nat, Words w v l ∧ l.length * 4 ≤ 140737488351232 := by
  rcases open_ints Try.underlying23 Try.underlying32 cells33 hf with ⟨hcs, _⟩ | ⟨a, len0, cap0, zs, hcs, _, hl, hm, hzl, hx, hcell, hwz⟩
  · simp at hcs
    subst hcs
    exact ⟨[], ⟨Reads.nil w 1, fun k => by simp⟩, by simp⟩
  · simp at hcs
    subst hcs
    rw [if_pos rfl] at hzl
    have key : ∀ i, i < len0 → ∃ q : Nat, w.cell? (a.add i) = some (.int .u32 (q : Nat)) ∧ q < 4294967296 := by
      intro i hil
      have hiz : i < zs.length := by omega
      have hc := hcell i hiz
      rw [List.getD_eq_getElem?_getD, List.getElem?_eq_getElem hiz] at hc
      obtain ⟨o, ho, hlt⟩ := u32_of (hwz _ (List.getElem_mem hiz))
      simp only [Option.getD_some] at hc
      rw [ho] at hc
      exact ⟨o, hc, hlt⟩
    obtain ⟨l, hll, hl2⟩ := choose_list len0 _ key
    have hzz : len0 * 4 ≤ 140737488351232 := by
      have hzz := hz _ _ (by rw [hx])
      have hl1 : (lits (H := H) IntKind.u32 (List.take len0 zs)).length = (List.take len0 zs).length := by simp [lits]
      rw [hl1, List.length_take] at hzz
      omega
    refine ⟨l, ⟨⟨some a, cap0, by rw [hll], by rw [encN_length, Nat.mul_one], by omega, hm, (fun h => by cases h), fun h0 => ?_⟩, getD_lt (fun i hi => (hl2 i hi).2) (by decide)⟩, by rw [hll]; exact hzz⟩
    obtain ⟨b, off, spot⟩ := a
    have hc := (hl2 0 h0).1
    have hspot : spot = none := by simpa [Addr.add] using World.cell?_spot hc
    subst hspot
    refine ⟨b, off, rfl, by simpa [Addr.add] using World.block_lt_of_cell? w _ hc, fun k hk => ?_⟩
    rw [encN_length] at hk
    have hR := (hl2 k hk).1
    rw [Addr.add_mid] at hR
    rw [hR, encN_at _ l k hk, getD_get l 0 hk]
theorem open_names2 {n : Nat} {v : Value} {x : DataW H × List MemPlace} (hf : DataW.trod enc Try.prog w base (fun _ => true) true n 24 [v] = some x) (hz : ∀ els sp, x.1 = .slice els sp → (els.length + sp.length) * 24 ≤ 140737488351232) : ∃ l : List (ByteArray × Nat), Texts w v l ∧ l.length * 24 ≤ 140737488351232 := by
  rcases open_slice_fields Try.underlying24 Try.underlying54 (by kernel_rfl) cells52 hf with ⟨hcs, _⟩ | ⟨a, len0, cap0, m, D, Pl, hcs, _, hl, hm, hmm, hx, hi⟩
  · simp at hcs
    subst hcs
    exact ⟨[], ⟨Reads.nil w 2, fun k => by simp⟩, by simp⟩
  · simp at hcs
    subst hcs
    rw [if_pos rfl] at hmm
    subst hmm
    have key : ∀ i, i < len0 → ∃ q : ByteArray × Nat, (w.cell? (a.add (i * 2)) = some (.string q.1) ∧ w.cell? (a.add (i * 2 + 1)) = some (.int .u32 (q.2 : Nat))) ∧ q.2 < 4294967296 := by
      intro i hil
      obtain ⟨ys, n, _, _, _, hfs⟩ := hi i (by omega)
      obtain ⟨v0, y0, hc0, _, t0⟩ := hfs 0 _ rfl
      obtain ⟨v1, y1, hc1, _, t1⟩ := hfs 1 _ rfl
      obtain ⟨s, e0, _, _⟩ := DataW.trod_string Try.underlying9 t0
      obtain ⟨y, e1, _, w1⟩ := DataW.trod_int Try.underlying32 t1
      simp at e0 e1
      subst e0 e1
      obtain ⟨z, rfl, hz⟩ := u32_of w1
      exact ⟨(s, z), ⟨hc0, hc1⟩, hz⟩
    obtain ⟨l, hll, hl2⟩ := choose_list len0 _ key
    have hzz := hz _ _ (by rw [hx])
    simp only [List.length_map, List.length_range] at hzz
    refine ⟨l, ⟨⟨some a, m, by rw [hll], encX_length l, by omega, hm, (fun h => by cases h), fun h0 => ?_⟩, getD_lt (fun i hi => ?_) (by decide)⟩, by rw [hll]; omega⟩
    · obtain ⟨b, off, spot⟩ := a
      have hc := (hl2 0 h0).1.1
      have hspot : spot = none := by simpa [Addr.add] using World.cell?_spot hc
      subst hspot
      refine ⟨b, off, rfl, by simpa [Addr.add] using World.block_lt_of_cell? w _ hc, fun j hj => ?_⟩
      rw [encX_length] at hj
      obtain ⟨k, hk⟩ : ∃ k, k = j / 2 := ⟨_, rfl⟩
      have hkl : k < l.length := by omega
      obtain ⟨e1, e2⟩ := encX_at l k hkl
      obtain ⟨⟨h1, h2⟩, -⟩ := hl2 k hkl
      rw [Addr.add_mid] at h1 h2
      rw [getD_get l _ hkl] at e1 e2
      rcases Nat.mod_two_eq_zero_or_one j with e | e
      · obtain rfl : j = k * 2 := by omega
        rw [h1, e1]
      · obtain rfl : j = k * 2 + 1 := by omega
        rw [h2, e2]
    · rw [List.length_map] at hi
      rw [List.getElem_map]
      exact (hl2 i hi).2
theorem cells34 : Try.prog.cellsOf 34 = 5 := by kernel_rfl
set_option maxRecDepth 100000 in
set_option linter.constructorNameAsVariable false in
theorem open_asks1 {n : Nat} {v : Value} {x : DataW H × List MemPlace} (hf : DataW.trod enc Try.prog w base (fun _ => true) true n 27 [v] = some x) : ∃ l : List AskN, Asks w v l := by
  rcases open_slice_fields Try.underlying27 Try.underlying34 (by kernel_rfl) cells34 hf with ⟨hcs, _⟩ | ⟨a, len0, cap0, m, D, Pl, hcs, _, hl, hm, hmm, hx, hi⟩
  · simp at hcs
    subst hcs
    exact ⟨[], none, 0, rfl, Nat.le_refl _, Nat.zero_le _, (fun q h => by cases h), fun h => absurd h (Nat.lt_irrefl _)⟩
  · simp at hcs
    subst hcs
    rw [if_pos rfl] at hmm
    subst hmm
    have key : ∀ i, i < len0 → ∃ q : AskN, (w.cell? (a.add (i * 5)) = some (.int .i64 q.on) ∧ w.cell? (a.add (i * 5 + 1)) = some (.int .i64 q.kd) ∧ w.cell? (a.add (i * 5 + 2)) = some (.int .i64 q.a) ∧ w.cell? (a.add (i * 5 + 3)) = some (.int .u32 q.x) ∧ w.cell? (a.add (i * 5 + 4)) = some (.int .u32 q.y)) ∧ q.x < 4294967296 ∧ q.y < 4294967296 := by
      intro i hil
      obtain ⟨ys, n, _, _, _, hfs⟩ := hi i (by omega)
      obtain ⟨v0, y0, hc0, _, t0⟩ := hfs 0 _ rfl
      obtain ⟨v1, y1, hc1, _, t1⟩ := hfs 1 _ rfl
      obtain ⟨v2, y2, hc2, _, t2⟩ := hfs 2 _ rfl
      obtain ⟨v3, y3, hc3, _, t3⟩ := hfs 3 _ rfl
      obtain ⟨v4, y4, hc4, _, t4⟩ := hfs 4 _ rfl
      obtain ⟨x0, e0, _, w0⟩ := DataW.trod_int Try.underlying3 t0
      obtain ⟨x1, e1, _, w1⟩ := DataW.trod_int Try.underlying3 t1
      obtain ⟨x2, e2, _, w2⟩ := DataW.trod_int Try.underlying3 t2
      obtain ⟨x3, e3, _, w3⟩ := DataW.trod_int Try.underlying32 t3
      obtain ⟨x4, e4, _, w4⟩ := DataW.trod_int Try.underlying32 t4
      simp at e0 e1 e2 e3 e4
      subst e0 e1 e2 e3 e4
      obtain ⟨z3, rfl, hz3⟩ := u32_of w3
      obtain ⟨z4, rfl, hz4⟩ := u32_of w4
      exact ⟨⟨x0, x1, x2, z3, z4⟩, ⟨hc0, hc1, hc2, hc3, hc4⟩, hz3, hz4⟩
    obtain ⟨l, hll, hl2⟩ := choose_list len0 _ key
    refine ⟨l, some a, m, by rw [hll], by omega, hm, fun q hq => ?_, fun h0 => ?_⟩
    · obtain ⟨k, hk, rfl⟩ := List.mem_iff_getElem.1 hq
      exact (hl2 k hk).2
    · obtain ⟨b, off, spot⟩ := a
      have hc := (hl2 0 h0).1.1
      have hspot : spot = none := by simpa [Addr.add] using World.cell?_spot hc
      subst hspot
      refine ⟨b, off, rfl, by simpa [Addr.add] using World.block_lt_of_cell? w _ hc, fun k hk => ?_⟩
      obtain ⟨⟨h1, h2, h3, h4, h5⟩, -⟩ := hl2 k hk
      rw [Addr.add_mid] at h1 h2 h3 h4 h5
      rw [← Nat.add_assoc] at h2 h3 h4 h5
      exact ⟨h1, h2, h3, h4, h5⟩
set_option maxRecDepth 100000 in
theorem open_asks {r : Reach} {b0 : Nat} {v : Value} {d : DataW H} {p : List MemPlace} (hv : Value.okWide Try.prog w r b0 27 v) (h : DataW.Trod enc Try.prog w base (fun _ => true) true 27 v d p) : ∃ l : List AskN, Asks w v l := by
  obtain ⟨a, n, c, rfl⟩ := okWide_slice Try.underlying27 hv
  obtain ⟨m, hm⟩ := h
  exact open_asks1 hm
theorem sized_agg {P : Program} {ts : List TypeId} {ds : List (DataW H)} (h : (DataW.weightsEach P ts ds).all (· ≤ reachBytes) = true) {j : Nat} {t : TypeId} {fs : Array Field} {parts : List (DataW H)} (ht : ts[j]? = some t) (hd : ds[j]? = some (.agg parts)) (hu : P.underlying t = some (.struct fs)) :
    (DataW.weightsEach P (fs.toList.map (·.type)) parts).all (· ≤ reachBytes) = true := by
  refine List.all_eq_true.2 fun n hn => List.all_eq_true.1 h _ (DataW.weights_mem_each ht hd n ?_)
  simp only [DataW.weights, hu]
  exact hn
set_option maxRecDepth 100000 in
theorem open_code2 {r : Reach} {b0 : Nat} {v : Value} {d : DataW H} {p : List MemPlace} (hv : Value.okWide Try.prog w r b0 26 v) (h : DataW.Trod enc Try.prog w base (fun _ => true) true 26 v d p)
    (hsz : ∀ parts, d = .agg parts → (DataW.weightsEach Try.prog [22, 23, 24] parts).all (· ≤ reachBytes) = true) :
    ∃ (vc vj vn : Value) (code : List (Nat × Nat)) (js : List Nat) (lx : List (ByteArray × Nat)), v = .agg #[vc, vj, vn] ∧ (Instrs w vc code ∧ code.length * 8 ≤ 140737488351232) ∧ (Words w vj js ∧ js.length * 4 ≤ 140737488351232) ∧ (Texts w vn lx ∧ lx.length * 24 ≤ 140737488351232) := by
  obtain ⟨v0, v1, v2, y0, y1, y2, n, rfl, hd, hp, h0, h1, h2⟩ := open_agg3 Try.underlying26 (by kernel_rfl) cells26 hv h
  have hs := hsz _ hd
  obtain ⟨code, hc⟩ := open_instrs2 h0 (fun els sp e => by
    have := sized_slice hs (j := 0) (t := 22) (e := 49) rfl (by rw [← e]; rfl) Try.underlying22
    rwa [show Try.prog.bytesOf 49 = 8 from by kernel_rfl] at this)
  obtain ⟨js, hj⟩ := open_words2 h1 (fun els sp e => by
    have := sized_slice hs (j := 1) (t := 23) (e := 32) rfl (by rw [← e]; rfl) Try.underlying23
    rwa [show Try.prog.bytesOf 32 = 4 from by kernel_rfl] at this)
  obtain ⟨lx, hn⟩ := open_names2 h2 (fun els sp e => by
    have := sized_slice hs (j := 2) (t := 24) (e := 54) rfl (by rw [← e]; rfl) Try.underlying24
    rwa [show Try.prog.bytesOf 54 = 24 from by kernel_rfl] at this)
  exact ⟨v0, v1, v2, code, js, lx, rfl, hc, hj, hn⟩
end
end Go.Proofs.Ytofkamnmgpkehab
