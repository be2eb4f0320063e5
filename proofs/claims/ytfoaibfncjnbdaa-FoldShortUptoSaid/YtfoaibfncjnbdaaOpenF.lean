import Derived.Test.YtfoaibfncjnbdaaRow
import Derived.ProofKit
import Derived.OpenShut
import Derived.Lib.SmallJoins
import Derived.Deep.Slices
import Derived.Deep.Fields
import Derived.ChangeSame
import Derived.SizedLaws
/- Slices that came in, opened. -/
namespace Go.Proofs.Ytfoaibfncjnbdaa
open Go.ChangeShapes Go.WideShapes Go.ChangeAt Go.RowKit Go.Joins Go.Deep
section
variable {H : Type} {enc : TypeId × Value → H} {P : Program} {w : World} {base : Nat} {spare : Nat → Bool} {held : Bool}
theorem open_slice_fields {t e : TypeId} {fs : Array Field} {fuel : Nat} {cs : List Value} {x : DataW H × List MemPlace} (ht : P.underlying t = some (.slice e)) (he : P.underlying e = some (.struct fs))
    (hone : oneCellFields P fs = true) (hC : P.cellsOf e = fs.size) (h : DataW.trod enc P w base spare held fuel t cs = some x) :
    (cs = [.slice none 0 0] ∧ x = (.nil, [])) ∨
    ∃ (a : Addr) (len cap m : Nat) (D : Nat → DataW H) (Pl : Nat → List MemPlace), cs = [.slice (some a) len cap] ∧ base ≤ a.block ∧ len ≤ cap ∧ cap ≤ maxLen ∧ m = (if spare a.block then cap else len) ∧
      x = (.slice ((List.range len).map D) ((List.range (m - len)).map fun j => D (len + j)), MemPlace.row a (m * fs.size) ++ (List.range m).flatMap Pl) ∧
      ∀ i, i < m → ∃ (ys : List (DataW H × List MemPlace)) (n : Nat), D i = .agg (ys.map (·.1)) ∧ Pl i = ys.flatMap (·.2) ∧ ys.length = fs.size ∧
        ∀ (j : Nat) (f : Field), fs[j]? = some f → ∃ (v : Value) (y : DataW H × List MemPlace), w.cell? (a.add (i * fs.size + j)) = some v ∧ ys[j]? = some y ∧ DataW.trod enc P w base spare held n f.type [v] = some y := by
  rcases open_slice ht h with h0 | ⟨a, len, cap, m, n, D, Pl, hcs, hb, hl, hm, hmm, hx, hi⟩
  · exact .inl h0
  · refine .inr ⟨a, len, cap, m, D, Pl, hcs, hb, hl, hm, hmm, by rw [hC] at hx; exact hx, fun i him => ?_⟩
    obtain ⟨cs', hc, ht'⟩ := hi i him
    rw [hC] at hc
    obtain ⟨ys, n', hn', hy, hlen, hyl, hf⟩ := DataW.trod_struct he ht'
    obtain ⟨_, hcl, hat⟩ := World.cells?_some hc
    simp only [Prod.mk.injEq] at hy
    refine ⟨ys, n', hy.1, hy.2, hyl, fun j f hj => ?_⟩
    obtain ⟨ho, hk⟩ := hone_of hone j f hj
    have hjl : j < fs.size := (Array.getElem?_eq_some_iff.1 hj).1
    have hcell := hat j hjl
    have hv : cs'[j]? = some (cs'[j]'(by omega)) := List.getElem?_eq_getElem (by omega)
    have h1 := hf j f hj
    rw [ho, hk] at h1
    have hone' : (cs'.drop j).take 1 = [cs'[j]'(by omega)] := by
      rw [List.drop_eq_getElem_cons (by omega)]
      rfl
    rw [hone'] at h1
    have hys : ys[j]? = some (ys[j]'(by omega)) := List.getElem?_eq_getElem (by omega)
    refine ⟨_, _, ?_, hys, h1.trans hys⟩
    rw [← Go.Deep.add_add, hcell, hv]
end
/-- A choice for each number below n. -/
theorem choose_list {α : Type} [Inhabited α] (n : Nat) (R : Nat → α → Prop) (h : ∀ i, i < n → ∃ x, R i x) : ∃ l : List α, l.length = n ∧ ∀ i (hi : i < l.length), R i l[i] := by
  classical
  refine ⟨(List.range n).map fun i => if hi : i < n then (h i hi).choose else default, by simp, fun i hi => ?_⟩
  have hi' : i < n := by simpa using hi
  rw [List.getElem_map, List.getElem_range, dif_pos hi']
  exact (h i hi').choose_spec
theorem encI_get (l : List (Nat × Nat)) (R : Nat → Value → Prop) (h0 : ∀ i (hi : i < l.length), R (i * 2) (.int .u8 (l[i].1 : Nat))) (h1 : ∀ i (hi : i < l.length), R (i * 2 + 1) (.int .u32 (l[i].2 : Nat))) :
    ∀ j, j < (encI l).length → ∃ u, (encI l)[j]? = some u ∧ R j u := by
  intro j hj
  rw [encI_length] at hj
  rcases Nat.mod_two_eq_zero_or_one j with e | e
  · obtain ⟨k, rfl⟩ : ∃ k, j = k * 2 := ⟨j / 2, by omega⟩
    have hk : k < l.length := by omega
    refine ⟨_, encI_op l k hk, ?_⟩
    have := h0 k hk
    rwa [List.getD_eq_getElem?_getD, List.getElem?_eq_getElem hk]
  · obtain ⟨k, rfl⟩ : ∃ k, j = k * 2 + 1 := ⟨j / 2, by omega⟩
    have hk : k < l.length := by omega
    refine ⟨_, encI_arg l k hk, ?_⟩
    have := h1 k hk
    rwa [List.getD_eq_getElem?_getD, List.getElem?_eq_getElem hk]
theorem cells34 : Try.prog.cellsOf 34 = 2 := by kernel_rfl
section
variable {H : Type} {enc : TypeId × Value → H} {w : World} {base : Nat}
set_option maxRecDepth 100000 in
theorem open_instrs {r : Reach} {b0 : Nat} {v : Value} {d : DataW H} {p : List MemPlace} (hv : Value.okWide Try.prog w r b0 22 v) (h : DataW.Trod enc Try.prog w base (fun _ => true) true 22 v d p)
    (N : Nat) (hs : ∀ el sp, d = .slice el sp → el.length + sp.length ≤ N) :
    ∃ l : List (Nat × Nat), Instrs w v l ∧ l.length ≤ N := by
  obtain ⟨a0, len0, cap0, rfl⟩ := okWide_slice Try.underlying22 hv
  obtain ⟨fuel, hf⟩ := h
  rcases open_slice_fields Try.underlying22 Try.underlying34 (by kernel_rfl) cells34 hf with ⟨hcs, _⟩ | ⟨a, len, cap, m, D, Pl, hcs, _, hl, hm, hmm, hx, hi⟩
  · simp [Value.cells] at hcs
    obtain ⟨rfl, rfl, rfl⟩ := hcs
    exact ⟨[], ⟨Reads.nil w 2, fun i hi => by cases hi⟩, Nat.zero_le _⟩
  · simp [Value.cells] at hcs
    obtain ⟨rfl, rfl, rfl⟩ := hcs
    rw [if_pos rfl] at hmm
    subst hmm
    simp only [Prod.mk.injEq] at hx
    have hreach := hs _ _ hx.1
    simp only [List.length_map, List.length_range] at hreach
    have key : ∀ i, i < len0 → ∃ q : Nat × Nat, (w.cell? (a.add (i * 2)) = some (.int .u8 (q.1 : Nat)) ∧ w.cell? (a.add (i * 2 + 1)) = some (.int .u32 (q.2 : Nat))) ∧ q.1 < 256 ∧ q.2 < 4294967296 := by
      intro i hil
      obtain ⟨ys, n, _, _, _, hfs⟩ := hi i (by omega)
      obtain ⟨v0, y0, hc0, _, t0⟩ := hfs 0 _ rfl
      obtain ⟨v1, y1, hc1, _, t1⟩ := hfs 1 _ rfl
      obtain ⟨x, e0, _, w0⟩ := DataW.trod_int Try.underlying32 t0
      obtain ⟨y, e1, _, w1⟩ := DataW.trod_int Try.underlying23 t1
      simp at e0 e1
      subst e0 e1
      obtain ⟨o, rfl, ho⟩ := u8_of w0
      obtain ⟨z, rfl, hz⟩ := u32_of w1
      exact ⟨(o, z), ⟨hc0, hc1⟩, ho, hz⟩
    obtain ⟨l, hll, hl2⟩ := choose_list len0 _ key
    refine ⟨l, ⟨⟨some a, m, by rw [hll], encI_length l, by omega, hm, (fun h => by cases h), fun h0 => ?_⟩, fun i hi => ?_⟩, by rw [hll]; omega⟩
    · obtain ⟨b, off, spot⟩ := a
      have hc := (hl2 0 h0).1.1
      have hspot : spot = none := by simpa [Addr.add] using World.cell?_spot hc
      subst hspot
      refine ⟨b, off, rfl, by simpa [Addr.add] using World.block_lt_of_cell? w _ hc, fun j hj => ?_⟩
      obtain ⟨u, e, hR⟩ := encI_get l (fun j u => w.cell? ((⟨b, off, none⟩ : Addr).add j) = some u) (fun i hi => (hl2 i hi).1.1) (fun i hi => (hl2 i hi).1.2) j hj
      rw [e, ← hR, Addr.add_mid]
    · obtain ⟨k, hk, rfl⟩ := List.mem_iff_getElem.1 hi
      exact (hl2 k hk).2
end
end Go.Proofs.Ytfoaibfncjnbdaa
