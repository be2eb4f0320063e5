import Derived.Test.YtofkamnmgpkehaaDoorIntH
import Derived.Test.YtofkamnmgpkehaaDoorOpenP
/- A script of numbers, opened. -/
namespace Go.Proofs.YtofkamnmgpkehaaDoor.I
open Go.RowKit
attribute [local go_sem] Oper.semAt_some
open Go.ChangeShapes Go.WideShapes Go.ChangeAt Go.Joins Go.Deep
section
variable {H : Type} {enc : TypeId × Value → H} {w : World} {base : Nat}
theorem open_steps1 {n : Nat} {v : Value} {x : DataW H × List MemPlace} (hf : DataW.trod enc Tryd.prog w base (fun _ => true) true n 22 [v] = some x) : ∃ l : List (Int × Int × Int), StepsI w w.heap.size v l := by
  rcases open_slice_fields Tryd.underlying22 Tryd.underlying30 (by kernel_rfl) cells30 hf with ⟨hcs, _⟩ | ⟨a, len0, cap0, m, D, Pl, hcs, _, hl, hm, hmm, hx, hi⟩
  · simp at hcs
    subst hcs
    exact ⟨[], ⟨none, 0, rfl, Nat.le_refl _, Nat.zero_le _, fun h => absurd h (Nat.lt_irrefl _)⟩, fun k => by simp⟩
  · simp at hcs
    subst hcs
    rw [if_pos rfl] at hmm
    subst hmm
    have key : ∀ i, i < len0 → ∃ q : Int × Int × Int, w.cell? (a.add (i * 3)) = some (.int .i64 q.1) ∧ w.cell? (a.add (i * 3 + 1)) = some (.int .i64 q.2.1) ∧ w.cell? (a.add (i * 3 + 2)) = some (.int .i64 q.2.2) ∧ q.2.2 < 9223372036854775808 := by
      intro i hil
      obtain ⟨ys, n, _, _, _, hfs⟩ := hi i (by omega)
      obtain ⟨v0, y0, hc0, _, t0⟩ := hfs 0 _ rfl
      obtain ⟨v1, y1, hc1, _, t1⟩ := hfs 1 _ rfl
      obtain ⟨v2, y2, hc2, _, t2⟩ := hfs 2 _ rfl
      obtain ⟨x, e0, _, w0⟩ := DataW.trod_int Tryd.underlying3 t0
      obtain ⟨y, e1, _, w1⟩ := DataW.trod_int Tryd.underlying3 t1
      obtain ⟨z, e2, _, w2⟩ := DataW.trod_int Tryd.underlying3 t2
      simp at e0 e1 e2
      subst e0 e1 e2
      exact ⟨(x, y, z), hc0, hc1, hc2, by show z < 9223372036854775808; have hm : IntKind.i64.max = 9223372036854775807 := rfl; simp only [Lit.wf, Bool.and_eq_true, decide_eq_true_eq] at w2; have := w2.2; omega⟩
    obtain ⟨l, hll, hl2⟩ := choose_list len0 _ key
    have hbd : ∀ k, (l.getD k (0, 0, 0)).2.2 < 9223372036854775808 := fun k => by
      by_cases hk : k < l.length
      · rw [show l.getD k (0, 0, 0) = l[k] from getD_get l _ hk]
        exact (hl2 k hk).2.2.2
      · rw [List.getD_eq_getElem?_getD, List.getElem?_eq_none (by omega)]
        decide
    refine ⟨l, ⟨some a, m, by rw [hll], by omega, hm, fun h0 => ?_⟩, hbd⟩
    obtain ⟨b, off, spot⟩ := a
    have hc := (hl2 0 h0).1
    have hspot : spot = none := by simpa [Addr.add] using World.cell?_spot hc
    subst hspot
    refine ⟨b, off, rfl, by simpa [Addr.add] using World.block_lt_of_cell? w _ hc, fun k hk => ?_⟩
    obtain ⟨h1, h2, h3, -⟩ := hl2 k hk
    rw [Addr.add_mid] at h1 h2 h3
    rw [← Nat.add_assoc] at h2 h3
    have e : l.getD k (0, 0, 0) = l[k] := getD_get l _ hk
    rw [e]
    exact ⟨h1, h2, h3⟩
theorem open_steps {r : Reach} {b0 : Nat} {v : Value} {d : DataW H} {p : List MemPlace} (hv : Value.okWide Tryd.prog w r b0 22 v) (h : DataW.Trod enc Tryd.prog w base (fun _ => true) true 22 v d p) : ∃ l : List (Int × Int × Int), StepsI w w.heap.size v l := by
  obtain ⟨a, n, c, rfl⟩ := okWide_slice Tryd.underlying22 hv
  obtain ⟨m, hm⟩ := h
  exact open_steps1 hm
end
end Go.Proofs.YtofkamnmgpkehaaDoor.I
