import Derived.Test.YtofkamnmgpkehaaDoorSet5
/- Two sets of words side by side. -/
namespace Go.Proofs.YtofkamnmgpkehaaDoor
open Go.RowKit
theorem grown_cell {w w' : World} {row : Option Nat} (hg : w.grownBy w' row) {b j : Nat} {v : Option Value} (h : w.cell? ⟨b, j, none⟩ = v) (hb : b < w.heap.size) (hne : row ≠ some b) : w'.cell? ⟨b, j, none⟩ = v :=
  (World.cell?_of_block (hg.block b hb (fun e => hne e.symm))).trans h
theorem own_grown {w w' : World} {B e sz n : Nat} {v : Value} {xs : List Value} {row : Option Nat} (h : w.ownsRow B e sz v n xs) (hg : w.grownBy w' row) (hne : ∀ g, v.ownBlock = some g → row ≠ some g) : w'.ownsRow B e sz v n xs :=
  h.kept hg (by
    cases hv : v.ownBlock with
    | none => exact .inl rfl
    | some g => exact .inr (fun e => hne g hv e.symm))
theorem SetAt.other {W W' : World} {B b : Nat} {vw : Value} {N : Nat} {ws : List Nat} {r : Option Nat} (h : SetAt W B b vw N ws) (hg : W.grownBy W' r) (hb : r ≠ some b) (hv : ∀ g, vw.ownBlock = some g → r ≠ some g) : SetAt W' B b vw N ws :=
  have hl := World.block_lt_of_cell? _ _ h.c0
  ⟨grown_cell hg h.c0 hl hb, grown_cell hg h.c1 hl hb, h.hb, own_grown h.ow hg hv, h.nb, h.hl, h.hN, h.hn⟩
theorem SetAt.low {W : World} {B B' b : Nat} {vw : Value} {N : Nat} {ws : List Nat} (h : SetAt W B b vw N ws) (hB : B' ≤ B) : SetAt W B' b vw N ws :=
  ⟨h.c0, h.c1, Nat.le_trans hB h.hb, own_from (own_base h.ow) (fun g e => Nat.le_trans hB (h.ow.lt g e).1), h.nb, h.hl, h.hN, h.hn⟩
structure TwoSets (w W : World) (b1 : Nat) (v1 : Value) (N1 : Nat) (w1 : List Nat) (b2 : Nat) (v2 : Value) (N2 : Nat) (w2 : List Nat) : Prop where
  a : SetAt W w.heap.size b1 v1 N1 w1
  b : SetAt W w.heap.size b2 v2 N2 w2
  d1 : v1.ownBlock ≠ some b2
  d2 : v2.ownBlock ≠ some b1
  d3 : ∀ g, v1.ownBlock = some g → v2.ownBlock ≠ some g
  lo : Below w.heap.size w W
theorem TwoSets.below {w W W' : World} {b1 b2 N1 N2 : Nat} {v1 v2 : Value} {w1 w2 : List Nat} (h : TwoSets w W b1 v1 N1 w1 b2 v2 N2 w2) (hb : Below W.heap.size W W') : TwoSets w W' b1 v1 N1 w1 b2 v2 N2 w2 :=
  ⟨h.a.below hb, h.b.below hb, h.d1, h.d2, h.d3, Bel.tr h.lo hb⟩
theorem TwoSets.left {w W W' : World} {b1 b2 N1 N2 : Nat} {v1 v2 : Value} {w1 w2 w1' : List Nat} (h : TwoSets w W b1 v1 N1 w1 b2 v2 N2 w2) (hg : W.grownBy W' v1.ownBlock) (ha : SetAt W' w.heap.size b1 v1 N1 w1') : TwoSets w W' b1 v1 N1 w1' b2 v2 N2 w2 :=
  ⟨ha, h.b.other hg h.d1 (fun g e e2 => h.d3 g e2 e), h.d1, h.d2, h.d3, h.lo.grown hg h.lo.size (fun g e => (h.a.ow.lt g e).1)⟩
theorem TwoSets.right {w W W' : World} {b1 b2 N1 N2 : Nat} {v1 v2 : Value} {w1 w2 w2' : List Nat} (h : TwoSets w W b1 v1 N1 w1 b2 v2 N2 w2) (hg : W.grownBy W' v2.ownBlock) (hb : SetAt W' w.heap.size b2 v2 N2 w2') : TwoSets w W' b1 v1 N1 w1 b2 v2 N2 w2' :=
  ⟨h.a.other hg h.d2 (fun g e => h.d3 g e), hb, h.d1, h.d2, h.d3, h.lo.grown hg h.lo.size (fun g e => (h.b.ow.lt g e).1)⟩
/-- Is y among these, taken by 65536? -/
def inT (l : List Nat) (y : Nat) : Bool := l.any (fun z => decide (y = z % 65536))
theorem inT_snoc (l : List Nat) (k y : Nat) (hk : k < l.length) : inT (l.take (k + 1)) y = (inT (l.take k) y || decide (y = l.getD k 0 % 65536)) := by
  unfold inT
  rw [List.take_add_one, List.getElem?_eq_getElem hk, List.getD_eq_getElem?_getD, List.getElem?_eq_getElem hk, List.any_append]
  simp
theorem inT_drop (l : List Nat) (k y : Nat) (hk : k < l.length) : inT (l.drop k) y = (inT (l.drop (k + 1)) y || decide (y = l.getD k 0 % 65536)) := by
  unfold inT
  rw [List.drop_eq_getElem_cons hk, List.getD_eq_getElem?_getD, List.getElem?_eq_getElem hk, List.any_cons, Bool.or_comm]
  simp
theorem inT_lt {l : List Nat} {y : Nat} (h : inT l y = true) : y < 65536 := by
  obtain ⟨z, -, hz⟩ := List.any_eq_true.1 h
  have := of_decide_eq_true hz
  omega
theorem inT_mem (l : List Nat) (i : Nat) (hi : i < l.length) : inT l (l.getD i 0 % 65536) = true := by
  refine List.any_eq_true.2 ⟨l.getD i 0, ?_, by simp⟩
  rw [List.getD_eq_getElem?_getD, List.getElem?_eq_getElem hi]
  exact List.getElem_mem hi
theorem cnt_or_le (n : Nat) : ∀ (k : Nat) (f : Nat → Bool), cnt n (fun i => f i || decide (i = k)) ≤ cnt n f + 1 := by
  intro k f
  by_cases hk : k < n
  · cases hf : f k
    · rw [cnt_set n k f hk hf]; exact Nat.le_refl _
    · rw [cnt_congr n _ f (fun i _ => by
        by_cases e : i = k
        · rw [e, hf]; rfl
        · rw [decide_eq_false e, Bool.or_false])]
      exact Nat.le_succ _
  · rw [cnt_congr n _ f (fun i hi => by rw [decide_eq_false (by omega), Bool.or_false])]
    exact Nat.le_succ _
theorem cnt_inT (n : Nat) (l : List Nat) (k : Nat) : cnt n (inT (l.take k)) ≤ k := by
  induction k with
  | zero => rw [cnt_false n _ (fun i _ => by simp [inT])]; exact Nat.le_refl _
  | succ k ih =>
    by_cases hk : k < l.length
    · rw [cnt_congr n _ (fun i => inT (l.take k) i || decide (i = l.getD k 0 % 65536)) (fun i _ => inT_snoc l k i hk)]
      have := cnt_or_le n (l.getD k 0 % 65536) (inT (l.take k)); omega
    · rw [List.take_of_length_le (by omega)]
      rw [List.take_of_length_le (by omega)] at ih
      omega
theorem mem_beyond (ws : List Nat) (y : Nat) (h : 64 * ws.length ≤ y) : mem ws y = false := by
  unfold mem
  rw [List.getD_eq_getElem?_getD, List.getElem?_eq_none (by omega)]
  simp
theorem cnt_more (a b : Nat) (f : Nat → Bool) (h : ∀ i, a ≤ i → f i = false) : cnt (a + b) f = cnt a f := by
  rw [cnt_add, cnt_false b _ (fun i _ => h _ (by omega)), Nat.add_zero]
/-- The count, in one range for both. -/
theorem sum_of {ws : List Nat} {f : Nat → Bool} (hm : ∀ y, mem ws y = f y) {m : Nat} (hl : 64 * ws.length ≤ m) : (ws.map pop).sum = cnt m f := by
  rw [len_eq, ← cnt_congr m (mem ws) f (fun i _ => hm i)]
  obtain ⟨r, rfl⟩ : ∃ r, m = 64 * ws.length + r := ⟨m - 64 * ws.length, by omega⟩
  exact (cnt_more _ _ _ (fun i hi => mem_beyond ws i hi)).symm
/-- A row of words that came in. -/
def RowU (w : World) (B : Nat) (v : Value) (l : List Nat) : Prop := ∃ a cap, v = .slice a l.length cap ∧ l.length ≤ cap ∧ cap ≤ maxLen ∧ (∀ k, l.getD k 0 < 4294967296) ∧
  (0 < l.length → ∃ b off, a = some ⟨b, off, none⟩ ∧ b < B ∧ ∀ k, k < l.length → w.cell? ⟨b, off + k, none⟩ = some (.int .u32 (l.getD k 0)))
end Go.Proofs.YtofkamnmgpkehaaDoor
