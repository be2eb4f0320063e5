import Derived.Test.YtofkamnmgpkehabCut
/- procs.aim: the plain side and the state. -/
namespace Go.Proofs.Ytofkamnmgpkehab
open Go.RowKit
/-- May the jump at i stand? -/
def aimOk (ps : List (Nat × Nat × Nat)) (ofs js : List Nat) (i : Nat) : Bool :=
  (decide (i = 0) || decide (js.getD (i - 1) 0 < js.getD i 0)) && (decide (js.getD i 0 < ofs.length) && insideN (ps.getD (ofs.getD (js.getD i 0) 0) (0, 0, 0)) (js.getD i 0))
/-- The targets of the first k jumps. -/
def aimTo (ofs js : List Nat) (n : Nat) : Nat → List (List Nat)
  | 0 => List.replicate n []
  | k + 1 => (aimTo ofs js n k).set (ofs.getD (js.getD k 0) 0) ((aimTo ofs js n k).getD (ofs.getD (js.getD k 0) 0) [] ++ [js.getD k 0])
theorem aimTo_length (ofs js : List Nat) (n k : Nat) : (aimTo ofs js n k).length = n := by
  induction k with
  | zero => simp [aimTo]
  | succ k ih => simp [aimTo, ih]
def GoodTo (ps : List (Nat × Nat × Nat)) (ofs js : List Nat) (k : Nat) : Prop := ∀ i, i < k → aimOk ps ofs js i = true
theorem GoodTo.zero (ps : List (Nat × Nat × Nat)) (ofs js : List Nat) : GoodTo ps ofs js 0 := fun i h => absurd h (Nat.not_lt_zero i)
theorem GoodTo.succ {ps : List (Nat × Nat × Nat)} {ofs js : List Nat} {k : Nat} (h : GoodTo ps ofs js k) (hk : aimOk ps ofs js k = true) : GoodTo ps ofs js (k + 1) := fun i hi => by
  by_cases e : i = k
  · rw [e]; exact hk
  · exact h i (by omega)
theorem GoodTo.lt {ps : List (Nat × Nat × Nat)} {ofs js : List Nat} {k : Nat} (h : GoodTo ps ofs js k) {i : Nat} (hi : i < k) : js.getD i 0 < ofs.length := by
  have := h i hi
  simp only [aimOk, Bool.and_eq_true, decide_eq_true_eq] at this
  exact this.2.1
theorem GoodTo.up {ps : List (Nat × Nat × Nat)} {ofs js : List Nat} {k : Nat} (h : GoodTo ps ofs js k) {i : Nat} (hi : i + 1 < k) : js.getD i 0 < js.getD (i + 1) 0 := by
  have := h (i + 1) hi
  simp only [aimOk, Bool.and_eq_true, Bool.or_eq_true, decide_eq_true_eq] at this
  rcases this.1 with h | h
  · omega
  · exact h
theorem GoodTo.ge {ps : List (Nat × Nat × Nat)} {ofs js : List Nat} {k : Nat} (h : GoodTo ps ofs js k) : ∀ i, i < k → i ≤ js.getD i 0 := by
  intro i
  induction i with
  | zero => intro _; exact Nat.zero_le _
  | succ i ih => intro hi; have h1 := ih (by omega); have h2 := h.up hi; omega
theorem GoodTo.le {ps : List (Nat × Nat × Nat)} {ofs js : List Nat} {k : Nat} (h : GoodTo ps ofs js k) : k ≤ ofs.length := by
  cases k with
  | zero => exact Nat.zero_le _
  | succ k => have h1 := h.ge k (by omega); have h2 := h.lt (i := k) (by omega); omega
theorem aimTo_row_le (ofs js : List Nat) (n k j : Nat) : ((aimTo ofs js n k).getD j []).length ≤ k := by
  induction k generalizing j with
  | zero =>
    show ((List.replicate n []).getD j []).length ≤ 0
    rw [List.getD_eq_getElem?_getD, List.getElem?_replicate]; split <;> simp
  | succ k ih =>
    show (((aimTo ofs js n k).set _ _).getD j []).length ≤ k + 1
    rw [List.getD_eq_getElem?_getD, List.getElem?_set]
    split
    · split
      · have := ih (ofs.getD (js.getD k 0) 0); simp; exact this
      · simp
    · have := ih j; rw [List.getD_eq_getElem?_getD] at this; omega
theorem AimI.calm {w w' : World} {B b : Nat} {vp vo vt : Value} {ps : List (Nat × Nat × Nat)} {ofs : List Nat} {us : List Value} {ts : List (List Nat)} {tag : Nat → Nat} (h : AimI w B b vp vo vt ps ofs us ts tag) (hb : Below w.heap.size w w') : AimI w' B b vp vo vt ps ofs us ts tag :=
  ⟨h.at_.below hb, h.tb, h.tp, h.to, h.tt, h.tu⟩
/-- One list of targets has grown. -/
theorem AimI.step {w W W' : World} {B b q n c r t : Nat} {vp vo u u' : Value} {ps : List (Nat × Nat × Nat)} {ofs l : List Nat} {us : List Value} {ts : List (List Nat)} {tag : Nat → Nat} (h : AimI W B b vp vo (.slice (some ⟨q, 0, none⟩) n c) ps ofs us ts tag)
    (hBw : Below B w W) (hBl : B ≤ W.heap.size) (hn : us.length = n) (hu : us[r]? = some u) (hl : ts.getD r [] = l) (hg : Grew W W' u u') (ho : W'.ownsRow 0 32 1 u' (l.length + 1) (encN .u32 (l ++ [t]))) :
    ∃ tag', AimI (W'.setCell ⟨q, r, none⟩ u') B b vp vo (.slice (some ⟨q, 0, none⟩) n c) ps ofs (us.set r u') (ts.set r (l ++ [t])) tag' ∧ Below B w (W'.setCell ⟨q, r, none⟩ u') := by
  subst hn
  have hr : r < us.length := (List.getElem?_eq_some_iff.1 hu).1
  have A := h.at_
  have hl' : ts[r]? = some l := by rw [← hl, List.getD_eq_getElem?_getD, List.getElem?_eq_getElem (by rw [← A.ul]; exact hr)]; rfl
  have hbl : b < W.heap.size := World.block_lt_of_cell? _ _ A.c0
  have tq : tag q = 3 := h.tt q rfl
  have hub : ∀ g, u.ownBlock = some g → tag g = 4 + r := fun g e => h.tu r u g hu e
  have hou := A.ou r u l hu hl'
  have huB : ∀ g, u.ownBlock = some g → B ≤ g := fun g e => (hou.lt g e).1
  have hqw := A.ot.lt q rfl
  have hnb : u.ownBlock ≠ some b := fun e => by have := hub b e; have := h.tb; omega
  have hnq : u.ownBlock ≠ some q := fun e => by have := hub q e; omega
  have hqb : q ≠ b := fun e => by have := h.tb; rw [← e] at this; omega
  have hu'B : ∀ g, u'.ownBlock = some g → B ≤ g := fun g e => by
    rcases hg.2 g e with h' | h'
    · exact huB g h'
    · omega
  have hu' : ∀ g, g < W.heap.size → tag g ≠ 4 + r → u'.ownBlock ≠ some g := fun g hgl hgt e => by
    rcases hg.2 g e with h' | h'
    · exact hgt (hub g h')
    · omega
  have far : ∀ (v : Value) (e sz m : Nat) (xs : List Value), W.ownsRow B e sz v m xs → (∀ g, v.ownBlock = some g → tag g ≠ 4 + r ∧ tag g ≠ 3) → (W'.setCell ⟨q, r, none⟩ u').ownsRow B e sz v m xs := fun v e sz m xs hv ht =>
    ownsRow_setCell_other (own_grown hv hg.1 (fun g e1 e2 => (ht g e1).1 (hub g e2))) (fun e1 => (ht q e1).2 tq) _
  have hot : W'.ownsRow B 23 1 (.slice (some ⟨q, 0, none⟩) us.length c) us.length us := own_grown A.ot hg.1 (fun g e1 e2 => by cases e1; exact hnq e2)
  have hst := hot.stored r u'
  refine ⟨fun g => if u'.ownBlock = some g then 4 + r else tag g, ⟨⟨?_, ?_, ?_, A.hb, far _ _ _ _ _ A.op (fun g e => by have := h.tp g e; omega), far _ _ _ _ _ A.oo (fun g e => by have := h.to g e; omega), by rw [List.length_set]; exact hst.1, by rw [List.length_set, List.length_set]; exact A.ul, ?_⟩, ?_, ?_, ?_, ?_, ?_⟩, ?_⟩
  · exact (World.cell?_setCell_other _ _ _ _ (by first | (simp; done) | (intro e; cases e; exact hqb rfl))).trans (grown_cell hg.1 A.c0 hbl hnb)
  · exact (World.cell?_setCell_other _ _ _ _ (by first | (simp; done) | (intro e; cases e; exact hqb rfl))).trans (grown_cell hg.1 A.c1 hbl hnb)
  · exact (World.cell?_setCell_other _ _ _ _ (by first | (simp; done) | (intro e; cases e; exact hqb rfl))).trans (grown_cell hg.1 A.c2 hbl hnb)
  · intro j x m hx hm
    by_cases e : j = r
    · subst e
      rw [List.getElem?_set_self hr] at hx
      rw [List.getElem?_set_self (by rw [← A.ul]; exact hr)] at hm
      cases hx; cases hm
      rw [List.length_append]
      exact ownsRow_setCell_other (own_from ho hu'B) (hu' q hqw.2 (by omega)) _
    · rw [List.getElem?_set_ne (fun e2 => e e2.symm)] at hx hm
      exact far _ _ _ _ _ (A.ou j x m hx hm) (fun g e2 => by have := h.tu j x g hx e2; omega)
  · show (if u'.ownBlock = some b then 4 + r else tag b) = 0
    rw [if_neg (hu' b hbl (by have := h.tb; omega))]; exact h.tb
  · intro g e
    show (if u'.ownBlock = some g then 4 + r else tag g) = 1
    rw [if_neg (hu' g (A.op.lt g e).2 (by have := h.tp g e; omega))]; exact h.tp g e
  · intro g e
    show (if u'.ownBlock = some g then 4 + r else tag g) = 2
    rw [if_neg (hu' g (A.oo.lt g e).2 (by have := h.to g e; omega))]; exact h.to g e
  · intro g e
    show (if u'.ownBlock = some g then 4 + r else tag g) = 3
    rw [if_neg (hu' g (A.ot.lt g e).2 (by have := h.tt g e; omega))]; exact h.tt g e
  · intro j x g hx e
    show (if u'.ownBlock = some g then 4 + r else tag g) = 4 + j
    by_cases ej : j = r
    · subst ej
      rw [List.getElem?_set_self hr] at hx
      cases hx
      rw [if_pos e]
    · rw [List.getElem?_set_ne (fun e2 => ej e2.symm)] at hx
      have hjl : j < ts.length := by rw [← A.ul]; exact (List.getElem?_eq_some_iff.1 hx).1
      have hlt := ((A.ou j x _ hx (List.getElem?_eq_getElem hjl)).lt g e).2
      rw [if_neg (hu' g hlt (by have := h.tu j x g hx e; omega))]; exact h.tu j x g hx e
  · exact (hBw.grown hg.1 hBl huB).setCell (p := ⟨q, r, none⟩) hqw.1 _
/-- A row of words that came in. -/
def RowU (w : World) (B : Nat) (v : Value) (l : List Nat) : Prop := ∃ a cap, v = .slice a l.length cap ∧ l.length ≤ cap ∧ cap ≤ maxLen ∧ (∀ k, l.getD k 0 < 4294967296) ∧
  (0 < l.length → ∃ b off, a = some ⟨b, off, none⟩ ∧ b < B ∧ ∀ k, k < l.length → w.cell? ⟨b, off + k, none⟩ = some (.int .u32 (l.getD k 0)))
def AimPost (ps : List (Nat × Nat × Nat)) (ofs js : List Nat) (B b : Nat) (vp vo vt : Value) (w : World) (e : Ending) (w' : World) : Prop :=
  Below B w w' ∧ ((e = .returned (.tuple #[.int .i64 0, .int .i64 0]) ∧ GoodTo ps ofs js js.length ∧ ∃ us tag, AimI w' B b vp vo vt ps ofs us (aimTo ofs js ps.length js.length) tag) ∨
    ∃ i, i < js.length ∧ e = .returned (.tuple #[.int .i64 (i : Nat), .int .i64 134]) ∧ GoodTo ps ofs js i ∧ aimOk ps ofs js i = false)
def tgt (w : World) (g j : Nat) : Value := (w.cell? ⟨g, j, none⟩).getD undef
theorem tgt_is {w : World} {g j : Nat} {v : Value} (h : w.cell? ⟨g, j, none⟩ = some v) : w.cell? ⟨g, j, none⟩ = some (tgt w g j) := by unfold tgt; rw [h]; rfl
theorem tgt_eq {w : World} {g j : Nat} {v : Value} (h : w.cell? ⟨g, j, none⟩ = some v) : tgt w g j = v := by unfold tgt; rw [h]; rfl
end Go.Proofs.Ytofkamnmgpkehab
