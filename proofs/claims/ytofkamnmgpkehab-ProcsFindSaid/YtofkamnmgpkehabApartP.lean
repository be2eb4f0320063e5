import Derived.Test.YtofkamnmgpkehabLent
/- Lists that were handed out lie apart: what the three loops of playpenkit's Apart.. keep. Over any program. -/
namespace Go.Proofs.Ytofkamnmgpkehab
open Go.RowKit
def lenV : Value → Nat
  | .slice _ n _ => n
  | _ => 0
theorem own_lenV {w : World} {B e sz n : Nat} {v : Value} {xs : List Value} (h : w.ownsRow B e sz v n xs) : lenV v = n := by
  rcases h.2 with ⟨rfl, rfl⟩ | ⟨g, cap, cur, rfl, _⟩ <;> rfl
/-- The marks of the first n places of list k, as cells. -/
def mcells (mk : Nat → Nat → List Value) (k n : Nat) : List Value := (List.range n).flatMap (mk k)
theorem mcells_succ (mk : Nat → Nat → List Value) (k n : Nat) : mcells mk k (n + 1) = mcells mk k n ++ mk k n := by
  simp [mcells, List.range_succ]
theorem mcells_length {mk : Nat → Nat → List Value} {sz : Nat} (h : ∀ k i, (mk k i).length = sz) (k n : Nat) : (mcells mk k n).length = n * sz := by
  induction n with
  | zero => simp [mcells]
  | succ n ih => rw [mcells_succ, List.length_append, ih, h, Nat.succ_mul]
theorem mcells_pre {mk : Nat → Nat → List Value} {sz : Nat} (h : ∀ k i, (mk k i).length = sz) (k n m : Nat) : ∀ j, j < n * sz → (mcells mk k (n + m))[j]? = (mcells mk k n)[j]? := by
  induction m with
  | zero => intro j _; rfl
  | succ m ih =>
    intro j hj
    rw [← Nat.add_assoc, mcells_succ, List.getElem?_append_left (by rw [mcells_length h]; exact Nat.lt_of_lt_of_le hj (Nat.mul_le_mul_right _ (by omega))), ih j hj]
theorem mcells_at {mk : Nat → Nat → List Value} {sz : Nat} (h : ∀ k i, (mk k i).length = sz) (k n i t : Nat) (hi : i < n) (ht : t < sz) : (mcells mk k n)[i * sz + t]? = (mk k i)[t]? := by
  obtain ⟨m, rfl⟩ : ∃ m, n = (i + 1) + m := ⟨n - (i + 1), by omega⟩
  rw [mcells_pre h k (i + 1) m _ (by rw [Nat.succ_mul]; omega), mcells_succ, List.getElem?_append_right (by rw [mcells_length h]; omega), mcells_length h, Nat.add_sub_cancel_left]
/-- What is owned stays so where another block turns. -/
theorem own_grown {w w' : World} {B e sz n : Nat} {v : Value} {xs : List Value} {row : Option Nat} (h : w.ownsRow B e sz v n xs) (hg : w.grownBy w' row) (hne : ∀ g, v.ownBlock = some g → row ≠ some g) : w'.ownsRow B e sz v n xs :=
  h.kept hg (by
    cases hv : v.ownBlock with
    | none => exact .inl rfl
    | some g => exact .inr (fun e => hne g hv e.symm))
theorem grown_cell {w w' : World} {row : Option Nat} (hg : w.grownBy w' row) {b j : Nat} {v : Option Value} (h : w.cell? ⟨b, j, none⟩ = v) (hb : b < w.heap.size) (hne : row ≠ some b) : w'.cell? ⟨b, j, none⟩ = v :=
  (World.cell?_of_block (hg.block b hb (fun e => hne e.symm))).trans h
theorem grown_below {B : Nat} {w0 w w' : World} {row : Option Nat} (h : Below B w0 w) (hg : w.grownBy w' row) (hB : B ≤ w.heap.size) (hr : ∀ k, row = some k → B ≤ k) : Below B w0 w' := h.grown hg hB hr

theorem own_ge' {w : World} {base e sz n : Nat} {v : Value} {xs : List Value} (h : w.ownsRow base e sz v n xs) : w.ownsRow 0 e sz v n xs := own_base h
/-- The lists that lie apart. -/
structure Lists (B lb : Nat) (vs : List Value) : Prop where
  apart : ∀ (i j : Nat) (u v : Value) (g : Nat), vs[i]? = some u → vs[j]? = some v → u.ownBlock = some g → v.ownBlock = some g → i = j
  notl : ∀ (j : Nat) (v : Value), vs[j]? = some v → v.ownBlock ≠ some lb
  base : B ≤ lb

/-- The first loop. -/
structure Ph1 (w0 w : World) (B e sz lb : Nat) (vs : List Value) (mk : Nat → Nat → List Value) (k i : Nat) : Prop where
  below : Below B w0 w
  lbl : lb < w.heap.size
  ls : ∀ (j : Nat) (v : Value), vs[j]? = some v → w.cell? ⟨lb, j, none⟩ = some v
  row : ∀ (j : Nat) (v : Value), vs[j]? = some v → ∃ xs, w.ownsRow B e sz v (lenV v) xs ∧ (j < k → xs = mcells mk j (lenV v)) ∧ (j = k → ∀ t, t < i * sz → xs[t]? = (mcells mk k i)[t]?)
theorem Ph1.calm {w0 w w' : World} {B e sz lb : Nat} {vs : List Value} {mk : Nat → Nat → List Value} {k i : Nat} (h : Ph1 w0 w B e sz lb vs mk k i) (hL : Lists B lb vs) (hb : Below w.heap.size w w') : Ph1 w0 w' B e sz lb vs mk k i :=
  ⟨h.below.trans (hb.mono (by have := hL.base; have := h.lbl; omega)), Nat.lt_of_lt_of_le h.lbl hb.size, fun j v hj => (hb.cell (p := ⟨lb, j, none⟩) h.lbl).trans (h.ls j v hj),
    fun j v hj => by obtain ⟨xs, h1, h2⟩ := h.row j v hj; exact ⟨xs, own_below h1 hb, h2⟩⟩
theorem Ph1.step {w0 w w' : World} {B e sz lb : Nat} {vs : List Value} {mk : Nat → Nat → List Value} {k i : Nat} (h : Ph1 w0 w B e sz lb vs mk k i) (hL : Lists B lb vs) {v : Value} {g : Nat} (hv : vs[k]? = some v) (hg : v.ownBlock = some g)
    (hgr : w.grownBy w' (some g)) {xs : List Value} (hr : w'.ownsRow B e sz v (lenV v) xs) (ht : ∀ t, t < (i + 1) * sz → xs[t]? = (mcells mk k (i + 1))[t]?) : Ph1 w0 w' B e sz lb vs mk k (i + 1) := by
  have hBl : B ≤ w.heap.size := by have := hL.base; have := h.lbl; omega
  have hgB : B ≤ g := (hr.lt g hg).1
  refine ⟨h.below.grown hgr hBl (fun q e => by cases e; exact hgB), Nat.lt_of_lt_of_le h.lbl hgr.size, fun j u hj => grown_cell hgr (h.ls j u hj) h.lbl (fun e => by cases e; exact hL.notl k v hv hg), fun j u hj => ?_⟩
  by_cases hjk : j = k
  · subst hjk
    rw [hv] at hj
    cases hj
    exact ⟨xs, hr, fun h => absurd h (Nat.lt_irrefl _), fun _ => ht⟩
  · obtain ⟨ys, h1, h2, _⟩ := h.row j u hj
    exact ⟨ys, own_grown h1 hgr (fun q e e2 => by cases e2; exact hjk (hL.apart j k u v g hj hv e hg)), h2, fun e => absurd e hjk⟩
theorem Ph1.next {w0 w : World} {B e sz lb : Nat} {vs : List Value} {mk : Nat → Nat → List Value} {k : Nat} {v : Value} (hmk : ∀ k i, (mk k i).length = sz) (hv : vs[k]? = some v) (h : Ph1 w0 w B e sz lb vs mk k (lenV v)) : Ph1 w0 w B e sz lb vs mk (k + 1) 0 :=
  ⟨h.below, h.lbl, h.ls, fun j u hj => by
    obtain ⟨xs, h1, h2, h3⟩ := h.row j u hj
    refine ⟨xs, h1, fun hlt => ?_, fun _ t ht => by omega⟩
    by_cases e : j = k
    · subst e
      rw [hv] at hj
      cases hj
      refine List.ext_getElem? fun t => ?_
      by_cases htl : t < lenV v * sz
      · exact h3 rfl t htl
      · rw [List.getElem?_eq_none (by rw [h1.1]; omega), List.getElem?_eq_none (by rw [mcells_length hmk]; omega)]
    · exact h2 (by omega)⟩

/-- The second loop: what was handed out (from m on as it was marked), what was grown. -/
structure Ph2 (w0 w : World) (B e sz te lb m : Nat) (vs us : List Value) (gs : Value) (mk : Nat → Nat → List Value) (tag : Nat → Nat) : Prop where
  below : Below B w0 w
  len : us.length ≤ vs.length
  lbl : lb < w.heap.size
  ls : ∀ (j : Nat) (v : Value), vs[j]? = some v → w.cell? ⟨lb, j, none⟩ = some v
  tl : tag lb = 0
  tv : ∀ (j : Nat) (v : Value) (g : Nat), vs[j]? = some v → v.ownBlock = some g → tag g = j + 2 ∧ g < w.heap.size
  tu : ∀ (j : Nat) (u : Value) (g : Nat), us[j]? = some u → u.ownBlock = some g → tag g = j + 2
  tg : ∀ g, gs.ownBlock = some g → tag g = 1
  row : ∀ (j : Nat) (v : Value), vs[j]? = some v → m ≤ j → w.ownsRow B e sz v (lenV v) (mcells mk j (lenV v))
  cel : ∀ (j : Nat) (v : Value) (g : Nat), vs[j]? = some v → j < us.length → v.ownBlock = some g → ∀ i, i < lenV v * sz → w.cell? ⟨g, i, none⟩ = (mcells mk j (lenV v))[i]?
  urow : ∀ (j : Nat) (u v : Value), us[j]? = some u → vs[j]? = some v → w.ownsRow B e sz u (lenV v + 64) (mcells mk j (lenV v + 64))
  grow : w.ownsRow B te 1 gs us.length us
/-- Another block than all these turns, or block b of tag c, of which nothing is told here. -/
theorem Ph2.other {w0 w w' : World} {B e sz te lb m : Nat} {vs us : List Value} {gs : Value} {mk : Nat → Nat → List Value} {tag : Nat → Nat} (h : Ph2 w0 w B e sz te lb m vs us gs mk tag) (hB : B ≤ lb) {row : Option Nat} (hg : w.grownBy w' row) (hlm : us.length < m)
    (hr : ∀ g, row = some g → tag g = us.length + 2 ∧ B ≤ g) : Ph2 w0 w' B e sz te lb m vs us gs mk tag where
  below := h.below.grown hg (by have := h.lbl; omega) (fun q e => (hr q e).2)
  len := h.len
  lbl := Nat.lt_of_lt_of_le h.lbl hg.size
  ls j v hj := grown_cell hg (h.ls j v hj) h.lbl (fun e => by have := (hr _ e).1; have := h.tl; omega)
  tl := h.tl
  tv j v g hj hv := ⟨(h.tv j v g hj hv).1, Nat.lt_of_lt_of_le (h.tv j v g hj hv).2 hg.size⟩
  tu := h.tu
  tg := h.tg
  row j v hj hm := own_grown (h.row j v hj hm) hg (fun q e e2 => by have := (hr _ e2).1; have := (h.tv j v q hj e).1; omega)
  cel j v g hj hl hv i hi := grown_cell hg (h.cel j v g hj hl hv i hi) (h.tv j v g hj hv).2 (fun e => by have := (hr _ e).1; have := (h.tv j v g hj hv).1; omega)
  urow j u v hu hv := own_grown (h.urow j u v hu hv) hg (fun q e e2 => by have := (hr _ e2).1; have := h.tu j u q hu e; have := (List.getElem?_eq_some_iff.1 hu).1; omega)
  grow := own_grown h.grow hg (fun q e e2 => by have := (hr _ e2).1; have := h.tg q e; omega)
theorem Ph2.calm {w0 w w' : World} {B e sz te lb m : Nat} {vs us : List Value} {gs : Value} {mk : Nat → Nat → List Value} {tag : Nat → Nat} (h : Ph2 w0 w B e sz te lb m vs us gs mk tag) (hB : B ≤ lb) (hb : Below w.heap.size w w') : Ph2 w0 w' B e sz te lb m vs us gs mk tag where
  below := h.below.trans (hb.mono (by have := h.lbl; omega))
  len := h.len
  lbl := Nat.lt_of_lt_of_le h.lbl hb.size
  ls j v hj := (hb.cell (p := ⟨lb, j, none⟩) h.lbl).trans (h.ls j v hj)
  tl := h.tl
  tv j v g hj hv := ⟨(h.tv j v g hj hv).1, Nat.lt_of_lt_of_le (h.tv j v g hj hv).2 hb.size⟩
  tu := h.tu
  tg := h.tg
  row j v hj hm := own_below (h.row j v hj hm) hb
  cel j v g hj hl hv i hi := (hb.cell (p := ⟨g, i, none⟩) (h.tv j v g hj hv).2).trans (h.cel j v g hj hl hv i hi)
  urow j u v hu hv := own_below (h.urow j u v hu hv) hb
  grow := own_below h.grow hb
/-- Blocks that are not there yet may be told anything. -/
theorem Ph2.told {w0 w : World} {B e sz te lb m : Nat} {vs us : List Value} {gs : Value} {mk : Nat → Nat → List Value} {tag tag' : Nat → Nat} (h : Ph2 w0 w B e sz te lb m vs us gs mk tag) (ht : ∀ g, g < w.heap.size → tag' g = tag g) : Ph2 w0 w B e sz te lb m vs us gs mk tag' where
  below := h.below
  len := h.len
  lbl := h.lbl
  ls := h.ls
  tl := (ht _ h.lbl).trans h.tl
  tv j v g hj hv := ⟨(ht _ (h.tv j v g hj hv).2).trans (h.tv j v g hj hv).1, (h.tv j v g hj hv).2⟩
  tu j u g hu hg := by
    have hj : j < vs.length := Nat.lt_of_lt_of_le (List.getElem?_eq_some_iff.1 hu).1 h.len
    exact (ht _ ((h.urow j u _ hu (List.getElem?_eq_getElem hj)).lt g hg).2).trans (h.tu j u g hu hg)
  tg g hg := (ht _ (h.grow.lt g hg).2).trans (h.tg g hg)
  row := h.row
  cel := h.cel
  urow := h.urow
  grow := h.grow
/-- The list that is grown just now. -/
structure Cur (w : World) (B e sz : Nat) (v u : Value) (mk : Nat → Nat → List Value) (tag : Nat → Nat) (k t : Nat) : Prop where
  own : w.ownsRow B e sz u (lenV v + t) (mcells mk k (lenV v + t))
  tg : ∀ g, u.ownBlock = some g → tag g = k + 2
  cel : ∀ g, v.ownBlock = some g → g < w.heap.size ∧ tag g = k + 2 ∧ ∀ i, i < lenV v * sz → w.cell? ⟨g, i, none⟩ = (mcells mk k (lenV v))[i]?
theorem Cur.calm {w w' : World} {B e sz : Nat} {v u : Value} {mk : Nat → Nat → List Value} {tag : Nat → Nat} {k t : Nat} (h : Cur w B e sz v u mk tag k t) (hb : Below w.heap.size w w') : Cur w' B e sz v u mk tag k t :=
  ⟨own_below h.own hb, h.tg, fun g hg => by
    obtain ⟨h1, h2, h3⟩ := h.cel g hg
    exact ⟨Nat.lt_of_lt_of_le h1 hb.size, h2, fun i hi => (hb.cell (p := ⟨g, i, none⟩) h1).trans (h3 i hi)⟩⟩
theorem own_at {w : World} {B e sz n : Nat} {v : Value} {xs : List Value} (h : w.ownsRow B e sz v n xs) {g : Nat} (hg : v.ownBlock = some g) : ∀ j, j < xs.length → w.cell? ⟨g, j, none⟩ = xs[j]? := fun j hj => by
  rw [List.getElem?_eq_getElem hj]
  have := h.cells hg j _ (List.getElem?_eq_getElem hj)
  rwa [Addr.add_mid, Nat.zero_add] at this
theorem Ph2.start {w0 w : World} {B e sz te lb : Nat} {vs us : List Value} {gs : Value} {mk : Nat → Nat → List Value} {tag : Nat → Nat} (h : Ph2 w0 w B e sz te lb us.length vs us gs mk tag) {v : Value} (hv : vs[us.length]? = some v) :
    Ph2 w0 w B e sz te lb (us.length + 1) vs us gs mk tag ∧ Cur w B e sz v v mk tag us.length 0 := by
  have hr := h.row _ v hv (Nat.le_refl _)
  refine ⟨⟨h.below, h.len, h.lbl, h.ls, h.tl, h.tv, h.tu, h.tg, fun j u hj hm => h.row j u hj (by omega), h.cel, h.urow, h.grow⟩, ⟨hr, fun g hg => (h.tv _ v g hv hg).1, fun g hg => ⟨(h.tv _ v g hv hg).2, (h.tv _ v g hv hg).1, fun i hi => own_at hr hg i (by rw [hr.1]; exact hi)⟩⟩⟩
theorem Ph2.grown {w0 w w' : World} {B e sz te lb : Nat} {vs us : List Value} {gs : Value} {mk : Nat → Nat → List Value} {tag : Nat → Nat} (hmk : ∀ k i, (mk k i).length = sz) (hB : B ≤ lb) (h : Ph2 w0 w B e sz te lb (us.length + 1) vs us gs mk tag) {v u u' : Value} {t : Nat}
    (hc : Cur w B e sz v u mk tag us.length t) (hg : Grew w w' u u') (ho : w'.ownsRow 0 e sz u' (lenV v + t + 1) (mcells mk us.length (lenV v + t) ++ mk us.length (lenV v + t)))
    (hk : ∀ g, u.ownBlock = some g → ∀ j, j < (mcells mk us.length (lenV v + t)).length → w'.cell? ⟨g, j, none⟩ = w.cell? ⟨g, j, none⟩) :
    ∃ tag', Ph2 w0 w' B e sz te lb (us.length + 1) vs us gs mk tag' ∧ Cur w' B e sz v u' mk tag' us.length (t + 1) := by
  have hBw : B ≤ w.heap.size := by have := h.lbl; omega
  have h1 := h.other hB hg.1 (Nat.lt_succ_self _) (fun g e => ⟨hc.tg g e, (hc.own.lt g e).1⟩)
  have hnew : ∀ g, u'.ownBlock = some g → (g < w.heap.size → tag g = us.length + 2) ∧ B ≤ g := fun g e => by
    rcases hg.2 g e with h' | h'
    · exact ⟨fun _ => hc.tg g h', (hc.own.lt g h').1⟩
    · exact ⟨fun h2 => by omega, by omega⟩
  have hBw' : B ≤ w'.heap.size := Nat.le_trans hBw hg.1.size
  let tag' : Nat → Nat := fun b => if w.heap.size ≤ b then us.length + 2 else tag b
  have ht' : ∀ g, g < w.heap.size → tag' g = tag g := fun g hlt => if_neg (by omega)
  refine ⟨tag', ?_, ?_⟩
  · refine ⟨h1.below, h1.len, h1.lbl, h1.ls, (ht' _ h.lbl).trans h.tl, fun j v g hj hv => ⟨(ht' _ (h.tv j v g hj hv).2).trans (h.tv j v g hj hv).1, (h1.tv j v g hj hv).2⟩, (h.told ht').tu, (h.told ht').tg, h1.row, h1.cel, h1.urow, h1.grow⟩
  · refine ⟨?_, fun g e => ?_, fun g hg2 => ?_⟩
    · rw [← Nat.add_assoc, mcells_succ]
      exact own_from ho (fun g e => (hnew g e).2)
    · show (if w.heap.size ≤ g then us.length + 2 else tag g) = _
      split
      · rfl
      · exact (hnew g e).1 (by omega)
    · obtain ⟨c1, c2, c3⟩ := hc.cel g hg2
      refine ⟨Nat.lt_of_lt_of_le c1 hg.1.size, (ht' _ c1).trans c2, fun i hi => ?_⟩
      by_cases e : u.ownBlock = some g
      · rw [hk g e i (by rw [mcells_length hmk, Nat.add_mul]; omega)]; exact c3 i hi
      · exact grown_cell hg.1 (c3 i hi) c1 e
theorem Ph2.laid {w0 w w' : World} {B e sz te lb : Nat} {vs us : List Value} {gs gs' : Value} {mk : Nat → Nat → List Value} {tag : Nat → Nat} (hB : B ≤ lb) (h : Ph2 w0 w B e sz te lb (us.length + 1) vs us gs mk tag) {v u : Value} (hv : vs[us.length]? = some v)
    (hc : Cur w B e sz v u mk tag us.length 64) (hg : Grew w w' gs gs') (ho : w'.ownsRow 0 te 1 gs' (us.length + 1) (us ++ [u])) :
    ∃ tag', Ph2 w0 w' B e sz te lb (us ++ [u]).length vs (us ++ [u]) gs' mk tag' := by
  have hBw : B ≤ w.heap.size := by have := h.lbl; omega
  have hBg : ∀ g, gs.ownBlock = some g → B ≤ g := fun g e => (h.grow.lt g e).1
  let tag' : Nat → Nat := fun b => if w.heap.size ≤ b then 1 else tag b
  have ht' : ∀ g, g < w.heap.size → tag' g = tag g := fun g hlt => if_neg (by omega)
  have hlen : (us ++ [u]).length = us.length + 1 := by simp
  have hul : us.length < vs.length := (List.getElem?_eq_some_iff.1 hv).1
  have hget : ∀ (j : Nat) x, (us ++ [u])[j]? = some x → (us[j]? = some x ∧ j < us.length) ∨ (j = us.length ∧ x = u) := fun j x hx => by
    by_cases hj : j < us.length
    · rw [List.getElem?_append_left hj] at hx; exact .inl ⟨hx, hj⟩
    · have hj2 := (List.getElem?_eq_some_iff.1 hx).1
      rw [hlen] at hj2
      obtain rfl : j = us.length := by omega
      rw [List.getElem?_append_right (Nat.le_refl _), Nat.sub_self] at hx
      cases hx; exact .inr ⟨rfl, rfl⟩
  have htu : ∀ (j : Nat) x g, (us ++ [u])[j]? = some x → x.ownBlock = some g → g < w.heap.size ∧ tag g = j + 2 := fun j x g hx e => by
    rcases hget j x hx with ⟨h1, h2⟩ | ⟨rfl, rfl⟩
    · exact ⟨((h.urow j x _ h1 (List.getElem?_eq_getElem (by omega))).lt g e).2, h.tu j x g h1 e⟩
    · exact ⟨(hc.own.lt g e).2, hc.tg g e⟩
  refine ⟨tag', h.below.grown hg.1 hBw hBg, by omega, Nat.lt_of_lt_of_le h.lbl hg.1.size, fun j x hj => grown_cell hg.1 (h.ls j x hj) h.lbl (fun e => by have := h.tg _ e; have := h.tl; omega), (ht' _ h.lbl).trans h.tl,
    fun j x g hj hx => ⟨(ht' _ (h.tv j x g hj hx).2).trans (h.tv j x g hj hx).1, Nat.lt_of_lt_of_le (h.tv j x g hj hx).2 hg.1.size⟩, fun j x g hx e => (ht' _ (htu j x g hx e).1).trans (htu j x g hx e).2, fun g e => ?_, fun j x hj hm => ?_, fun j x g hj hl hx i hi => ?_, fun j x y hx hy => ?_, ?_⟩
  · show (if w.heap.size ≤ g then 1 else tag g) = 1
    split
    · rfl
    · rename_i hlt
      rcases hg.2 g e with h' | h'
      · exact h.tg g h'
      · omega
  · exact own_grown (h.row j x hj (by rw [hlen] at hm; exact hm)) hg.1 (fun q e e2 => by have := h.tg _ e2; have := (h.tv j x q hj e).1; omega)
  · refine grown_cell hg.1 ?_ (h.tv j x g hj hx).2 (fun e => by have := h.tg _ e; have := (h.tv j x g hj hx).1; omega)
    rw [hlen] at hl
    by_cases hj2 : j < us.length
    · exact h.cel j x g hj hj2 hx i hi
    · obtain rfl : j = us.length := by omega
      rw [hv] at hj; cases hj
      exact (hc.cel g hx).2.2 i hi
  · refine own_grown ?_ hg.1 (fun q e e2 => by have := h.tg _ e2; have := (htu j x q hx e).2; omega)
    rcases hget j x hx with ⟨h1, h2⟩ | ⟨rfl, rfl⟩
    · exact h.urow j x y h1 hy
    · rw [hv] at hy; cases hy; exact hc.own
  · rw [hlen]
    exact own_from ho (fun g e => by
      rcases hg.2 g e with h' | h'
      · exact hBg g h'
      · omega)
/-- From the first loop to the second. -/
theorem Ph1.done {w0 w : World} {B e sz te lb : Nat} {vs : List Value} {mk : Nat → Nat → List Value} (hL : Lists B lb vs) (h : Ph1 w0 w B e sz lb vs mk vs.length 0) : ∃ tag, Ph2 w0 w B e sz te lb 0 vs [] (.slice none 0 0) mk tag := by
  classical
  have hr : ∀ (j : Nat) (v : Value), vs[j]? = some v → w.ownsRow B e sz v (lenV v) (mcells mk j (lenV v)) := fun j v hj => by
    obtain ⟨xs, h1, h2, _⟩ := h.row j v hj
    rw [h2 (List.getElem?_eq_some_iff.1 hj).1] at h1; exact h1
  let tag : Nat → Nat := fun b => if hb : ∃ (j : Nat) (v : Value), vs[j]? = some v ∧ v.ownBlock = some b then hb.choose + 2 else 0
  refine ⟨tag, h.below, Nat.zero_le _, h.lbl, h.ls, ?_, fun j v g hj hv => ⟨?_, ((hr j v hj).lt g hv).2⟩, fun j u g hu => by simp at hu, fun g hg => by simp [Value.ownBlock] at hg, fun j v hj _ => hr j v hj, fun j v g _ hl => absurd hl (Nat.not_lt_zero _), fun j u v hu => by simp at hu, World.ownsRow_nil _ _ _ _⟩
  · show (if hb : ∃ (j : Nat) (v : Value), vs[j]? = some v ∧ v.ownBlock = some lb then hb.choose + 2 else 0) = 0
    rw [dif_neg]
    rintro ⟨j, v, h1, h2⟩
    exact hL.notl j v h1 h2
  · have hex : ∃ (j : Nat) (v : Value), vs[j]? = some v ∧ v.ownBlock = some g := ⟨j, v, hj, hv⟩
    show (if hb : ∃ (j : Nat) (v : Value), vs[j]? = some v ∧ v.ownBlock = some g then hb.choose + 2 else 0) = j + 2
    rw [dif_pos hex]
    obtain ⟨v', h1, h2⟩ := hex.choose_spec
    rw [hL.apart _ j v' v g h1 hj h2 hv]
/-- What the third loop reads. -/
structure Ph3 (w : World) (B lb : Nat) (sz : Nat) (vs us : List Value) (gs : Value) (mk : Nat → Nat → List Value) : Prop where
  len : us.length = vs.length
  lbl : lb < w.heap.size
  ls : ∀ (j : Nat) (v : Value), vs[j]? = some v → w.cell? ⟨lb, j, none⟩ = some v
  gl : 0 < vs.length → ∃ g cap, gs = .slice (some ⟨g, 0, none⟩) vs.length cap ∧ g < w.heap.size ∧ cap ≤ maxLen ∧ ∀ (j : Nat) (u : Value), us[j]? = some u → w.cell? ⟨g, j, none⟩ = some u
  us : ∀ (j : Nat) (u v : Value), us[j]? = some u → vs[j]? = some v → ∃ g cap, u = .slice (some ⟨g, 0, none⟩) (lenV v + 64) cap ∧ g < w.heap.size ∧ ∀ i t, i < lenV v + 64 → t < sz → w.cell? ⟨g, i * sz + t, none⟩ = (mk j i)[t]?
  vs : ∀ (j : Nat) (v : Value), vs[j]? = some v → ∀ g, v.ownBlock = some g → g < w.heap.size ∧ ∀ i t, i < lenV v → t < sz → w.cell? ⟨g, i * sz + t, none⟩ = (mk j i)[t]?
theorem Ph2.read {w0 w : World} {B e sz te lb m : Nat} {vs us : List Value} {gs : Value} {mk : Nat → Nat → List Value} {tag : Nat → Nat} (hmk : ∀ k i, (mk k i).length = sz) (h : Ph2 w0 w B e sz te lb m vs us gs mk tag) (hl : us.length = vs.length) : Ph3 w B lb sz vs us gs mk where
  len := hl
  lbl := h.lbl
  ls := h.ls
  gl h0 := by
    obtain ⟨g, cap, e, h1, h2, h3, h4⟩ := own_form (own_ge' h.grow) (by omega)
    rw [hl] at e
    exact ⟨g, cap, e, h3, h2, fun j u hu => (h4 j (List.getElem?_eq_some_iff.1 hu).1).trans hu⟩
  us j u v hu hv := by
    have hr := h.urow j u v hu hv
    obtain ⟨g, cap, e, h1, h2, h3, h4⟩ := own_form (own_ge' hr) (by omega)
    refine ⟨g, cap, e, h3, fun i t hi ht => ?_⟩
    rw [h4 _ (by rw [mcells_length hmk]; have : (i + 1) * sz ≤ (lenV v + 64) * sz := Nat.mul_le_mul_right _ (by omega); rw [Nat.succ_mul] at this; omega), mcells_at hmk _ _ _ _ hi ht]
  vs j v hj g hg := by
    refine ⟨(h.tv j v g hj hg).2, fun i t hi ht => ?_⟩
    rw [h.cel j v g hj (by rw [hl]; exact (List.getElem?_eq_some_iff.1 hj).1) hg _ (by have : (i + 1) * sz ≤ lenV v * sz := Nat.mul_le_mul_right _ (by omega); rw [Nat.succ_mul] at this; omega), mcells_at hmk _ _ _ _ hi ht]
theorem Ph3.calm {w w' : World} {B lb sz : Nat} {vs us : List Value} {gs : Value} {mk : Nat → Nat → List Value} (h : Ph3 w B lb sz vs us gs mk) (hb : Below w.heap.size w w') : Ph3 w' B lb sz vs us gs mk where
  len := h.len
  lbl := Nat.lt_of_lt_of_le h.lbl hb.size
  ls j v hj := (hb.cell (p := ⟨lb, j, none⟩) h.lbl).trans (h.ls j v hj)
  gl h0 := by
    obtain ⟨g, cap, e, h1, h2, h3⟩ := h.gl h0
    exact ⟨g, cap, e, Nat.lt_of_lt_of_le h1 hb.size, h2, fun j u hu => (hb.cell (p := ⟨g, j, none⟩) h1).trans (h3 j u hu)⟩
  us j u v hu hv := by
    obtain ⟨g, cap, e, h1, h2⟩ := h.us j u v hu hv
    exact ⟨g, cap, e, Nat.lt_of_lt_of_le h1 hb.size, fun i t hi ht => (hb.cell (p := ⟨g, _, none⟩) h1).trans (h2 i t hi ht)⟩
  vs j v hj g hg := by
    obtain ⟨h1, h2⟩ := h.vs j v hj g hg
    exact ⟨Nat.lt_of_lt_of_le h1 hb.size, fun i t hi ht => (hb.cell (p := ⟨g, _, none⟩) h1).trans (h2 i t hi ht)⟩
end Go.Proofs.Ytofkamnmgpkehab
