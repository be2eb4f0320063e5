import Derived.Test.YtdigcbkjlppenaaQuietR
import Derived.Test.YtdigcbkjlppenaaPick
/- IsaWalk: what its loops keep. -/
namespace Go.Proofs.Ytdigcbkjlppenaa
open Go.RowKit
theorem KeepsOthers.drewN (W : World) (n : Nat) : KeepsOthers W (W.drewN n) := ⟨Nat.le_refl _, fun _ _ h _ => h⟩
theorem grown_drewN (W : World) (n : Nat) (r : Option Nat) : W.grownBy (W.drewN n) r := ⟨rfl, rfl, rfl, Nat.le_refl _, fun _ _ _ => rfl⟩
theorem grown_setCell (W : World) (g j : Nat) (v : Value) : W.grownBy (W.setCell ⟨g, j, none⟩ v) (some g) :=
  ⟨rfl, rfl, rfl, by simp [World.setCell], fun k _ hne => Below.heap_setCell _ _ _ _ (fun e => hne (by rw [e]))⟩
theorem grown_alloc (W : World) (o : Obj) : W.grownBy (W.alloc o) none := ⟨rfl, rfl, rfl, by simp, fun k hk _ => Below.heap_alloc _ _ _ hk⟩
structure WkI (w : World) (K r0 pb cb ab bx : Nat) (vp vc u : Value) (bs : List Nat) (W : World) : Prop where
  kw : w.heap.size ≤ K
  kl : K ≤ W.heap.size
  lt : r0 < K ∧ pb < K ∧ cb < K ∧ ab < K ∧ bx + 1 < K
  ob : ∀ g, vp.ownBlock = some g ∨ vc.ownBlock = some g ∨ u.ownBlock = some g → g < K
  pc : W.cell? ⟨pb, 0, none⟩ = some vp
  cc : W.cell? ⟨cb, 0, none⟩ = some vc
  ac : W.cell? ⟨ab, 0, none⟩ = some (.func (.func 58) #[] #[.pointer (some ⟨bx, 0, none⟩), .pointer (some ⟨bx + 1, 0, none⟩)])
  bc : W.cell? ⟨bx, 0, none⟩ = some u
  ec : W.cell? ⟨bx + 1, 0, none⟩ = some (.func (.func 51) #[] #[])
  rp : W.ownsRow 0 3 1 vp (walk bs).1.length (encN .i64 (places (walk bs).1))
  rc : W.ownsRow 0 36 2 vc (walk bs).1.length (encI (instrs (walk bs).1))
  ru : W.ownsRow 0 5 1 u bs.length (encN .u8 bs)
  rr : W.cell? ⟨r0, 0, none⟩ = some (.bool false)
  rf : W.frozen? ⟨r0, 0, none⟩ = false
  below : Below w.heap.size w W
theorem WkI.turn {w W W' : World} {K r0 pb cb ab bx : Nat} {vp vc u : Value} {bs : List Nat} (h : WkI w K r0 pb cb ab bx vp vc u bs W) {row : Option Nat} (hg : W.grownBy W' row) (hr : ∀ g, row = some g → K ≤ g) : WkI w K r0 pb cb ab bx vp vc u bs W' := by
  have hk := h.kl
  have hlt := h.lt
  have hne : ∀ b, b < K → row ≠ some b := fun b hb e => by have := hr b e; omega
  exact ⟨h.kw, Nat.le_trans h.kl hg.size, h.lt, h.ob, grown_cell hg h.pc (by omega) (hne _ (by omega)), grown_cell hg h.cc (by omega) (hne _ (by omega)), grown_cell hg h.ac (by omega) (hne _ (by omega)),
    grown_cell hg h.bc (by omega) (hne _ (by omega)), grown_cell hg h.ec (by omega) (hne _ (by omega)), own_grown h.rp hg (fun g e => hne g (h.ob g (.inl e))), own_grown h.rc hg (fun g e => hne g (h.ob g (.inr (.inl e)))), own_grown h.ru hg (fun g e => hne g (h.ob g (.inr (.inr e)))),
    grown_cell hg h.rr (by omega) (hne _ (by omega)), (World.frozen?_of_block (hg.block r0 (by omega) (fun e => hne r0 (by omega) e.symm))).trans h.rf, h.below.grown hg (by have := h.kw; omega) (fun g e => by have := hr g e; have := h.kw; omega)⟩
theorem WkI.calm {w W W' : World} {K r0 pb cb ab bx : Nat} {vp vc u : Value} {bs : List Nat} (h : WkI w K r0 pb cb ab bx vp vc u bs W) {B : Nat} (k : Calm B W W') (hB : w.heap.size ≤ B) : WkI w K r0 pb cb ab bx vp vc u bs W' :=
  ⟨h.kw, Nat.le_trans h.kl k.size, h.lt, h.ob, k.cell h.pc, k.cell h.cc, k.cell h.ac, k.cell h.bc, k.cell h.ec, k.own h.rp, k.own h.rc, k.own h.ru, k.cell h.rr, (k.frozen h.rr).trans h.rf, Calm.below h.below ⟨k.os, k.tape, k.output, k.size, k.cells, fun i hi => k.block i (by omega)⟩⟩
/-- What the tables hold for the instruction that comes. -/
theorem places_at (pre : List (Nat × (Nat × Nat))) (x : Nat × (Nat × Nat)) (rest : List (Nat × (Nat × Nat))) : (encN .i64 (places (pre ++ x :: rest)))[pre.length]? = some (.int .i64 x.1) := by
  simp [places, encN]
theorem instrs_at (pre : List (Nat × (Nat × Nat))) (x : Nat × (Nat × Nat)) (rest : List (Nat × (Nat × Nat))) : (encI (instrs (pre ++ x :: rest)))[pre.length * 2]? = some (.int .u8 x.2.1) ∧ (encI (instrs (pre ++ x :: rest)))[pre.length * 2 + 1]? = some (.int .u32 x.2.2) := by
  have e : instrs (pre ++ x :: rest) = instrs pre ++ x.2 :: instrs rest := by simp [instrs]
  have hl : (encI (instrs pre)).length = pre.length * 2 := by rw [encI_length]; simp [instrs]
  rw [e, encI_append]
  exact ⟨by rw [List.getElem?_append_right (by omega), hl, Nat.sub_self]; rfl, by rw [List.getElem?_append_right (by omega), hl, Nat.add_sub_cancel_left]; rfl⟩
theorem WkI.iter {w W : World} {K r0 pb cb ab bx : Nat} {vp vc u : Value} {bs : List Nat} (h : WkI w K r0 pb cb ab bx vp vc u bs W) (hlt : ∀ i ∈ bs, i < 256) (n : Nat) :
    IterK bx (bx + 1) 51 #[] u bs n (fun A B => B = A) W :=
  ⟨h.bc, h.ec, Bytes.own h.ru hlt, callsIn_wide.2 (end51 _ _ W)⟩
/-- The cells that the round for x reads. -/
theorem WkI.at {w W : World} {K r0 pb cb ab bx : Nat} {a1 a2 : Option Addr} {n c1 c2 : Nat} {u : Value} {bs : List Nat} (h : WkI w K r0 pb cb ab bx (.slice a1 n c1) (.slice a2 n c2) u bs W) {pre rest : List (Nat × (Nat × Nat))} {x : Nat × (Nat × Nat)} (hx : (walk bs).1 = pre ++ x :: rest) (_hn : (walk bs).1.length = n) :
    ∃ g1 g2, a1 = some ⟨g1, 0, none⟩ ∧ a2 = some ⟨g2, 0, none⟩ ∧ W.cell? ⟨g1, pre.length, none⟩ = some (.int .i64 x.1) ∧ W.cell? ⟨g2, pre.length * 2, none⟩ = some (.int .u8 x.2.1) ∧ W.cell? ⟨g2, pre.length * 2 + 1, none⟩ = some (.int .u32 x.2.2) := by
  have hp : 0 < (walk bs).1.length := by rw [hx]; simp; omega
  have h1 := h.rp
  have h2 := h.rc
  obtain ⟨g1, k1, e1, _, _, _, hc1⟩ := own_form h1 hp
  obtain ⟨g2, k2, e2, _, _, _, hc2⟩ := own_form h2 hp
  simp only [Value.slice.injEq] at e1 e2
  refine ⟨g1, g2, e1.1, e2.1, ?_, ?_, ?_⟩
  · rw [hc1 _ (by rw [encN_length]; simp [places, hx]), hx, places_at]
  · rw [hc2 _ (by rw [encI_length]; simp [instrs, hx]), hx, (instrs_at _ _ _).1]
  · rw [hc2 _ (by rw [encI_length]; simp [instrs, hx]; omega), hx, (instrs_at _ _ _).2]
end Go.Proofs.Ytdigcbkjlppenaa
