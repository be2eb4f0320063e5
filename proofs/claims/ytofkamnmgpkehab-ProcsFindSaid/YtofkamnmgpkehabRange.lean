import Derived.Test.YtofkamnmgpkehabProcs1
import Derived.RangeFuncKeeps
import Derived.RangeFuncCalls
import Derived.RangeFuncLeaves
import Derived.Shelf.Abstract
import Derived.OwnWalkIn
import Derived.TacticsInMore
import Derived.LoopNIn
import Derived.LoopIn
/- A range over a function at the wide fence: the caller's invariant bears whatever is no cells, and blocks of others. -/
namespace Go.Proofs.Ytofkamnmgpkehab
open Go.RowKit
/-- All cells lie as they lay; below B everything does. -/
structure Calm (B : Nat) (A A' : World) : Prop where
  os : A'.os = A.os
  tape : A'.tape = A.tape
  output : A'.output = A.output
  size : A.heap.size ≤ A'.heap.size
  cells : ∀ (k : Nat) (o : Obj), A.heap[k]? = some o → o.isCells = true → A'.heap[k]? = some o
  block : ∀ k, k < B → A'.heap[k]? = A.heap[k]?
theorem Calm.refl (B : Nat) (A : World) : Calm B A A := ⟨rfl, rfl, rfl, Nat.le_refl _, fun _ _ h _ => h, fun _ _ => rfl⟩
theorem Calm.trans {B : Nat} {a b c : World} (h : Calm B a b) (k : Calm B b c) : Calm B a c :=
  ⟨k.os.trans h.os, k.tape.trans h.tape, k.output.trans h.output, Nat.le_trans h.size k.size, fun i o hi ho => k.cells i o (h.cells i o hi ho) ho, fun i hi => (k.block i hi).trans (h.block i hi)⟩
theorem Calm.of {B : Nat} {A A' : World} (h : Below A.heap.size A A') (hB : B ≤ A.heap.size) : Calm B A A' :=
  ⟨h.os, h.tape, h.output, h.size, fun k _ hk _ => (h.block k (Array.getElem?_eq_some_iff.1 hk).1).trans hk, fun k hk => h.block k (by omega)⟩
theorem Calm.putObj {B : Nat} (W : World) {r : Nat} {o : Obj} (o' : Obj) (hr : W.heap[r]? = some o) (ho : o.isCells = false) (hB : B ≤ r) : Calm B W (W.putObj r o') :=
  ⟨rfl, rfl, rfl, by simp, fun k o2 hk h2 => by
    by_cases e : k = r
    · subst e; rw [hr] at hk; cases hk; rw [ho] at h2; cases h2
    · exact (World.putObj_heap_other e).trans hk, fun k hk => World.putObj_heap_other (by omega)⟩
theorem Calm.below {B : Nat} {w A A' : World} (h : Below B w A) (k : Calm B A A') : Below B w A' :=
  ⟨k.os.trans h.os, k.tape.trans h.tape, k.output.trans h.output, Nat.le_trans h.size k.size, fun i hi => (k.block i hi).trans (h.block i hi)⟩
theorem Calm.obj {B : Nat} {A A' : World} (k : Calm B A A') {b : Nat} {o : Obj} (h : A.heap[b]? = some o) (ho : o.isCells = true) : A'.heap[b]? = A.heap[b]? := (k.cells b o h ho).trans h.symm
theorem Calm.cell {B : Nat} {A A' : World} (k : Calm B A A') {a : Addr} {v : Value} (h : A.cell? a = some v) : A'.cell? a = some v := by
  obtain ⟨o, ho, hc⟩ := cells_of_cell h
  exact (World.cell?_of_block (k.obj ho hc)).trans h
theorem Calm.frozen {B : Nat} {A A' : World} (k : Calm B A A') {a : Addr} {v : Value} (h : A.cell? a = some v) : A'.frozen? a = A.frozen? a := by
  obtain ⟨o, ho, hc⟩ := cells_of_cell h
  exact World.frozen?_of_block (k.obj ho hc)
theorem Calm.own {B : Nat} {A A' : World} (k : Calm B A A') {base e sz n : Nat} {v : Value} {xs : List Value} (h : A.ownsRow base e sz v n xs) : A'.ownsRow base e sz v n xs := by
  obtain ⟨hl, h⟩ := h
  rcases h with h | ⟨g, cap, cur, hv, hb, hg, hn, hm, hcs, ht⟩
  · exact ⟨hl, .inl h⟩
  · exact ⟨hl, .inr ⟨g, cap, cur, hv, hb, k.cells _ _ hg rfl, hn, hm, hcs, ht⟩⟩
theorem Calm.reads {B : Nat} {A A' : World} (k : Calm B A A') {sz n : Nat} {v : Value} {cs : List Value} (h : Reads A sz v n cs) : Reads A' sz v n cs := by
  obtain ⟨a, cap, hv, hl, hn, hm, ha, hp⟩ := h
  refine ⟨a, cap, hv, hl, hn, hm, ha, fun h0 => ?_⟩
  obtain ⟨b, off, e, hlt, hc⟩ := hp h0
  refine ⟨b, off, e, Nat.lt_of_lt_of_le hlt k.size, fun j hj => ?_⟩
  have h1 := hc j hj
  rw [List.getElem?_eq_getElem hj] at h1 ⊢
  exact k.cell h1
theorem Calm.bytes {B : Nat} {A A' : World} (k : Calm B A A') {v : Value} {l : List Nat} (h : Bytes A v l) : Bytes A' v l := ⟨k.reads h.1, h.2⟩
theorem Calm.grew {w A A' : World} (k : Calm w.heap.size A A') {u : Value} (h : Grew w A (.slice none 0 0) u) : Grew w A' (.slice none 0 0) u :=
  ⟨below_grownBy (k.below h.bel) _, h.2⟩

/-- How a round's body may be left. -/
def RoundOwn {α : Type} (I : List α → World → Prop) (Ix : Code → World → Prop) (xs : List α) (W : World) : Exit → Act → World → Prop
  | .normal, _, W' => KeepsOthers W W' ∧ I xs W'
  | .ret, _, W' => KeepsOthers W W' ∧ Ix .ret W'
  | .exit id, _, W' => KeepsOthers W W' ∧ Ix (.exit id) W'
  | .goto t, _, W' => KeepsOthers W W' ∧ Ix (.goto t) W'
  | .panic _, _, _ => False
  | .outgrown, _, _ => False

/-- What an iterator has to bring: its rounds one after the other; the caller's invariant where all have come, and then what it does at the end. -/
def SeqTo {α : Type} (P : Program) (n gf : Nat) (lb : Array Value) (encs : α → Array Value) (xs : List α) (Kn : World → Prop) (Fin : World → World → Prop) : Prop :=
  ∀ (l : Nat) (J : List α → World → Prop) (Jx : World → Prop) (W : World), (∀ d A B, J d A → Below A.heap.size A B → J d B) → (∀ d A, J d A → Kn A) →
    (∀ pre x rest W1, xs = pre ++ x :: rest → J pre W1 → YieldAt Fence.wide (n - 1) P l (encs x) W1 fun e W' => (e = .returned (.bool true) ∧ J (pre ++ [x]) W') ∨ (e = .returned (.bool false) ∧ Jx W')) →
    J [] W → CallsIn Fence.wide n P gf (#[.func (.yield l) #[] #[]] ++ lb) W fun e W' => (∃ u, e = .returned u) ∧ ((∃ W2, J xs W2 ∧ Fin W2 W') ∨ Jx W')

theorem range_to {α : Type} {P : Program} {n : Nat} {g : Operand} {ps : Array Tmp} {assign body : Code} {Q : Exit → Act → World → Prop} {a : Act} {w : World}
    {gf : Nat} {lb : Array Value} (hg : a.eval g = .func (.func gf) #[] lb) (eg : ∀ args w, (callFunc gf args).run P w = .ok (.enter gf args) w)
    {encs : α → Array Value} (hps : ∀ x, (encs x).size = ps.size) (xs : List α) (Kn : World → Prop) (Fin : World → World → Prop) (hseq : SeqTo P (n - 1) gf lb encs xs Kn Fin)
    (hFin : ∀ A B, Fin A B → KeepsOthers A B)
    (I : List α → World → Prop) (Ix : Code → World → Prop)
    (hI : ∀ d A B, I d A → Calm w.heap.size A B → I d B) (hIx : ∀ c A B, Ix c A → Calm w.heap.size A B → Ix c B) (hK : ∀ d A, I d A → Kn A) (h0 : I [] w)
    (hround : ∀ (l : Nat) (pre : List α) (x : α) (rest : List α) (W : World), xs = pre ++ x :: rest → I pre W → w.heap.size ≤ W.heap.size →
      assign.wpIn (Fence.wide.inRound l) (n - 1 - 1) P (Exit.then (fun a₁ W1 => KeepsOthers W W1 ∧ ∀ W2, W2.heap.size = W1.heap.size → Calm w.heap.size W1 W2 → body.wpIn (Fence.wide.inRound l) (n - 1 - 1) P (RoundOwn I Ix (pre ++ [x]) W2) a₁ W2)
        (fun _ _ _ => False)) { tmps := (ps.zip (encs x)).foldl (fun t (p, v) => t.setIfInBounds p v) a.tmps, defers := [] } W)
    (hdone : ∀ (D : Nat) (W2 W3 W4 : World), I xs W2 → Fin W2 W3 → Calm w.heap.size W3 W4 → w.heap.size ≤ D → W4.heap[D]? = some (.deferred (some [])) → Q .normal { a with defers := { target := .collected D, args := #[] } :: a.defers } W4)
    (hstop : ∀ (D : Nat) (c : Code) (W4 : World), Ix c W4 → w.heap.size ≤ D → W4.heap[D]? = some (.deferred (some [])) → c.wpIn Fence.wide n P Q { a with defers := { target := .collected D, args := #[] } :: a.defers } W4) :
    (Code.rangeFunc g ps assign body).wpIn Fence.wide n P Q a w := by
  refine wpIn_rangeFunc fun fn _ => ?_
  have hro : Fence.wide.round = none := rfl
  rw [hro]
  obtain ⟨D, hD⟩ : ∃ D, D = w.heap.size := ⟨_, rfl⟩
  obtain ⟨rc, hrc⟩ : ∃ rc : LoopState → Option Code → Obj, rc = fun st pe => .loop { state := st, pending := pe, fn, tmps := a.tmps, params := ps, assign, body, defers := w.heap.size } := ⟨_, rfl⟩
  obtain ⟨W1, hW1⟩ : ∃ W1, W1 = (w.alloc (.deferred (some []))).alloc (rc .ready none) := ⟨_, rfl⟩
  have hb1 : Below w.heap.size w W1 := by rw [hW1]; exact Bel.al (Bel.new w _) _
  have hD1 : W1.heap[D]? = some (.deferred (some [])) := by rw [hW1, hD]; exact (Below.heap_alloc _ _ _ (by simp)).trans (World.alloc_heap_new w _)
  have hl1 : W1.heap[D + 1]? = some (rc .ready none) := by
    rw [hW1, hD]; have := World.alloc_heap_new (w.alloc (.deferred (some []))) (rc .ready none); rwa [World.size_alloc] at this
  have hcells : ∀ st pe, (rc st pe).isCells = false := fun st pe => by rw [hrc]; rfl
  refine ⟨D + 1, [{ target := .collected D, args := #[] }], W1, { target := .fn (.func gf) lb, args := #[.func (.yield (D + 1)) #[] #[]] }, W1, gf, #[.func (.yield (D + 1)) #[] #[]] ++ lb, W1, ?_, ?_, fun _ _ => trivial, ?_, fun h => (by cases h), ?_⟩
  · rw [hW1, hrc, hD]; exact run_enterLoop_outer _ _ _ _ _
  · simp only [resolve, hg]
    simp [go_sem]
  · simp [invoke, go_sem, eg]
  refine (hseq (D + 1) (fun d A => I d A ∧ A.heap[D]? = some (.deferred (some [])) ∧ A.heap[D + 1]? = some (rc .ready none))
    (fun A => ∃ c, Ix c A ∧ A.heap[D]? = some (.deferred (some [])) ∧ A.heap[D + 1]? = some (rc .done (some c))) W1 ?_ (fun d A h => hK d A h.1) ?_ ⟨hI _ _ _ h0 (Calm.of hb1 (Nat.le_refl _)), hD1, hl1⟩).mono ?_
  · rintro d A B ⟨hi, hd, hl⟩ hb
    have hlt := (Array.getElem?_eq_some_iff.1 hl).1
    exact ⟨hI _ _ _ hi (Calm.of hb (by omega)), (hb.block _ (by omega)).trans hd, (hb.block _ hlt).trans hl⟩
  · rintro pre x rest W hx ⟨hi, hd, hl⟩
    have hlt := (Array.getElem?_eq_some_iff.1 hl).1
    have hl' := hl
    rw [hrc] at hl'
    refine ⟨fn, _, assign, body, run_yield (args := encs x) hl' (hps x), roundIn_of_wpIn trivial (wpIn_mono (hround (D + 1) pre x rest W hx hi (by omega)) ?_)⟩
    rintro e a₁ W2 hq
    cases e with
    | normal =>
      obtain ⟨hk, hq⟩ := hq
      have hl2 := hk.same _ _ hl (hcells _ _)
      have hd2 := hk.same _ _ hd rfl
      have hlt2 := (Array.getElem?_eq_some_iff.1 hl2).1
      have hl2' := hl2
      rw [hrc] at hl2'
      refine ⟨_, run_beginRound hl2' rfl, ?_⟩
      have hl3 : (W2.putObj (D + 1) (rc .busy none)).heap[D + 1]? = some (rc .busy none) := World.putObj_heap_same hlt2
      have hd3 : (W2.putObj (D + 1) (rc .busy none)).heap[D]? = some (.deferred (some [])) := (World.putObj_heap_other (by omega)).trans hd2
      have hq3 := hq (W2.putObj (D + 1) (rc .busy none)) (by simp) (Calm.putObj _ _ hl2 (hcells _ _) (by omega))
      have hfin : ∀ (j : Option Code) (W3 : World), KeepsOthers (W2.putObj (D + 1) (rc .busy none)) W3 →
          (Instr.endRound (D + 1) j).run P W3 = .ok (.bool j.isNone) (W3.putObj (D + 1) (rc (if j.isNone then .ready else .done) j)) ∧
          Calm w.heap.size W3 (W3.putObj (D + 1) (rc (if j.isNone then .ready else .done) j)) ∧
          (W3.putObj (D + 1) (rc (if j.isNone then .ready else .done) j)).heap[D]? = some (.deferred (some [])) ∧
          (W3.putObj (D + 1) (rc (if j.isNone then .ready else .done) j)).heap[D + 1]? = some (rc (if j.isNone then .ready else .done) j) := fun j W3 k3 => by
        have hl4 := k3.same _ _ hl3 (hcells _ _)
        have hd4 := k3.same _ _ hd3 rfl
        have hl4' := hl4
        rw [hrc] at hl4'
        refine ⟨?_, Calm.putObj _ _ hl4 (hcells _ _) (by omega), (World.putObj_heap_other (by omega)).trans hd4, World.putObj_heap_same (Array.getElem?_eq_some_iff.1 hl4).1⟩
        have := run_endRound (P := P) j hl4'
        rw [hrc]; exact this
      rw [hrc] at hq3
      refine wpIn_mono hq3 ?_
      rintro e a₃ W3 hp
      rw [← hrc] at hp
      cases e with
      | normal =>
        obtain ⟨h1, h2, h3, h4⟩ := hfin none W3 hp.1
        exact ⟨_, _, h1, .inl ⟨rfl, hI _ _ _ hp.2 h2, h3, h4⟩⟩
      | ret =>
        obtain ⟨h1, h2, h3, h4⟩ := hfin (some .ret) W3 hp.1
        exact ⟨_, _, h1, .inr ⟨rfl, _, hIx _ _ _ hp.2 h2, h3, h4⟩⟩
      | exit id =>
        obtain ⟨h1, h2, h3, h4⟩ := hfin (some (.exit id)) W3 hp.1
        exact ⟨_, _, h1, .inr ⟨rfl, _, hIx _ _ _ hp.2 h2, h3, h4⟩⟩
      | goto t =>
        obtain ⟨h1, h2, h3, h4⟩ := hfin (some (.goto t)) W3 hp.1
        exact ⟨_, _, h1, .inr ⟨rfl, _, hIx _ _ _ hp.2 h2, h3, h4⟩⟩
      | panic ch => exact hp.elim
      | outgrown => exact hp.elim
    | _ => exact hq.elim
  · rintro e W2 ⟨⟨u, rfl⟩, (⟨W3, ⟨hi, hd, hl⟩, hf⟩ | ⟨c, hi, hd, hl⟩)⟩
    · have hk := hFin _ _ hf
      have hl2 := hk.same _ _ hl (hcells _ _)
      have hd2 := hk.same _ _ hd rfl
      have hl2' := hl2
      rw [hrc] at hl2'
      exact ⟨none, _, run_endLoop hl2' (by simp), hdone D W3 W2 _ hi hf (Calm.putObj _ _ hl2 (hcells _ _) (by omega)) (by omega) ((World.putObj_heap_other (by omega)).trans hd2)⟩
    · have hl' := hl
      rw [hrc] at hl'
      exact ⟨some c, _, run_endLoop hl' (by simp), hstop D c _ (hIx _ _ _ hi (Calm.putObj _ _ hl (hcells _ _) (by omega))) (by omega) ((World.putObj_heap_other (by omega)).trans hd)⟩
end Go.Proofs.Ytofkamnmgpkehab
