import Derived.Test.YtdigcbkjlppenaaRange
import Derived.RangeFuncNested
/- A range over a function within a round of another. -/
namespace Go.Proofs.Ytdigcbkjlppenaa
open Go.RowKit
theorem range_to2 {α : Type} {P : Program} {n : Nat} {g : Operand} {ps : Array Tmp} {assign body : Code} {Q : Exit → Act → World → Prop} {a : Act} {w : World}
    {gf : Nat} {lb : Array Value} (hg : a.eval g = .func (.func gf) #[] lb) (eg : ∀ args w, (callFunc gf args).run P w = .ok (.enter gf args) w)
    {encs : α → Array Value} (hps : ∀ x, (encs x).size = ps.size) (xs : List α) (Kn : World → Prop) (Fin : World → World → Prop) (hseq : SeqTo P (n - 1) gf lb encs xs Kn Fin)
    (hFin : ∀ A B, Fin A B → KeepsOthers A B)
    (I : List α → World → Prop) (Ix : Code → World → Prop)
    (hI : ∀ d A B, I d A → Calm w.heap.size A B → I d B) (hIx : ∀ c A B, Ix c A → Calm w.heap.size A B → Ix c B) (hK : ∀ d A, I d A → Kn A) (h0 : I [] w)
    (hround : ∀ (l : Nat) (pre : List α) (x : α) (rest : List α) (W : World), xs = pre ++ x :: rest → I pre W → w.heap.size ≤ W.heap.size →
      assign.wpIn (Fence.wide.inRound l) (n - 1 - 1) P (Exit.then (fun a₁ W1 => KeepsOthers W W1 ∧ ∀ W2, W2.heap.size = W1.heap.size → Calm w.heap.size W1 W2 → w.heap.size ≤ l → (∃ r, W2.heap[l]? = some (.loop r)) → body.wpIn (Fence.wide.inRound l) (n - 1 - 1) P (RoundOwn I Ix (pre ++ [x]) W2) a₁ W2)
        (fun _ _ _ => False)) { tmps := (ps.zip (encs x)).foldl (fun t (p, v) => t.setIfInBounds p v) a.tmps, defers := [] } W)
    (hdone : ∀ (D : Nat) (W2 W3 W4 : World), I xs W2 → Fin W2 W3 → Calm w.heap.size W3 W4 → w.heap.size ≤ D → W4.heap[D]? = some (.deferred (some [])) → Q .normal { a with defers := { target := .collected D, args := #[] } :: a.defers } W4)
    (hstop : ∀ (D : Nat) (c : Code) (W4 : World), Ix c W4 → w.heap.size ≤ D → W4.heap[D]? = some (.deferred (some [])) → c.wpIn Fence.wide n P Q { a with defers := { target := .collected D, args := #[] } :: a.defers } W4) :
    (Code.rangeFunc g ps assign body).wpIn Fence.wide n P Q a w := by
  refine wpIn_rangeFunc fun fn _ => ?_
  have hro : Fence.wide.round = none := rfl
  rw [hro]
  obtain ⟨D, hD⟩ : ∃ D, D = w.heap.size := ⟨_, rfl⟩
  obtain ⟨rc, hrc⟩ : ∃ rc : LoopState → Option Code → Obj, rc = fun st pe => .loop { state := st, pending := pe, fn, tmps := a.tmps, params := ps, assign, body, defers := w.heap.size } := ⟨_, rfl⟩
  obtain ⟨W1, hW1⟩ : ∃ W1, W1 = (w.alloc (.deferred (some []))).alloc (rc .ready none) := ⟨_, rfl⟩
  have hb1 : Below w.heap.size w W1 := by rw [hW1]; exact Bel.al (Bel.new w _) _
  have hD1 : W1.heap[D]? = some (.deferred (some [])) := by rw [hW1, hD]; exact (Below.heap_alloc _ _ _ (by simp)).trans (World.alloc_heap_new w _)
  have hl1 : W1.heap[D + 1]? = some (rc .ready none) := by
    rw [hW1, hD]; have := World.alloc_heap_new (w.alloc (.deferred (some []))) (rc .ready none); rwa [World.size_alloc] at this
  have hcells : ∀ st pe, (rc st pe).isCells = false := fun st pe => by rw [hrc]; rfl
  refine ⟨D + 1, [{ target := .collected D, args := #[] }], W1, { target := .fn (.func gf) lb, args := #[.func (.yield (D + 1)) #[] #[]] }, W1, gf, #[.func (.yield (D + 1)) #[] #[]] ++ lb, W1, ?_, ?_, fun _ _ => trivial, ?_, fun h => (by cases h), ?_⟩
  · rw [hW1, hrc, hD]; exact run_enterLoop_outer _ _ _ _ _
  · simp only [resolve, hg]
    simp [go_sem]
  · simp [invoke, go_sem, eg]
  refine (hseq (D + 1) (fun d A => I d A ∧ A.heap[D]? = some (.deferred (some [])) ∧ A.heap[D + 1]? = some (rc .ready none))
    (fun A => ∃ c, Ix c A ∧ A.heap[D]? = some (.deferred (some [])) ∧ A.heap[D + 1]? = some (rc .done (some c))) W1 ?_ (fun d A h => hK d A h.1) ?_ ⟨hI _ _ _ h0 (Calm.of hb1 (Nat.le_refl _)), hD1, hl1⟩).mono ?_
  · rintro d A B ⟨hi, hd, hl⟩ hb
    have hlt := (Array.getElem?_eq_some_iff.1 hl).1
    exact ⟨hI _ _ _ hi (Calm.of hb (by omega)), (hb.block _ (by omega)).trans hd, (hb.block _ hlt).trans hl⟩
  · rintro pre x rest W hx ⟨hi, hd, hl⟩
    have hlt := (Array.getElem?_eq_some_iff.1 hl).1
    have hl' := hl
    rw [hrc] at hl'
    refine ⟨fn, _, assign, body, run_yield (args := encs x) hl' (hps x), roundIn_of_wpIn trivial (wpIn_mono (hround (D + 1) pre x rest W hx hi (by omega)) ?_)⟩
    rintro e a₁ W2 hq
    cases e with
    | normal =>
      obtain ⟨hk, hq⟩ := hq
      have hl2 := hk.same _ _ hl (hcells _ _)
      have hd2 := hk.same _ _ hd rfl
      have hlt2 := (Array.getElem?_eq_some_iff.1 hl2).1
      have hl2' := hl2
      rw [hrc] at hl2'
      refine ⟨_, run_beginRound hl2' rfl, ?_⟩
      have hl3 : (W2.putObj (D + 1) (rc .busy none)).heap[D + 1]? = some (rc .busy none) := World.putObj_heap_same hlt2
      have hd3 : (W2.putObj (D + 1) (rc .busy none)).heap[D]? = some (.deferred (some [])) := (World.putObj_heap_other (by omega)).trans hd2
      have hq3 := hq (W2.putObj (D + 1) (rc .busy none)) (by simp) (Calm.putObj _ _ hl2 (hcells _ _) (by omega)) (by omega) ⟨_, by rw [hl3, hrc]⟩
      have hfin : ∀ (j : Option Code) (W3 : World), KeepsOthers (W2.putObj (D + 1) (rc .busy none)) W3 →
          (Instr.endRound (D + 1) j).run P W3 = .ok (.bool j.isNone) (W3.putObj (D + 1) (rc (if j.isNone then .ready else .done) j)) ∧
          Calm w.heap.size W3 (W3.putObj (D + 1) (rc (if j.isNone then .ready else .done) j)) ∧
          (W3.putObj (D + 1) (rc (if j.isNone then .ready else .done) j)).heap[D]? = some (.deferred (some [])) ∧
          (W3.putObj (D + 1) (rc (if j.isNone then .ready else .done) j)).heap[D + 1]? = some (rc (if j.isNone then .ready else .done) j) := fun j W3 k3 => by
        have hl4 := k3.same _ _ hl3 (hcells _ _)
        have hd4 := k3.same _ _ hd3 rfl
        have hl4' := hl4
        rw [hrc] at hl4'
        refine ⟨?_, Calm.putObj _ _ hl4 (hcells _ _) (by omega), (World.putObj_heap_other (by omega)).trans hd4, World.putObj_heap_same (Array.getElem?_eq_some_iff.1 hl4).1⟩
        have := run_endRound (P := P) j hl4'
        rw [hrc]; exact this
      rw [hrc] at hq3
      refine wpIn_mono hq3 ?_
      rintro e a₃ W3 hp
      rw [← hrc] at hp
      cases e with
      | normal =>
        obtain ⟨h1, h2, h3, h4⟩ := hfin none W3 hp.1
        exact ⟨_, _, h1, .inl ⟨rfl, hI _ _ _ hp.2 h2, h3, h4⟩⟩
      | ret =>
        obtain ⟨h1, h2, h3, h4⟩ := hfin (some .ret) W3 hp.1
        exact ⟨_, _, h1, .inr ⟨rfl, _, hIx _ _ _ hp.2 h2, h3, h4⟩⟩
      | exit id =>
        obtain ⟨h1, h2, h3, h4⟩ := hfin (some (.exit id)) W3 hp.1
        exact ⟨_, _, h1, .inr ⟨rfl, _, hIx _ _ _ hp.2 h2, h3, h4⟩⟩
      | goto t =>
        obtain ⟨h1, h2, h3, h4⟩ := hfin (some (.goto t)) W3 hp.1
        exact ⟨_, _, h1, .inr ⟨rfl, _, hIx _ _ _ hp.2 h2, h3, h4⟩⟩
      | panic ch => exact hp.elim
      | outgrown => exact hp.elim
    | _ => exact hq.elim
  · rintro e W2 ⟨⟨u, rfl⟩, (⟨W3, ⟨hi, hd, hl⟩, hf⟩ | ⟨c, hi, hd, hl⟩)⟩
    · have hk := hFin _ _ hf
      have hl2 := hk.same _ _ hl (hcells _ _)
      have hd2 := hk.same _ _ hd rfl
      have hl2' := hl2
      rw [hrc] at hl2'
      exact ⟨none, _, run_endLoop hl2' (by simp), hdone D W3 W2 _ hi hf (Calm.putObj _ _ hl2 (hcells _ _) (by omega)) (by omega) ((World.putObj_heap_other (by omega)).trans hd2)⟩
    · have hl' := hl
      rw [hrc] at hl'
      exact ⟨some c, _, run_endLoop hl' (by simp), hstop D c _ (hIx _ _ _ hi (Calm.putObj _ _ hl (hcells _ _) (by omega))) (by omega) ((World.putObj_heap_other (by omega)).trans hd)⟩
theorem range_in {α : Type} {P : Program} {n : Nat} {g : Operand} {ps : Array Tmp} {assign body : Code} {Q : Exit → Act → World → Prop} {a : Act} {w : World} {l₀ : Nat} {r₀ : Loop} (hl₀ : w.heap[l₀]? = some (.loop r₀))
    {gf : Nat} {lb : Array Value} (hg : a.eval g = .func (.func gf) #[] lb) (eg : ∀ args w, (callFunc gf args).run P w = .ok (.enter gf args) w)
    {encs : α → Array Value} (hps : ∀ x, (encs x).size = ps.size) (xs : List α) (Kn : World → Prop) (Fin : World → World → Prop) (hseq : SeqTo P (n - 1) gf lb encs xs Kn Fin)
    (hFin : ∀ A B, Fin A B → KeepsOthers A B)
    (I : List α → World → Prop) (Ix : Code → World → Prop)
    (hI : ∀ d A B, I d A → Calm w.heap.size A B → I d B) (hIx : ∀ c A B, Ix c A → Calm w.heap.size A B → Ix c B) (hK : ∀ d A, I d A → Kn A) (h0 : I [] w)
    (hround : ∀ (l : Nat) (pre : List α) (x : α) (rest : List α) (W : World), xs = pre ++ x :: rest → I pre W → w.heap.size ≤ W.heap.size →
      assign.wpIn (Fence.wide.inRound l) (n - 1 - 1) P (Exit.then (fun a₁ W1 => KeepsOthers W W1 ∧ ∀ W2, W2.heap.size = W1.heap.size → Calm w.heap.size W1 W2 → body.wpIn (Fence.wide.inRound l) (n - 1 - 1) P (RoundOwn I Ix (pre ++ [x]) W2) a₁ W2)
        (fun _ _ _ => False)) { tmps := (ps.zip (encs x)).foldl (fun t (p, v) => t.setIfInBounds p v) a.tmps, defers := [] } W)
    (hdone : ∀ (W2 W3 W4 : World), I xs W2 → Fin W2 W3 → Calm w.heap.size W3 W4 → Q .normal a W4)
    (hstop : ∀ (c : Code) (W4 : World), Ix c W4 → c.wpIn (Fence.wide.inRound l₀) n P Q a W4) :
    (Code.rangeFunc g ps assign body).wpIn (Fence.wide.inRound l₀) n P Q a w := by
  refine wpIn_rangeFunc fun fn _ => ?_
  have hro : (Fence.wide.inRound l₀).round = some l₀ := rfl
  rw [hro]
  obtain ⟨rc, hrc⟩ : ∃ rc : LoopState → Option Code → Obj, rc = fun st pe => .loop { state := st, pending := pe, fn, tmps := a.tmps, params := ps, assign, body, defers := r₀.defers } := ⟨_, rfl⟩
  obtain ⟨L, hL⟩ : ∃ L, L = w.heap.size := ⟨_, rfl⟩
  obtain ⟨W1, hW1⟩ : ∃ W1, W1 = w.alloc (rc .ready none) := ⟨_, rfl⟩
  have hb1 : Below w.heap.size w W1 := by rw [hW1]; exact Bel.new w _
  have hl1 : W1.heap[L]? = some (rc .ready none) := by
    rw [hW1, hL]; exact World.alloc_heap_new w _
  have hcells : ∀ st pe, (rc st pe).isCells = false := fun st pe => by rw [hrc]; rfl
  refine ⟨L, [], W1, { target := .fn (.func gf) lb, args := #[.func (.yield L) #[] #[]] }, W1, gf, #[.func (.yield L) #[] #[]] ++ lb, W1, ?_, ?_, fun _ _ => trivial, ?_, fun h => (by cases h), ?_⟩
  · rw [hW1, hrc, hL]; exact run_enterLoop_inner hl₀ _ _ _ _ _
  · simp only [resolve, hg]
    simp [go_sem]
  · simp [invoke, go_sem, eg]
  refine (hseq L (fun d A => I d A ∧ A.heap[L]? = some (rc .ready none))
    (fun A => ∃ c, Ix c A ∧ A.heap[L]? = some (rc .done (some c))) W1 ?_ (fun d A h => hK d A h.1) ?_ ⟨hI _ _ _ h0 (Calm.of hb1 (Nat.le_refl _)), hl1⟩).mono ?_
  · rintro d A B ⟨hi, hl⟩ hb
    have hlt := (Array.getElem?_eq_some_iff.1 hl).1
    exact ⟨hI _ _ _ hi (Calm.of hb (by omega)), (hb.block _ hlt).trans hl⟩
  · rintro pre x rest W hx ⟨hi, hl⟩
    have hlt := (Array.getElem?_eq_some_iff.1 hl).1
    have hl' := hl
    rw [hrc] at hl'
    refine ⟨fn, _, assign, body, run_yield (args := encs x) hl' (hps x), roundIn_of_wpIn trivial (wpIn_mono (hround L pre x rest W hx hi (by omega)) ?_)⟩
    rintro e a₁ W2 hq
    cases e with
    | normal =>
      obtain ⟨hk, hq⟩ := hq
      have hl2 := hk.same _ _ hl (hcells _ _)
      have hlt2 := (Array.getElem?_eq_some_iff.1 hl2).1
      have hl2' := hl2
      rw [hrc] at hl2'
      refine ⟨_, run_beginRound hl2' rfl, ?_⟩
      have hl3 : (W2.putObj L (rc .busy none)).heap[L]? = some (rc .busy none) := World.putObj_heap_same hlt2
      have hq3 := hq (W2.putObj L (rc .busy none)) (by simp) (Calm.putObj _ _ hl2 (hcells _ _) (by omega))
      have hfin : ∀ (j : Option Code) (W3 : World), KeepsOthers (W2.putObj L (rc .busy none)) W3 →
          (Instr.endRound L j).run P W3 = .ok (.bool j.isNone) (W3.putObj L (rc (if j.isNone then .ready else .done) j)) ∧
          Calm w.heap.size W3 (W3.putObj L (rc (if j.isNone then .ready else .done) j)) ∧
          (W3.putObj L (rc (if j.isNone then .ready else .done) j)).heap[L]? = some (rc (if j.isNone then .ready else .done) j) := fun j W3 k3 => by
        have hl4 := k3.same _ _ hl3 (hcells _ _)
        have hl4' := hl4
        rw [hrc] at hl4'
        refine ⟨?_, Calm.putObj _ _ hl4 (hcells _ _) (by omega), World.putObj_heap_same (Array.getElem?_eq_some_iff.1 hl4).1⟩
        have := run_endRound (P := P) j hl4'
        rw [hrc]; exact this
      rw [hrc] at hq3
      refine wpIn_mono hq3 ?_
      rintro e a₃ W3 hp
      rw [← hrc] at hp
      cases e with
      | normal =>
        obtain ⟨h1, h2, h4⟩ := hfin none W3 hp.1
        exact ⟨_, _, h1, .inl ⟨rfl, hI _ _ _ hp.2 h2, h4⟩⟩
      | ret =>
        obtain ⟨h1, h2, h4⟩ := hfin (some .ret) W3 hp.1
        exact ⟨_, _, h1, .inr ⟨rfl, _, hIx _ _ _ hp.2 h2, h4⟩⟩
      | exit id =>
        obtain ⟨h1, h2, h4⟩ := hfin (some (.exit id)) W3 hp.1
        exact ⟨_, _, h1, .inr ⟨rfl, _, hIx _ _ _ hp.2 h2, h4⟩⟩
      | goto t =>
        obtain ⟨h1, h2, h4⟩ := hfin (some (.goto t)) W3 hp.1
        exact ⟨_, _, h1, .inr ⟨rfl, _, hIx _ _ _ hp.2 h2, h4⟩⟩
      | panic ch => exact hp.elim
      | outgrown => exact hp.elim
    | _ => exact hq.elim
  · rintro e W2 ⟨⟨u, rfl⟩, (⟨W3, ⟨hi, hl⟩, hf⟩ | ⟨c, hi, hl⟩)⟩
    · have hk := hFin _ _ hf
      have hl2 := hk.same _ _ hl (hcells _ _)
      have hl2' := hl2
      rw [hrc] at hl2'
      exact ⟨none, _, run_endLoop hl2' (by simp), hdone W3 W2 _ hi hf (Calm.putObj _ _ hl2 (hcells _ _) (by omega))⟩
    · have hl' := hl
      rw [hrc] at hl'
      exact ⟨some c, _, run_endLoop hl' (by simp), hstop c _ (hIx _ _ _ hi (Calm.putObj _ _ hl (hcells _ _) (by omega)))⟩
end Go.Proofs.Ytdigcbkjlppenaa
