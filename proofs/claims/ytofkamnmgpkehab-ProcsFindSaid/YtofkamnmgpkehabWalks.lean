import Derived.Test.YtofkamnmgpkehabRange
import Derived.Sort.QuietIn
import Derived.RangeFuncNested
import Derived.Test.YtofkamnmgpkehabEq39
import Derived.Laws.EntriesVeiled
/- A region that draws its order and only reads, within a round of a range over a function. -/
namespace Go
open Go.RowKit
section
variable {F : Fence} {n : Nat} {P : Program} {ops : Array Oper} {C : World → Prop} {md : Region.Mode}
def noDefer (o : Oper) : Bool := match o.op with | .defer _ => false | _ => true
theorem noDefer_spec {o : Oper} (h : noDefer o = true) : ∀ c, o.op ≠ .defer c := fun c e => by
  unfold noDefer at h; rw [e] at h; cases h
theorem Oper.wpIn_of_quietR {o : Oper} {a : Act} {K : Act → Prop} {K' : Act → World → Prop} {Q' : Exit → Act → World → Prop} {w : World} (hro : noDefer o = true) (hw : C w) (h : ∀ a w', C w' → K a → K' a w')
    (ha : o.askedIn F P a C) (hh : o.quietIn F n P a C K) : o.wpIn F n P a w K' Q' := by
  obtain ⟨v, h1, h2⟩ := hh
  have h3 := h1 w hw
  unfold Oper.quietAtIn at h3
  unfold Oper.wpIn
  refine ⟨ha w hw, ?_⟩
  rw [Oper.semAt_eq _ _ _ (noDefer_spec hro)]
  generalize (execOp a.eval o).run P w = r at *
  cases r with
  | ok x w' =>
    cases x <;> simp only [Oper.quietUponIn] at h3 <;> simp only [Oper.uponIn]
    case value u =>
      obtain ⟨e1, e2⟩ := h3
      rw [e1, e2]
      exact h _ _ hw h2
    case skip =>
      obtain ⟨e1, e2⟩ := h3
      rw [e1, ← e2]
      exact h _ _ hw h2
    case enter f args =>
      obtain ⟨e1, hd, hc⟩ := h3
      rw [e1]
      exact ⟨hd, hc.mono fun e w'' ⟨he, hw''⟩ => by subst he; exact h _ _ hw'' h2⟩
  | halt x w' => simp only [Oper.quietUponIn] at h3
theorem wpOpIn_of_qOpInR {i : Nat} {a : Act} {K : Act → Prop} {K' : Act → World → Prop} {Q' : Exit → Act → World → Prop} {w : World} (hro : ∀ o, ops[i]? = some o → noDefer o = true) (hC : C w) (h : ∀ a w', C w' → K a → K' a w')
    (hh : qOpIn F n P ops C i K a) : wpOpIn F n P ops Q' i K' a w := by
  unfold qOpIn at hh
  unfold wpOpIn
  split
  · rename_i ho; simp only [ho] at hh; exact h _ _ hC hh
  · rename_i o ho
    simp only [ho] at hh
    obtain ⟨ha, hh⟩ := hh
    split
    · rename_i hw; simp only [hw, if_true] at hh; exact Oper.wpIn_of_quietR (hro o ho) hC h ha hh
    · rename_i hw; simp only [hw] at hh; exact ⟨ha w hC, h _ _ hC hh⟩
theorem wpAnyIn_of_quietR {Q : Act → Prop} {Q' : Exit → Act → World → Prop} (hro : ∀ (i : Nat) o, ops[i]? = some o → noDefer o = true) (hQ : ∀ a w, C w → Q a → Q' .normal a w) : ∀ (fuel : Nat) (listed : Array Bool) (a : Act) (w : World), C w →
    wpAnyQIn F n P md ops C Q fuel listed a → wpAnyIn F n P md ops Q' fuel listed a w
  | 0, _, _, _, hw, h => ⟨h.1, hQ _ _ hw h.2⟩
  | fuel + 1, _, _, _, hw, h => ⟨fun h0 => hQ _ _ hw (h.1 h0), fun i hi => wpOpIn_of_qOpInR (hro i) hw (fun a' w' hw' => wpAnyIn_of_quietR hro hQ fuel _ a' w' hw') (h.2 i hi)⟩
theorem wpIn_region_quietR_lit {id : Nat} {Q : Exit → Act → World → Prop} {a : Act} {w : World} {l : List Oper} (hd : l.all noDefer = true) (hm : P.follows .mixedOrders = true) (hB : Region.lexB .any l.toArray = true)
    (h : wpQuietIn F n P l.toArray (fun w' => ∃ n, w' = w.drewN n) (fun a' => ∀ w', (∃ n, w' = w.drewN n) → Q .normal a' w') l a) : (Code.region id l.toArray true).wpIn F n P Q a w := by
  simp only [Region.lexB, Bool.and_eq_true] at hB
  refine wpIn_region_any hm (wpAnyIn_of_quietR (C := fun w' => ∃ n, w' = w.drewN n) (Q := fun a' => ∀ w', (∃ n, w' = w.drewN n) → Q .normal a' w') (fun i o ho => ?_) (fun _ w' hw' h => h w' hw') _ _ _ _ ⟨1, rfl⟩ ?_)
  · exact List.all_eq_true.1 hd o (by
      rw [List.getElem?_toArray] at ho
      exact List.mem_of_getElem? ho)
  · have := wpAnyQIn_lex (F := F) (n := n) (C := fun w' => ∃ n, w' = w.drewN n) (md := .any) hB.1 l 0 (Array.replicate l.toArray.size false) a (by simp) (by simpa using hB.2) h
    simpa using this
end
end Go
/- A range over a function within a round of another. -/
namespace Go.Proofs.Ytofkamnmgpkehab
open Go.RowKit
theorem range_to2 {α : Type} {P : Program} {n : Nat} {g : Operand} {ps : Array Tmp} {assign body : Code} {Q : Exit → Act → World → Prop} {a : Act} {w : World}
    {gf : Nat} {lb : Array Value} (hg : a.eval g = .func (.func gf) #[] lb) (eg : ∀ args w, (callFunc gf args).run P w = .ok (.enter gf args) w)
    {encs : α → Array Value} (hps : ∀ x, (encs x).size = ps.size) (xs : List α) (Kn : World → Prop) (Fin : World → World → Prop) (hseq : SeqTo P (n - 1) gf lb encs xs Kn Fin)
    (hFin : ∀ A B, Fin A B → KeepsOthers A B)
    (I : List α → World → Prop) (Ix : Code → World → Prop)
    (hI : ∀ d A B, I d A → Calm w.heap.size A B → I d B) (hIx : ∀ c A B, Ix c A → Calm w.heap.size A B → Ix c B) (hK : ∀ d A, I d A → Kn A) (h0 : I [] w)
    (hround : ∀ (l : Nat) (pre : List α) (x : α) (rest : List α) (W : World), xs = pre ++ x :: rest → I pre W → w.heap.size ≤ W.heap.size →
      assign.wpIn (Fence.wide.inRound l) (n - 1 - 1) P (Exit.then (fun a₁ W1 => KeepsOthers W W1 ∧ ∀ W2, W2.heap.size = W1.heap.size → Calm w.heap.size W1 W2 → w.heap.size ≤ l → (∃ r, W2.heap[l]? = some (.loop r)) → body.wpIn (Fence.wide.inRound l) (n - 1 - 1) P (RoundOwn I Ix (pre ++ [x]) W2) a₁ W2)
        (fun _ _ _ => False)) { tmps := (ps.zip (encs x)).foldl (fun t (p, v) => t.setIfInBounds p v) a.tmps, defers := [] } W)
    (hdone : ∀ (D : Nat) (W2 W3 W4 : World), I xs W2 → Fin W2 W3 → Calm w.heap.size W3 W4 → w.heap.size ≤ D → W4.heap[D]? = some (.deferred (some [])) → Q .normal { a with defers := { target := .collected D, args := #[] } :: a.defers } W4)
    (hstop : ∀ (D : Nat) (c : Code) (W4 : World), Ix c W4 → w.heap.size ≤ D → W4.heap[D]? = some (.deferred (some [])) → c.wpIn Fence.wide n P Q { a with defers := { target := .collected D, args := #[] } :: a.defers } W4) :
    (Code.rangeFunc g ps assign body).wpIn Fence.wide n P Q a w := by
  refine wpIn_rangeFunc fun fn _ => ?_
  have hro : Fence.wide.round = none := rfl
  rw [hro]
  obtain ⟨D, hD⟩ : ∃ D, D = w.heap.size := ⟨_, rfl⟩
  obtain ⟨rc, hrc⟩ : ∃ rc : LoopState → Option Code → Obj, rc = fun st pe => .loop { state := st, pending := pe, fn, tmps := a.tmps, params := ps, assign, body, defers := w.heap.size } := ⟨_, rfl⟩
  obtain ⟨W1, hW1⟩ : ∃ W1, W1 = (w.alloc (.deferred (some []))).alloc (rc .ready none) := ⟨_, rfl⟩
  have hb1 : Below w.heap.size w W1 := by rw [hW1]; exact Bel.al (Bel.new w _) _
  have hD1 : W1.heap[D]? = some (.deferred (some [])) := by rw [hW1, hD]; exact (Below.heap_alloc _ _ _ (by simp)).trans (World.alloc_heap_new w _)
  have hl1 : W1.heap[D + 1]? = some (rc .ready none) := by
    rw [hW1, hD]; have := World.alloc_heap_new (w.alloc (.deferred (some []))) (rc .ready none); rwa [World.size_alloc] at this
  have hcells : ∀ st pe, (rc st pe).isCells = false := fun st pe => by rw [hrc]; rfl
  refine ⟨D + 1, [{ target := .collected D, args := #[] }], W1, { target := .fn (.func gf) lb, args := #[.func (.yield (D + 1)) #[] #[]] }, W1, gf, #[.func (.yield (D + 1)) #[] #[]] ++ lb, W1, ?_, ?_, fun _ _ => trivial, ?_, fun h => (by cases h), ?_⟩
  · rw [hW1, hrc, hD]; exact run_enterLoop_outer _ _ _ _ _
  · simp only [resolve, hg]
    simp [go_sem]
  · simp [invoke, go_sem, eg]
  refine (hseq (D + 1) (fun d A => I d A ∧ A.heap[D]? = some (.deferred (some [])) ∧ A.heap[D + 1]? = some (rc .ready none))
    (fun A => ∃ c, Ix c A ∧ A.heap[D]? = some (.deferred (some [])) ∧ A.heap[D + 1]? = some (rc .done (some c))) W1 ?_ (fun d A h => hK d A h.1) ?_ ⟨hI _ _ _ h0 (Calm.of hb1 (Nat.le_refl _)), hD1, hl1⟩).mono ?_
  · rintro d A B ⟨hi, hd, hl⟩ hb
    have hlt := (Array.getElem?_eq_some_iff.1 hl).1
    exact ⟨hI _ _ _ hi (Calm.of hb (by omega)), (hb.block _ (by omega)).trans hd, (hb.block _ hlt).trans hl⟩
  · rintro pre x rest W hx ⟨hi, hd, hl⟩
    have hlt := (Array.getElem?_eq_some_iff.1 hl).1
    have hl' := hl
    rw [hrc] at hl'
    refine ⟨fn, _, assign, body, run_yield (args := encs x) hl' (hps x), roundIn_of_wpIn trivial (wpIn_mono (hround (D + 1) pre x rest W hx hi (by omega)) ?_)⟩
    rintro e a₁ W2 hq
    cases e with
    | normal =>
      obtain ⟨hk, hq⟩ := hq
      have hl2 := hk.same _ _ hl (hcells _ _)
      have hd2 := hk.same _ _ hd rfl
      have hlt2 := (Array.getElem?_eq_some_iff.1 hl2).1
      have hl2' := hl2
      rw [hrc] at hl2'
      refine ⟨_, run_beginRound hl2' rfl, ?_⟩
      have hl3 : (W2.putObj (D + 1) (rc .busy none)).heap[D + 1]? = some (rc .busy none) := World.putObj_heap_same hlt2
      have hd3 : (W2.putObj (D + 1) (rc .busy none)).heap[D]? = some (.deferred (some [])) := (World.putObj_heap_other (by omega)).trans hd2
      have hq3 := hq (W2.putObj (D + 1) (rc .busy none)) (by simp) (Calm.putObj _ _ hl2 (hcells _ _) (by omega)) (by omega) ⟨_, by rw [hl3, hrc]⟩
      have hfin : ∀ (j : Option Code) (W3 : World), KeepsOthers (W2.putObj (D + 1) (rc .busy none)) W3 →
          (Instr.endRound (D + 1) j).run P W3 = .ok (.bool j.isNone) (W3.putObj (D + 1) (rc (if j.isNone then .ready else .done) j)) ∧
          Calm w.heap.size W3 (W3.putObj (D + 1) (rc (if j.isNone then .ready else .done) j)) ∧
          (W3.putObj (D + 1) (rc (if j.isNone then .ready else .done) j)).heap[D]? = some (.deferred (some [])) ∧
          (W3.putObj (D + 1) (rc (if j.isNone then .ready else .done) j)).heap[D + 1]? = some (rc (if j.isNone then .ready else .done) j) := fun j W3 k3 => by
        have hl4 := k3.same _ _ hl3 (hcells _ _)
        have hd4 := k3.same _ _ hd3 rfl
        have hl4' := hl4
        rw [hrc] at hl4'
        refine ⟨?_, Calm.putObj _ _ hl4 (hcells _ _) (by omega), (World.putObj_heap_other (by omega)).trans hd4, World.putObj_heap_same (Array.getElem?_eq_some_iff.1 hl4).1⟩
        have := run_endRound (P := P) j hl4'
        rw [hrc]; exact this
      rw [hrc] at hq3
      refine wpIn_mono hq3 ?_
      rintro e a₃ W3 hp
      rw [← hrc] at hp
      cases e with
      | normal =>
        obtain ⟨h1, h2, h3, h4⟩ := hfin none W3 hp.1
        exact ⟨_, _, h1, .inl ⟨rfl, hI _ _ _ hp.2 h2, h3, h4⟩⟩
      | ret =>
        obtain ⟨h1, h2, h3, h4⟩ := hfin (some .ret) W3 hp.1
        exact ⟨_, _, h1, .inr ⟨rfl, _, hIx _ _ _ hp.2 h2, h3, h4⟩⟩
      | exit id =>
        obtain ⟨h1, h2, h3, h4⟩ := hfin (some (.exit id)) W3 hp.1
        exact ⟨_, _, h1, .inr ⟨rfl, _, hIx _ _ _ hp.2 h2, h3, h4⟩⟩
      | goto t =>
        obtain ⟨h1, h2, h3, h4⟩ := hfin (some (.goto t)) W3 hp.1
        exact ⟨_, _, h1, .inr ⟨rfl, _, hIx _ _ _ hp.2 h2, h3, h4⟩⟩
      | panic ch => exact hp.elim
      | outgrown => exact hp.elim
    | _ => exact hq.elim
  · rintro e W2 ⟨⟨u, rfl⟩, (⟨W3, ⟨hi, hd, hl⟩, hf⟩ | ⟨c, hi, hd, hl⟩)⟩
    · have hk := hFin _ _ hf
      have hl2 := hk.same _ _ hl (hcells _ _)
      have hd2 := hk.same _ _ hd rfl
      have hl2' := hl2
      rw [hrc] at hl2'
      exact ⟨none, _, run_endLoop hl2' (by simp), hdone D W3 W2 _ hi hf (Calm.putObj _ _ hl2 (hcells _ _) (by omega)) (by omega) ((World.putObj_heap_other (by omega)).trans hd2)⟩
    · have hl' := hl
      rw [hrc] at hl'
      exact ⟨some c, _, run_endLoop hl' (by simp), hstop D c _ (hIx _ _ _ hi (Calm.putObj _ _ hl (hcells _ _) (by omega))) (by omega) ((World.putObj_heap_other (by omega)).trans hd)⟩
theorem range_in {α : Type} {P : Program} {n : Nat} {g : Operand} {ps : Array Tmp} {assign body : Code} {Q : Exit → Act → World → Prop} {a : Act} {w : World} {l₀ : Nat} {r₀ : Loop} (hl₀ : w.heap[l₀]? = some (.loop r₀))
    {gf : Nat} {lb : Array Value} (hg : a.eval g = .func (.func gf) #[] lb) (eg : ∀ args w, (callFunc gf args).run P w = .ok (.enter gf args) w)
    {encs : α → Array Value} (hps : ∀ x, (encs x).size = ps.size) (xs : List α) (Kn : World → Prop) (Fin : World → World → Prop) (hseq : SeqTo P (n - 1) gf lb encs xs Kn Fin)
    (hFin : ∀ A B, Fin A B → KeepsOthers A B)
    (I : List α → World → Prop) (Ix : Code → World → Prop)
    (hI : ∀ d A B, I d A → Calm w.heap.size A B → I d B) (hIx : ∀ c A B, Ix c A → Calm w.heap.size A B → Ix c B) (hK : ∀ d A, I d A → Kn A) (h0 : I [] w)
    (hround : ∀ (l : Nat) (pre : List α) (x : α) (rest : List α) (W : World), xs = pre ++ x :: rest → I pre W → w.heap.size ≤ W.heap.size →
      assign.wpIn (Fence.wide.inRound l) (n - 1 - 1) P (Exit.then (fun a₁ W1 => KeepsOthers W W1 ∧ ∀ W2, W2.heap.size = W1.heap.size → Calm w.heap.size W1 W2 → body.wpIn (Fence.wide.inRound l) (n - 1 - 1) P (RoundOwn I Ix (pre ++ [x]) W2) a₁ W2)
        (fun _ _ _ => False)) { tmps := (ps.zip (encs x)).foldl (fun t (p, v) => t.setIfInBounds p v) a.tmps, defers := [] } W)
    (hdone : ∀ (W2 W3 W4 : World), I xs W2 → Fin W2 W3 → Calm w.heap.size W3 W4 → Q .normal a W4)
    (hstop : ∀ (c : Code) (W4 : World), Ix c W4 → c.wpIn (Fence.wide.inRound l₀) n P Q a W4) :
    (Code.rangeFunc g ps assign body).wpIn (Fence.wide.inRound l₀) n P Q a w := by
  refine wpIn_rangeFunc fun fn _ => ?_
  have hro : (Fence.wide.inRound l₀).round = some l₀ := rfl
  rw [hro]
  obtain ⟨rc, hrc⟩ : ∃ rc : LoopState → Option Code → Obj, rc = fun st pe => .loop { state := st, pending := pe, fn, tmps := a.tmps, params := ps, assign, body, defers := r₀.defers } := ⟨_, rfl⟩
  obtain ⟨L, hL⟩ : ∃ L, L = w.heap.size := ⟨_, rfl⟩
  obtain ⟨W1, hW1⟩ : ∃ W1, W1 = w.alloc (rc .ready none) := ⟨_, rfl⟩
  have hb1 : Below w.heap.size w W1 := by rw [hW1]; exact Bel.new w _
  have hl1 : W1.heap[L]? = some (rc .ready none) := by
    rw [hW1, hL]; exact World.alloc_heap_new w _
  have hcells : ∀ st pe, (rc st pe).isCells = false := fun st pe => by rw [hrc]; rfl
  refine ⟨L, [], W1, { target := .fn (.func gf) lb, args := #[.func (.yield L) #[] #[]] }, W1, gf, #[.func (.yield L) #[] #[]] ++ lb, W1, ?_, ?_, fun _ _ => trivial, ?_, fun h => (by cases h), ?_⟩
  · rw [hW1, hrc, hL]; exact run_enterLoop_inner hl₀ _ _ _ _ _
  · simp only [resolve, hg]
    simp [go_sem]
  · simp [invoke, go_sem, eg]
  refine (hseq L (fun d A => I d A ∧ A.heap[L]? = some (rc .ready none))
    (fun A => ∃ c, Ix c A ∧ A.heap[L]? = some (rc .done (some c))) W1 ?_ (fun d A h => hK d A h.1) ?_ ⟨hI _ _ _ h0 (Calm.of hb1 (Nat.le_refl _)), hl1⟩).mono ?_
  · rintro d A B ⟨hi, hl⟩ hb
    have hlt := (Array.getElem?_eq_some_iff.1 hl).1
    exact ⟨hI _ _ _ hi (Calm.of hb (by omega)), (hb.block _ hlt).trans hl⟩
  · rintro pre x rest W hx ⟨hi, hl⟩
    have hlt := (Array.getElem?_eq_some_iff.1 hl).1
    have hl' := hl
    rw [hrc] at hl'
    refine ⟨fn, _, assign, body, run_yield (args := encs x) hl' (hps x), roundIn_of_wpIn trivial (wpIn_mono (hround L pre x rest W hx hi (by omega)) ?_)⟩
    rintro e a₁ W2 hq
    cases e with
    | normal =>
      obtain ⟨hk, hq⟩ := hq
      have hl2 := hk.same _ _ hl (hcells _ _)
      have hlt2 := (Array.getElem?_eq_some_iff.1 hl2).1
      have hl2' := hl2
      rw [hrc] at hl2'
      refine ⟨_, run_beginRound hl2' rfl, ?_⟩
      have hl3 : (W2.putObj L (rc .busy none)).heap[L]? = some (rc .busy none) := World.putObj_heap_same hlt2
      have hq3 := hq (W2.putObj L (rc .busy none)) (by simp) (Calm.putObj _ _ hl2 (hcells _ _) (by omega))
      have hfin : ∀ (j : Option Code) (W3 : World), KeepsOthers (W2.putObj L (rc .busy none)) W3 →
          (Instr.endRound L j).run P W3 = .ok (.bool j.isNone) (W3.putObj L (rc (if j.isNone then .ready else .done) j)) ∧
          Calm w.heap.size W3 (W3.putObj L (rc (if j.isNone then .ready else .done) j)) ∧
          (W3.putObj L (rc (if j.isNone then .ready else .done) j)).heap[L]? = some (rc (if j.isNone then .ready else .done) j) := fun j W3 k3 => by
        have hl4 := k3.same _ _ hl3 (hcells _ _)
        have hl4' := hl4
        rw [hrc] at hl4'
        refine ⟨?_, Calm.putObj _ _ hl4 (hcells _ _) (by omega), World.putObj_heap_same (Array.getElem?_eq_some_iff.1 hl4).1⟩
        have := run_endRound (P := P) j hl4'
        rw [hrc]; exact this
      rw [hrc] at hq3
      refine wpIn_mono hq3 ?_
      rintro e a₃ W3 hp
      rw [← hrc] at hp
      cases e with
      | normal =>
        obtain ⟨h1, h2, h4⟩ := hfin none W3 hp.1
        exact ⟨_, _, h1, .inl ⟨rfl, hI _ _ _ hp.2 h2, h4⟩⟩
      | ret =>
        obtain ⟨h1, h2, h4⟩ := hfin (some .ret) W3 hp.1
        exact ⟨_, _, h1, .inr ⟨rfl, _, hIx _ _ _ hp.2 h2, h4⟩⟩
      | exit id =>
        obtain ⟨h1, h2, h4⟩ := hfin (some (.exit id)) W3 hp.1
        exact ⟨_, _, h1, .inr ⟨rfl, _, hIx _ _ _ hp.2 h2, h4⟩⟩
      | goto t =>
        obtain ⟨h1, h2, h4⟩ := hfin (some (.goto t)) W3 hp.1
        exact ⟨_, _, h1, .inr ⟨rfl, _, hIx _ _ _ hp.2 h2, h4⟩⟩
      | panic ch => exact hp.elim
      | outgrown => exact hp.elim
    | _ => exact hq.elim
  · rintro e W2 ⟨⟨u, rfl⟩, (⟨W3, ⟨hi, hl⟩, hf⟩ | ⟨c, hi, hl⟩)⟩
    · have hk := hFin _ _ hf
      have hl2 := hk.same _ _ hl (hcells _ _)
      have hl2' := hl2
      rw [hrc] at hl2'
      exact ⟨none, _, run_endLoop hl2' (by simp), hdone W3 W2 _ hi hf (Calm.putObj _ _ hl2 (hcells _ _) (by omega))⟩
    · have hl' := hl
      rw [hrc] at hl'
      exact ⟨some c, _, run_endLoop hl' (by simp), hstop c _ (hIx _ _ _ hi (Calm.putObj _ _ hl (hcells _ _) (by omega)))⟩
end Go.Proofs.Ytofkamnmgpkehab
/- walks: All, whole, left early, one within the other. -/
namespace Go.Proofs.Ytofkamnmgpkehab
open Go.RowKit
set_option linter.unusedVariables false
attribute [local go_sem] Oper.semAt_some
theorem keeps_drewN (W : World) (n : Nat) : KeepsOthers W (W.drewN n) := ⟨Nat.le_refl _, fun _ _ h _ => h⟩
theorem grown_drewN (W : World) (n : Nat) (r : Option Nat) : W.grownBy (W.drewN n) r := ⟨rfl, rfl, rfl, Nat.le_refl _, fun _ _ _ => rfl⟩
theorem grown_setCell (W : World) (g j : Nat) (v : Value) : W.grownBy (W.setCell ⟨g, j, none⟩ v) (some g) :=
  ⟨rfl, rfl, rfl, by simp [World.setCell], fun k _ hne => Below.heap_setCell _ _ _ _ (fun e => hne (by rw [e]))⟩
theorem grown_alloc (W : World) (o : Obj) : W.grownBy (W.alloc o) none := ⟨rfl, rfl, rfl, by simp, fun k hk _ => Below.heap_alloc _ _ _ hk⟩
theorem keeps_calm {w A B : World} (h : KeepsOthers w A) (k : Calm w.heap.size A B) : KeepsOthers w B :=
  ⟨Nat.le_trans h.size k.size, fun i o hi ho => (k.block i (Array.getElem?_eq_some_iff.1 hi).1).trans (h.same i o hi ho)⟩
theorem cells_new4 (w : World) (a b c d : Value) (t : TypeId) : (w.alloc (.cells #[a, b, c, d] t)).cell? ⟨w.heap.size, 0, none⟩ = some a ∧ (w.alloc (.cells #[a, b, c, d] t)).cell? ⟨w.heap.size, 1, none⟩ = some b ∧ (w.alloc (.cells #[a, b, c, d] t)).cell? ⟨w.heap.size, 2, none⟩ = some c ∧ (w.alloc (.cells #[a, b, c, d] t)).cell? ⟨w.heap.size, 3, none⟩ = some d := ⟨by simp [go_sem], by simp [go_sem], by simp [go_sem], by simp [go_sem]⟩
/-- What the loops of walks keep. -/
structure WsI (w : World) (B b gl cl : Nat) (vp : Value) (ps : List (Nat × Nat × Nat)) (W : World) : Prop where
  kl : w.heap.size + 5 < W.heap.size
  lc : W.cell? ⟨w.heap.size, 0, none⟩ = some (.slice (some ⟨gl, 0, none⟩) ps.length cl)
  rc : W.cell? ⟨w.heap.size + 1, 0, none⟩ = some (.bool false)
  rf : W.frozen? ⟨w.heap.size + 1, 0, none⟩ = false
  fc : W.cell? ⟨w.heap.size + 3, 0, none⟩ = some (.func (.func 43) #[] #[.pointer (some ⟨w.heap.size + 2, 0, none⟩)])
  lo : W.ownsRow 0 39 4 (.slice (some ⟨gl, 0, none⟩) ps.length cl) ps.length (encP ps)
  lg : gl < w.heap.size
  kn : KnP B (w.heap.size + 2) b vp ps W
  kb : b < w.heap.size ∧ ∀ g, vp.ownBlock = some g → g < w.heap.size
  below : Below w.heap.size w W
theorem WsI.turn {w W W' : World} {B b gl cl : Nat} {vp : Value} {ps : List (Nat × Nat × Nat)} (h : WsI w B b gl cl vp ps W) {row : Option Nat} (hg : W.grownBy W' row) (hr : ∀ g, row = some g → w.heap.size + 4 ≤ g) : WsI w B b gl cl vp ps W' := by
  have hk := h.kl
  have hne : ∀ b, b < w.heap.size + 4 → row ≠ some b := fun b hb e => by have := hr b e; omega
  exact ⟨Nat.lt_of_lt_of_le h.kl hg.size, grown_cell hg h.lc (by omega) (hne _ (by omega)), grown_cell hg h.rc (by omega) (hne _ (by omega)), (World.frozen?_of_block (hg.block (w.heap.size + 1) (by omega) (fun e => hne _ (by omega) e.symm))).trans h.rf,
    grown_cell hg h.fc (by omega) (hne _ (by omega)), own_grown h.lo hg (fun g e => by cases e; exact hne gl (by have := h.lg; omega)), h.lg,
    ⟨grown_cell hg h.kn.1 (by omega) (hne _ (by omega)), grown_cell hg h.kn.2.1 (by have := h.kb.1; omega) (hne _ (by have := h.kb.1; omega)), own_grown h.kn.2.2 hg (fun g e => hne _ (by have := h.kb.2 g e; omega))⟩, h.kb,
    h.below.grown hg (by omega) (fun g e => by have := hr g e; omega)⟩
theorem WsI.calm {w W W' : World} {B b gl cl : Nat} {vp : Value} {ps : List (Nat × Nat × Nat)} (h : WsI w B b gl cl vp ps W) {n : Nat} (k : Calm n W W') (hB : w.heap.size ≤ n) : WsI w B b gl cl vp ps W' :=
  ⟨Nat.lt_of_lt_of_le h.kl k.size, k.cell h.lc, k.cell h.rc, (k.frozen h.rc).trans h.rf, k.cell h.fc, k.own h.lo, h.lg, ⟨k.cell h.kn.1, k.cell h.kn.2.1, k.own h.kn.2.2⟩, h.kb, Calm.below h.below ⟨k.os, k.tape, k.output, k.size, k.cells, fun i hi => k.block i (by omega)⟩⟩
/-- The cells that the round for procedure k reads. -/
theorem WsI.at {w W : World} {B b gl cl : Nat} {vp : Value} {ps : List (Nat × Nat × Nat)} (h : WsI w B b gl cl vp ps W) {k : Nat} (hk : k < ps.length) :
    W.cell? ⟨gl, k * 4, none⟩ = some (.int .u32 (ps.getD k (0, 0, 0)).1) ∧ W.cell? ⟨gl, k * 4 + 1, none⟩ = some (.int .u32 (ps.getD k (0, 0, 0)).2.1) ∧ W.cell? ⟨gl, k * 4 + 2, none⟩ = some (.int .u32 (ps.getD k (0, 0, 0)).2.2) ∧ W.cell? ⟨gl, k * 4 + 3, none⟩ = some (.int .i64 0) := by
  obtain ⟨q0, q1, q2, q3⟩ := encP_at ps k hk
  have hl4 := encP_length ps
  have hrow := h.lo
  rw [← hrow.cellAt _ (by omega)] at q0 q1 q2 q3
  exact ⟨q0, q1, q2, q3⟩
theorem nums_pre {ps : List (Nat × Nat × Nat)} {pre rest : List (Nat × (Nat × Nat × Nat))} {x : Nat × (Nat × Nat × Nat)} (hx : nums ps = pre ++ x :: rest) : pre.length < ps.length ∧ x = (pre.length, ps.getD pre.length (0, 0, 0)) := by
  have hl : pre.length < ps.length := by rw [← nums_length ps, hx]; simp
  refine ⟨hl, ?_⟩
  have h1 := nums_at ps pre.length hl
  rw [hx, List.getElem?_append_right (Nat.le_refl _), Nat.sub_self] at h1
  exact Option.some.inj h1
set_option maxRecDepth 100000 in
set_option maxHeartbeats 8000000 in
theorem walks_any {w : World} {B b : Nat} {vp vo vt : Value} {ps : List (Nat × Nat × Nat)} {ofs : List Nat} {us : List Value} {ts : List (List Nat)} (h : PAt w B b vp vo vt ps ofs us ts)
    (vl : Value) (hl : w.ownsRow 0 39 4 vl ps.length (encP ps)) (h0 : 0 < ps.length) (hps : ps.length ≤ 16384) (lv : Int) :
    Calls Try.prog 29 #[.pointer (some ⟨b, 0, none⟩), vl, .int .i64 lv] w fun e w' => e = .returned (.bool true) ∧ Below w.heap.size w w' := by
  obtain ⟨gl, cl, rfl, -, hgl⟩ := own_start hl h0
  have H := Lib.hid h
  have HL := Lib.hid hl
  have hbl := World.block_lt_of_cell? _ _ h.c0
  have hvb := fun g e => (h.op.lt g e).2
  have Hvb := Lib.hid hvb
  have q77 : ∀ (W : World) (a : Option Addr), (binOp .eql 77 (.func (.func 43) #[] #[.pointer a]) .nilFunc).run Try.prog W = .ok (.bool false) W := fun W a => by kernel_rfl
  clear h hl hvb
  refine (callsIn_wide (n := 20)).1 ?_
  have hn1 : (1 : Nat) ≤ 20 := by omega
  refine callsIn_of_wp_marks Try.func29 rfl trivial ?_ rfl
  simp only [Try.ntmps29, List.size_toArray, List.length_cons, List.length_nil, Nat.reduceAdd, Nat.reduceSub, Array.replicate_succ, Array.replicate_zero, List.push_toArray, List.append_toArray, List.nil_append, List.cons_append]
  gi_wp2_with (refine ⟨trivial, ?_⟩; gi_at_call 30; refine (callsIn_wide.2 (all_any _ _)).mono ?_; rintro e w' ⟨rfl, rfl⟩)
  have hpk : ∀ W : World, Calls Try.prog 6 #[.int .i64 lv, .int .i64 ((ps.length : Int) + 1)] W fun e w' => (∃ p : Nat, p < ps.length + 1 ∧ e = .returned (.int .i64 p)) ∧ w' = W := fun W => by
    have := pick_any lv (ps.length + 1) (by omega) (by omega) W
    rwa [show ((ps.length + 1 : Nat) : Int) = (ps.length : Int) + 1 from by omega] at this
  refine ⟨trivial, (callsIn_wide.2 (hpk _)).mono ?_⟩
  rintro e w' ⟨⟨st, hst, rfl⟩, rfl⟩
  clear hpk
  gi_wp2_with fail
  obtain ⟨w8, hw8⟩ : ∃ w8, w8 = (((((w.alloc (.cells #[.slice (some ⟨gl, 0, none⟩) ps.length cl] 64)).alloc (.cells #[.bool false] 4)).alloc (.cells #[.pointer (some ⟨b, 0, none⟩)] 28)).alloc (.cells #[.func (.func 43) #[] #[.pointer (some ⟨w.heap.size + 1 + 1, 0, none⟩)]] 77)).alloc (.cells #[.int .i64 st] 3)).alloc (.cells #[.int .i64 0] 3) := ⟨_, rfl⟩
  have hb8 : Below w.heap.size w w8 := by rw [hw8]; exact Bel.al (Bel.al (Bel.al (Bel.al (Bel.al (Bel.new _ _) _) _) _) _) _
  have hs8 : w8.heap.size = w.heap.size + 6 := by rw [hw8]; simp
  have hI : WsI w B b gl cl vp ps w8 := by
    have hp := H.out.below hb8
    refine ⟨by omega, ?_, ?_, ?_, ?_, own_below HL.out hb8, hgl, ⟨?_, hp.c0, hp.op⟩, ⟨hbl, Hvb.out⟩, hb8⟩ <;> (rw [hw8]; simp [go_sem])
  have hn8 : w8.cell? ⟨w.heap.size + 5, 0, none⟩ = some (.int .i64 0) := by rw [hw8]; simp [go_sem]
  have hf8 : w8.frozen? ⟨w.heap.size + 5, 0, none⟩ = false := by rw [hw8]; simp [go_sem]
  have hst8 : w8.cell? ⟨w.heap.size + 4, 0, none⟩ = some (.int .i64 st) := by rw [hw8]; simp [go_sem]
  rw [← hw8]
  have HI := Lib.hid (And.intro hI (And.intro hn8 (And.intro hf8 hst8)))
  clear hw8 hI hn8 hf8 hst8 hb8 H HL Hvb
  refine range_to (gf := 43) (lb := #[.pointer (some ⟨w.heap.size + 2, 0, none⟩)]) rfl (enters_of Try.func43 (by kernel_rfl) rfl) (encs := encP2) (fun _ => rfl) (nums ps) _ _
    (all_seq 19 (by omega) B _ b vp ps) (fun A C h => by rw [h]; exact KeepsOthers.refl _)
    (fun pre W => pre.length ≤ st ∧ WsI w B b gl cl vp ps W ∧ W.cell? ⟨w.heap.size + 5, 0, none⟩ = some (.int .i64 pre.length) ∧ W.frozen? ⟨w.heap.size + 5, 0, none⟩ = false ∧ W.cell? ⟨w.heap.size + 4, 0, none⟩ = some (.int .i64 st))
    (fun c W => c = .exit 0 ∧ WsI w B b gl cl vp ps W ∧ W.cell? ⟨w.heap.size + 5, 0, none⟩ = some (.int .i64 st) ∧ W.frozen? ⟨w.heap.size + 5, 0, none⟩ = false ∧ W.cell? ⟨w.heap.size + 4, 0, none⟩ = some (.int .i64 st))
    (fun d A C h k => ⟨h.1, h.2.1.calm k (by omega), k.cell h.2.2.1, (k.frozen h.2.2.1).trans h.2.2.2.1, k.cell h.2.2.2.2⟩)
    (fun c A C h k => ⟨h.1, h.2.1.calm k (by omega), k.cell h.2.2.1, (k.frozen h.2.2.1).trans h.2.2.2.1, k.cell h.2.2.2.2⟩)
    (fun d A h => h.2.1.kn) ⟨Nat.zero_le _, HI.out⟩ ?round1 ?done1 ?stop1
  case round1 =>
    rintro l' pre ⟨i, p0, p1, p2⟩ rest W hx hi hsz
    obtain ⟨hps1, hi⟩ := hi
    clear HI
    obtain ⟨hpl, hxe⟩ := nums_pre hx
    obtain ⟨rfl, hxe2⟩ := Prod.mk.inj hxe
    simp only [encP2, procV]
    gi_wp2
    refine ⟨KeepsOthers.alloc _ _, fun W2 hs2 hc2 => ?_⟩
    have hcal := (Calm.of (Bel.new W (.cells #[.int .u32 p0, .int .u32 p1, .int .u32 p2, .int .i64 0] 39)) hsz).trans hc2
    have hi2 := hi.1.calm hcal (by omega)
    have hn2 := hcal.cell hi.2.1
    have hf2 := (hcal.frozen hi.2.1).trans hi.2.2.1
    have hs2' := hcal.cell hi.2.2.2
    have cn := cells_new4 W (.int .u32 p0) (.int .u32 p1) (.int .u32 p2) (.int .i64 0) 39
    have hb0 := hc2.cell cn.1
    have hb1 := hc2.cell cn.2.1
    have hb2 := hc2.cell cn.2.2.1
    have hb3 := hc2.cell cn.2.2.2
    obtain ⟨e0, e1, e2, e3⟩ := hi2.at hpl
    rw [← hxe2] at e0 e1 e2
    have hlc := hi2.lc
    have q0 : (pre.length : Int) < (ps.length : Int) := by omega
    have q1 : (0 : Int) ≤ (pre.length : Int) := by omega
    have q2 : (pre.length : Int) ≤ 16384 := by omega
    have Hi2 := Lib.hid hi2
    have hne : ∀ W : World, (binOp .neq 39 (.agg #[.int .u32 p0, .int .u32 p1, .int .u32 p2, .int .i64 0]) (.agg #[.int .u32 p0, .int .u32 p1, .int .u32 p2, .int .i64 0])).run Try.prog W = .ok (.bool false) W := fun W => by rw [neql39]; simp
    generalize hk : pre.length = k at *
    have Hk := Lib.hid hk
    clear hi hi2 hcal hc2 hk hx hxe hxe2 cn
    by_cases hks : k = st
    · subst hks
      gi_wp2
      exact ⟨KeepsOthers.refl _, rfl, Hi2.out, hn2, hf2, hs2'⟩
    · have hd1 : (k == st) = false := by simpa using hks
      have hd1' : ((k : Int) == (st : Int)) = false := by simp; omega
      have hd : decide (st < k) = false := decide_eq_false (by omega)
      gi_wp2_with fail
      refine wpIn_region_quietR_lit (by kernel_rfl) (by kernel_rfl) (by kernel_rfl) ?_
      repeat (gi_big_quiet_step (fail))
      refine wpQuietIn_nil ?_
      intro _ hw'
      obtain ⟨nq, hw''⟩ := hw'
      subst hw''
      gi_wp2
      have hst := grownBy_trans (grown_drewN W2 nq (some (w.heap.size + 5))) (grown_setCell (W2.drewN nq) (w.heap.size + 5) 0 (.int .i64 ((k : Int) + 1))) (fun q e => .inl e)
      have hko := (keeps_drewN W2 nq).trans (KeepsOthers.setCell (W2.drewN nq) ⟨w.heap.size + 5, 0, none⟩ (.int .i64 ((k : Int) + 1)))
      refine ⟨hko, by rw [List.length_append, Hk.out]; show k + 1 ≤ st; omega, Hi2.out.turn hst (fun q e => by cases e; omega), ?_, ?_, ?_⟩
      · rw [List.length_append, Hk.out]; exact World.cell?_setCell_same' _ _ _ (by show (W2.cell? ⟨w.heap.size + 5, 0, none⟩).isSome = true; rw [hn2]; rfl)
      · rw [World.frozen?_setCell]; exact hf2
      · exact (World.cell?_of_block (Below.heap_setCell _ _ _ _ (by show w.heap.size + 4 ≠ w.heap.size + 5; omega))).trans hs2'
  case' done1 =>
    rintro D W2 W3 W4 hi rfl hc hD hd
    obtain ⟨hps1, hi, hn, hf, hsb⟩ := hi
    rw [nums_length] at hn hps1
    have hNe : st = ps.length := by omega
    rw [← hNe] at hn
    rename_i Kx hKx
    refine hKx _ _ ?_
    clear hKx Kx hNe hps1
    have hI4 := And.intro (hi.calm hc (by omega)) (And.intro (hc.cell hn) (And.intro ((hc.frozen hn).trans hf) (And.intro (hc.cell hsb) hd)))
    clear hi hn hf hsb hc hd
  case' stop1 =>
    rintro D c W4 ⟨rfl, hi, hn, hf, hsb⟩ hD hd
    have hI4 := And.intro hi (And.intro hn (And.intro hf (And.intro hsb hd)))
    clear hi hn hf hsb hd
  all_goals
    clear HI
    obtain ⟨hi4, hn4, hf4, hsb4, hd4⟩ := hI4
    have hi5 := hi4.turn (grown_setCell W4 (w.heap.size + 5) 0 (.int .i64 0)) (fun g e => by cases e; omega)
    have hfc5 := hi5.fc
    have hn5 : (W4.setCell ⟨w.heap.size + 5, 0, none⟩ (.int .i64 0)).cell? ⟨w.heap.size + 5, 0, none⟩ = some (.int .i64 0) := World.cell?_setCell_same' _ _ _ (by rw [hn4]; rfl)
    have hf5 : (W4.setCell ⟨w.heap.size + 5, 0, none⟩ (.int .i64 0)).frozen? ⟨w.heap.size + 5, 0, none⟩ = false := by rw [World.frozen?_setCell]; exact hf4
    have hd5 := (KeepsOthers.setCell W4 ⟨w.heap.size + 5, 0, none⟩ (.int .i64 0)).same _ _ hd4 rfl
    have H5 := Lib.hid (And.intro hi5 (And.intro hn5 (And.intro hf5 hd5)))
    have hkl := hi5.kl
    have hDl : D < (W4.setCell ⟨w.heap.size + 5, 0, none⟩ (.int .i64 0)).heap.size := (Array.getElem?_eq_some_iff.1 hd5).1
    clear hi4 hi5 hn5 hf5 hd5 hd4
    gi_wp2_with fail
    clear hfc5 hn4 hf4 hsb4
    generalize W4.setCell ⟨w.heap.size + 5, 0, none⟩ (.int .i64 0) = w9 at *
    refine range_to2 (gf := 43) (lb := #[.pointer (some ⟨w.heap.size + 2, 0, none⟩)]) rfl (enters_of Try.func43 (by kernel_rfl) rfl) (encs := encP2) (fun _ => rfl) (nums ps) _ _
      (all_seq 19 (by omega) B _ b vp ps) (fun A C h => by rw [h]; exact KeepsOthers.refl _)
      (fun pre W => WsI w B b gl cl vp ps W ∧ W.cell? ⟨w.heap.size + 5, 0, none⟩ = some (.int .i64 pre.length) ∧ W.frozen? ⟨w.heap.size + 5, 0, none⟩ = false ∧ W.heap[D]? = some (.deferred (some [])))
      (fun c W => False)
      (fun d A C h k => ⟨h.1.calm k (by omega), k.cell h.2.1, (k.frozen h.2.1).trans h.2.2.1, (k.block D (by omega)).trans h.2.2.2⟩)
      (fun c A C h k => h) (fun d A h => h.1.kn) H5.out ?round2 ?done2 (fun _ _ _ h _ _ => h.elim)
    case round2 =>
      rintro l' pre ⟨i, p0, p1, p2⟩ rest W hx hi hsz
      clear H5
      obtain ⟨hpl, hxe⟩ := nums_pre hx
      obtain ⟨rfl, hxe2⟩ := Prod.mk.inj hxe
      simp only [encP2, procV]
      gi_wp2
      refine ⟨KeepsOthers.alloc _ _, fun W2 hs2 hc2 hll hrec => ?_⟩
      have hcal := (Calm.of (Bel.new W (.cells #[.int .u32 p0, .int .u32 p1, .int .u32 p2, .int .i64 0] 39)) hsz).trans hc2
      have hi2 := hi.1.calm hcal (by omega)
      have hn2 := hcal.cell hi.2.1
      have hf2 := (hcal.frozen hi.2.1).trans hi.2.2.1
      have hdd := (hcal.block D (by omega)).trans hi.2.2.2
      have cn := cells_new4 W (.int .u32 p0) (.int .u32 p1) (.int .u32 p2) (.int .i64 0) 39
      have hb0 := hc2.cell cn.1
      have hb1 := hc2.cell cn.2.1
      have hb2 := hc2.cell cn.2.2.1
      have hb3 := hc2.cell cn.2.2.2
      obtain ⟨e0, e1, e2, e3⟩ := hi2.at hpl
      rw [← hxe2] at e0 e1 e2
      have hlc := hi2.lc
      have q0 : (pre.length : Int) < (ps.length : Int) := by omega
      have q1 : (0 : Int) ≤ (pre.length : Int) := by omega
      have q2 : (pre.length : Int) ≤ 16384 := by omega
      have Hi2 := Lib.hid hi2
      have hne : ∀ W : World, (binOp .neq 39 (.agg #[.int .u32 p0, .int .u32 p1, .int .u32 p2, .int .i64 0]) (.agg #[.int .u32 p0, .int .u32 p1, .int .u32 p2, .int .i64 0])).run Try.prog W = .ok (.bool false) W := fun W => by rw [neql39]; simp
      generalize hk : pre.length = k at *
      have Hk := Lib.hid hk
      have Hdd := Lib.hid hdd
      have Hrec := Lib.hid hrec
      have hd : decide (ps.length ≤ k) = false := decide_eq_false (by omega)
      clear hi hi2 hcal hc2 hk hx hxe hxe2 cn hdd hrec
      gi_wp2_with fail
      refine wpIn_region_quietR_lit (by kernel_rfl) (by kernel_rfl) (by kernel_rfl) ?_
      repeat (gi_big_quiet_step (fail))
      refine wpQuietIn_nil ?_
      intro _ hw'
      obtain ⟨nq, hw''⟩ := hw'
      subst hw''
      have hst := grownBy_trans (grown_drewN W2 nq (some (w.heap.size + 5))) (grown_setCell (W2.drewN nq) (w.heap.size + 5) 0 (.int .i64 ((k : Int) + 1))) (fun q e => .inl e)
      have hko := (keeps_drewN W2 nq).trans (KeepsOthers.setCell (W2.drewN nq) ⟨w.heap.size + 5, 0, none⟩ (.int .i64 ((k : Int) + 1)))
      have hi3 := Hi2.out.turn hst (fun q e => by cases e; omega)
      have hn3 : ((W2.drewN nq).setCell ⟨w.heap.size + 5, 0, none⟩ (.int .i64 ((k : Int) + 1))).cell? ⟨w.heap.size + 5, 0, none⟩ = some (.int .i64 ((k : Int) + 1)) := World.cell?_setCell_same' _ _ _ (by show (W2.cell? ⟨w.heap.size + 5, 0, none⟩).isSome = true; rw [hn2]; rfl)
      have hf3 : ((W2.drewN nq).setCell ⟨w.heap.size + 5, 0, none⟩ (.int .i64 ((k : Int) + 1))).frozen? ⟨w.heap.size + 5, 0, none⟩ = false := by rw [World.frozen?_setCell]; exact hf2
      have hdd3 := hko.same _ _ Hdd.out rfl
      obtain ⟨r0, hr0⟩ := Hrec.out
      have hr3 := hko.same _ _ hr0 rfl
      have hfc3 := hi3.fc
      have hkl3 := hi3.kl
      have HKO := Lib.hid hko
      have H3 := Lib.hid (And.intro hi3 (And.intro hn3 (And.intro hf3 (And.intro hdd3 hr3))))
      have hsz3 : W2.heap.size ≤ ((W2.drewN nq).setCell ⟨w.heap.size + 5, 0, none⟩ (.int .i64 ((k : Int) + 1))).heap.size := by simp [World.setCell]
      have hs2b := Nat.le_trans (Nat.le_of_eq hs2.symm) hsz3
      clear hi3 hn3 hf3 hdd3 hr3 hko hst hb0 hb1 hb2 hb3 e0 e1 e2 e3 hlc hr0 Hrec Hdd hd
      gi_wp2_with fail
      clear hn2 hf2 hfc3
      generalize (W2.drewN nq).setCell ⟨w.heap.size + 5, 0, none⟩ (.int .i64 ((k : Int) + 1)) = w10 at *
      refine range_in (gf := 43) (lb := #[.pointer (some ⟨w.heap.size + 2, 0, none⟩)]) (r₀ := r0) H3.out.2.2.2.2 rfl (enters_of Try.func43 (by kernel_rfl) rfl) (encs := encP2) (fun _ => rfl) (nums ps) _ _
        (all_seq 17 (by omega) B _ b vp ps) (fun A C h => by rw [h]; exact KeepsOthers.refl _)
        (fun pre2 W => pre2 = [] ∧ WsI w B b gl cl vp ps W ∧ W.cell? ⟨w.heap.size + 5, 0, none⟩ = some (.int .i64 ((k : Int) + 1)) ∧ W.frozen? ⟨w.heap.size + 5, 0, none⟩ = false ∧ KeepsOthers w10 W)
        (fun c W => c = .exit 4 ∧ WsI w B b gl cl vp ps W ∧ W.cell? ⟨w.heap.size + 5, 0, none⟩ = some (.int .i64 ((k : Int) + 1)) ∧ W.frozen? ⟨w.heap.size + 5, 0, none⟩ = false ∧ KeepsOthers w10 W)
        (fun d A C h k => ⟨h.1, h.2.1.calm k (by omega), k.cell h.2.2.1, (k.frozen h.2.2.1).trans h.2.2.2.1, keeps_calm h.2.2.2.2 k⟩)
        (fun d A C h k => ⟨h.1, h.2.1.calm k (by omega), k.cell h.2.2.1, (k.frozen h.2.2.1).trans h.2.2.2.1, keeps_calm h.2.2.2.2 k⟩)
        (fun d A h => h.2.1.kn) ⟨rfl, H3.out.1, H3.out.2.1, H3.out.2.2.1, KeepsOthers.refl _⟩ ?round3 ?done3 ?stop3
      case round3 =>
        rintro l'' pre2 ⟨i2, y0, y1, y2⟩ rest2 W hx2 hi hsz2
        obtain ⟨rfl, hi⟩ := hi
        obtain ⟨hpl2, hxe⟩ := nums_pre hx2
        obtain ⟨rfl, hxe2⟩ := Prod.mk.inj hxe
        simp only [encP2, procV]
        gi_wp2
        refine ⟨KeepsOthers.alloc _ _, fun W5 hs5 hc5 => ?_⟩
        have hcal := (Calm.of (Bel.new W (.cells #[.int .u32 y0, .int .u32 y1, .int .u32 y2, .int .i64 0] 39)) hsz2).trans hc5
        have hi5 := hi.1.calm hcal (by omega)
        have hn5 := hcal.cell hi.2.1
        have hf5 := (hcal.frozen hi.2.1).trans hi.2.2.1
        have hko5 := keeps_calm hi.2.2.2 hcal
        have cn := cells_new4 W (.int .u32 y0) (.int .u32 y1) (.int .u32 y2) (.int .i64 0) 39
        have hb0 := hc5.cell cn.1
        have hb1 := hc5.cell cn.2.1
        have hb2 := hc5.cell cn.2.2.1
        have hb3 := hc5.cell cn.2.2.2
        obtain ⟨e0, e1, e2, e3⟩ := hi5.at hpl2
        rw [← hxe2] at e0 e1 e2
        simp only [List.length_nil, Nat.zero_mul, Nat.zero_add] at e0 e1 e2 e3
        have hlc := hi5.lc
        have q0 : (0 : Int) < (ps.length : Int) := by omega
        have Hi5 := Lib.hid hi5
        have Hko5 := Lib.hid hko5
        have hne2 : ∀ W : World, (binOp .neq 39 (.agg #[.int .u32 y0, .int .u32 y1, .int .u32 y2, .int .i64 0]) (.agg #[.int .u32 y0, .int .u32 y1, .int .u32 y2, .int .i64 0])).run Try.prog W = .ok (.bool false) W := fun W => by rw [neql39]; simp
        clear hi hi5 hcal hc5 hx2 hxe hxe2 cn hko5 hne
        simp only [List.length_nil]
        gi_wp2_with fail
        refine wpIn_region_quietR_lit (by kernel_rfl) (by kernel_rfl) (by kernel_rfl) ?_
        repeat (gi_big_quiet_step (fail))
        refine wpQuietIn_nil ?_
        intro _ hw'
        obtain ⟨nq2, hw''⟩ := hw'
        subst hw''
        gi_wp2
        exact ⟨keeps_drewN _ _, rfl, Hi5.out.turn (grown_drewN W5 nq2 none) (fun g e => by cases e), hn5, hf5, Hko5.out.trans (keeps_drewN _ _)⟩
      case done3 =>
        rintro W6 W7 W8 hi rfl hc
        have := congrArg List.length hi.1
        rw [nums_length, List.length_nil] at this
        omega
      case stop3 =>
        rintro c W8 ⟨rfl, hi, hn, hf, hko⟩
        have hkk := HKO.out.trans hko
        have Hx := Lib.hid (And.intro hi (And.intro hn (And.intro hf (And.intro (hko.same _ _ H3.out.2.2.2.1 rfl) hkk))))
        clear hi hn hf hko hkk HKO H3
        gi_wp2
        exact ⟨Hx.out.2.2.2.2, Hx.out.1, by rw [List.length_append, Hk.out]; exact Hx.out.2.1, Hx.out.2.2.1, Hx.out.2.2.2.1⟩
    case done2 =>
      rintro D2 W5 W6 W7 hi rfl hc hD2 hd2
      obtain ⟨hi, hn, hf, hdd⟩ := hi
      rw [nums_length] at hn
      rename_i Kx hKx
      refine hKx _ _ ?_
      clear hKx Kx H5
      have hi7 := hi.calm hc (by omega)
      have hn7 := hc.cell hn
      have hdd7 := (hc.block D (by omega)).trans hdd
      have hrc := hi7.rc
      have hrf := hi7.rf
      have hlc := hi7.lc
      have Hi7 := Lib.hid hi7
      clear hi hi7 hn hf hdd hc
      gi_wp2_with fail
      have hset := KeepsOthers.setCell W7 ⟨w.heap.size + 1, 0, none⟩ (.bool true)
      have hkl7 := Hi7.out.kl
      have h20 := hset.same _ _ hd2 rfl
      have h10 := (World.putObj_heap_other (o := .deferred none) (w := W7.setCell ⟨w.heap.size + 1, 0, none⟩ (.bool true)) (show D ≠ D2 by omega)).trans (hset.same _ _ hdd7 rfl)
      clear hset
      refine ⟨by simp, .inl ⟨_, _, rfl, run_takeDeferred h20, ?_⟩⟩
      refine ⟨by simp, .inl ⟨_, _, rfl, run_takeDeferred h10, ?_⟩⟩
      have hbs := Hi7.out.below.setCell (p := ⟨w.heap.size + 1, 0, none⟩) (by show w.heap.size ≤ w.heap.size + 1; omega) (.bool true)
      have hc0 : (W7.setCell ⟨w.heap.size + 1, 0, none⟩ (.bool true)).cell? ⟨w.heap.size + 1, 0, none⟩ = some (.bool true) := World.cell?_setCell_same' _ _ _ (by rw [Hi7.out.rc]; rfl)
      have k2 := Calm.putObj (B := w.heap.size) _ (.deferred none) h20 rfl (by omega)
      have k1 := Calm.putObj (B := w.heap.size) _ (.deferred none) h10 rfl (by omega)
      have hcv := k1.cell (k2.cell hc0)
      have hbf := Calm.below (Calm.below hbs k2) k1
      refine ⟨.bool true, ?_, rfl, hbf⟩
      clear k1 k2 hbf hbs hc0 h10 h20 hrc hrf
      simp [results, Try.results29, go_sem, hcv]
end Go.Proofs.Ytofkamnmgpkehab
