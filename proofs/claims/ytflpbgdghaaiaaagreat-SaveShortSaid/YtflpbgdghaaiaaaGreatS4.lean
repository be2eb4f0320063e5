import Derived.Test.YtflpbgdghaaiaaaGreatS3
import Derived.Deep.RegionHeld3
import Derived.Test.YtflpbgdghaaiaaaGreatS2
import Derived.Deep.DrawnRows
import Derived.Test.YtflpbgdghaaiaaaGreatS1
import Derived.Laws.Closers25b
import Derived.Defers
import Derived.Recover
import Derived.StillTailTactics
import Derived.ScopeJumps
import Derived.WalkMore
import Derived.ProofKit
import Derived.OpenShut
import Derived.Lib.SmallJoins
import Derived.Deep.Slices
import Derived.Deep.Fields
import Derived.ChangeSame
import Derived.SizedLaws
import Derived.Deep.RegionLaw
import Derived.Laws.CopyOwn
namespace Go.Proofs.YtflpbgdghaaiaaaGreat
set_option linter.unusedVariables false
theorem FindOk.next_of {code : List (Nat × Nat)} {js : List Nat} (h : FindOk code js []) {i t : Nat} (hi : i < code.length) (ht : t ∈ nextN code js i) : t < code.length ∧ (ofTo code code.length).getD t 0 = (ofTo code code.length).getD i 0 := by
  unfold nextN opAt argAt at ht
  split at ht
  · rename_i hk
    have := h.goes i hi (by omega)
    rw [List.mem_singleton.1 ht]; exact this
  · split at ht
    · rename_i hk
      have h1 := h.goes i hi (by omega)
      have h2 := h.target i hi (.inr hk)
      have h3 : t = i + 1 ∨ t = (code.getD i (0, 0)).2 := by
        split at ht
        · exact .inl (List.mem_singleton.1 ht)
        · simp only [List.mem_cons, List.not_mem_nil, or_false] at ht
          omega
      rcases h3 with rfl | rfl
      · exact h1
      · exact ⟨h2.1, h2.2.1⟩
    · split at ht
      · rename_i hk
        have h2 := h.target i hi (.inl hk)
        rw [List.mem_singleton.1 ht]; exact ⟨h2.1, h2.2.1⟩
      · split at ht
        · unfold tgtsAt at ht
          split at ht
          · rename_i hr
            have e : (ofN (ofTo code code.length) i).toNat = (ofTo code code.length).getD i 0 := by
              unfold ofN at hr ⊢
              split
              · simp
              · rename_i hq
                rw [if_neg hq] at hr
                omega
            rw [e] at ht
            have := h.legal ht
            exact ⟨this.1, this.2.1⟩
          · cases ht
        · cases ht
def behN (code : List (Nat × Nat)) (D : List Int) (i : Nat) : Int := D.getD i (-1) - takesOf (opAt code i) + givesOf (opAt code i)
structure Closed (code : List (Nat × Nat)) (js : List Nat) (D : List Int) (i : Nat) (M : Int) : Prop where
  f : depFault (opAt code i) (D.getD i (-1)) = 0
  nx : ∀ t ∈ nextN code js i, D.getD t (-1) = behN code D i
  m1 : D.getD i (-1) ≤ M
  m2 : behN code D i ≤ M
def Ext (D D' : List Int) : Prop := D'.length = D.length ∧ ∀ x, 0 ≤ D.getD x (-1) → D'.getD x (-1) = D.getD x (-1)
theorem Ext.refl (D : List Int) : Ext D D := ⟨rfl, fun _ _ => rfl⟩
theorem Ext.trans {D D1 D2 : List Int} (h : Ext D D1) (h2 : Ext D1 D2) : Ext D D2 :=
  ⟨h2.1.trans h.1, fun x hx => (h2.2 x (by rw [h.2 x hx]; exact hx)).trans (h.2 x hx)⟩
theorem depFault_zero {o : Nat} {d : Int} (h : depFault o d = 0) : (takesOf o : Int) ≤ d ∧ d - takesOf o + givesOf o ≤ 64 ∧ (kindOf o = 7 → d = 1) := by
  unfold depFault at h
  split at h
  · cases h
  split at h
  · cases h
  split at h
  · cases h
  · rename_i h1 h2 h3
    exact ⟨by omega, by omega, fun e => by omega⟩
theorem Closed.ext {code : List (Nat × Nat)} {js : List Nat} {D D' : List Int} {i : Nat} {M M' : Int} (h : Closed code js D i M) (hi : 0 ≤ D.getD i (-1)) (he : Ext D D') (hM : M ≤ M') : Closed code js D' i M' := by
  have e := he.2 i hi
  have hf := depFault_zero h.f
  have eb : behN code D' i = behN code D i := by unfold behN; rw [e]
  refine ⟨by rw [e]; exact h.f, fun t ht => ?_, by rw [e]; have := h.m1; omega, by rw [eb]; have := h.m2; omega⟩
  rw [eb, ← h.nx t ht]
  refine he.2 t ?_
  rw [h.nx t ht]
  unfold behN
  omega
theorem markN_spec {n : Int} (hn : 0 ≤ n) : ∀ (ts : List Nat) (D : List Int) (P : List Nat) (D' : List Int) (P' : List Nat), markN n ts D P = some (D', P') → (∀ t ∈ ts, t < D.length) →
    Ext D D' ∧ (∀ t ∈ ts, D'.getD t (-1) = n) ∧ (∀ x, D.getD x (-1) < 0 → 0 ≤ D'.getD x (-1) → x ∈ P' ∧ x ∈ ts) ∧ (∀ x ∈ P, x ∈ P') ∧ (∀ x ∈ P', x ∈ P ∨ x ∈ ts) ∧ P'.length + neg D' = P.length + neg D
  | [], D, P, D', P', h, _ => by
    cases h
    exact ⟨Ext.refl _, fun t ht => (by cases ht), fun x h1 h2 => by omega, fun x hx => hx, fun x hx => .inl hx, rfl⟩
  | t :: ts, D, P, D', P', h, hl => by
    unfold markN at h
    have ht := hl t (List.mem_cons_self ..)
    split at h
    · cases h
    rename_i h1
    split at h
    · rename_i h2
      obtain ⟨e1, e2, e3, e4, e5, e6⟩ := markN_spec hn ts (D.set t n) (t :: P) D' P' h (fun x hx => by rw [List.length_set]; exact hl x (List.mem_cons_of_mem _ hx))
      have hsn : (D.set t n).getD t (-1) = n := by rw [getD_setZ, if_pos ⟨rfl, ht⟩]
      have hse : Ext D (D.set t n) := ⟨by simp, fun x hx => by rw [getD_setZ, if_neg (fun e => by rw [e.1] at hx; omega)]⟩
      have hDt : D'.getD t (-1) = n := (e1.2 t (by rw [hsn]; exact hn)).trans hsn
      refine ⟨hse.trans e1, fun x hx => ?_, fun x hx1 hx2 => ?_, fun x hx => e4 x (List.mem_cons_of_mem _ hx), fun x hx => ?_, ?_⟩
      · rcases List.mem_cons.1 hx with rfl | hx
        · exact hDt
        · exact e2 x hx
      · by_cases e : x = t
        · subst e; exact ⟨e4 x (List.mem_cons_self ..), List.mem_cons_self ..⟩
        · have := e3 x (by rw [getD_setZ, if_neg (fun h => e h.1)]; exact hx1) hx2
          exact ⟨this.1, List.mem_cons_of_mem _ this.2⟩
      · rcases e5 x hx with h5 | h5
        · rcases List.mem_cons.1 h5 with rfl | h5
          · exact .inr (List.mem_cons_self ..)
          · exact .inl h5
        · exact .inr (List.mem_cons_of_mem _ h5)
      · have := neg_set ht h2 hn
        rw [e6, List.length_cons]; omega
    · rename_i h2
      obtain ⟨e1, e2, e3, e4, e5, e6⟩ := markN_spec hn ts D P D' P' h (fun x hx => hl x (List.mem_cons_of_mem _ hx))
      have hDt : D.getD t (-1) = n := by omega
      refine ⟨e1, fun x hx => ?_, fun x hx1 hx2 => ?_, e4, fun x hx => ?_, e6⟩
      · rcases List.mem_cons.1 hx with rfl | hx
        · rw [e1.2 x (by omega)]; exact hDt
        · exact e2 x hx
      · have := e3 x hx1 hx2
        exact ⟨this.1, List.mem_cons_of_mem _ this.2⟩
      · rcases e5 x hx with h5 | h5
        · exact .inl h5
        · exact .inr (List.mem_cons_of_mem _ h5)
theorem walkN_spec {code : List (Nat × Nat)} {js : List Nat} (Q : Nat → Prop) (hQ : ∀ i t, i < code.length → Q i → t ∈ nextN code js i → t < code.length ∧ Q t) :
    ∀ (f : Nat) (D : List Int) (P : List Nat) (m : Int), P.length + neg D < f → D.length = code.length → (∀ i ∈ P, i < code.length ∧ Q i ∧ 0 ≤ D.getD i (-1)) → (walkN code js f D P m).2.2.2 = 0 →
    Ext D (walkN code js f D P m).1 ∧ m ≤ (walkN code js f D P m).2.1 ∧
    (∀ i, (i ∈ P ∨ (D.getD i (-1) < 0 ∧ 0 ≤ (walkN code js f D P m).1.getD i (-1))) → Q i ∧ Closed code js (walkN code js f D P m).1 i (walkN code js f D P m).2.1)
  | 0, D, P, m, hf, _, _, _ => by omega
  | f + 1, D, P, m, hf, hl, hP, he => by
    by_cases hp : P = []
    · subst hp
      have hw : walkN code js (f + 1) D [] m = (D, m, 0, 0) := by unfold walkN; rw [if_pos rfl]
      rw [hw]
      exact ⟨Ext.refl _, Int.le_refl _, fun i hi => by
        rcases hi with hi | ⟨h1, h2⟩
        · cases hi
        · simp only at h2; omega⟩
    · have hmem := minN_mem hp
      obtain ⟨p1, p2, p3⟩ := hP _ hmem
      have hunf : walkN code js (f + 1) D P m = if depFault (opAt code (minN P)) (D.getD (minN P) (-1)) ≠ 0 then (D, 0, minN P, depFault (opAt code (minN P)) (D.getD (minN P) (-1))) else
        match markN (behN code D (minN P)) (nextN code js (minN P)) D (P.erase (minN P)) with
        | none => (D, 0, minN P, 142)
        | some (D', P') => walkN code js f D' P' (max (max m (D.getD (minN P) (-1))) (behN code D (minN P))) := by
        rw [walkN, if_neg hp]; rfl
      rw [hunf] at he ⊢
      generalize hx : minN P = x at *
      by_cases hfa : depFault (opAt code x) (D.getD x (-1)) = 0
      · rw [if_neg (by simpa using hfa)] at he ⊢
        obtain ⟨f1, f2, f3⟩ := depFault_zero hfa
        have hb0 : 0 ≤ behN code D x := by unfold behN; omega
        have hnl : ∀ t ∈ nextN code js x, t < D.length := fun t ht => by rw [hl]; exact (hQ x t p1 p2 ht).1
        cases hmk : markN (behN code D x) (nextN code js x) D (P.erase x) with
        | none => rw [hmk] at he; simp at he
        | some DP =>
          obtain ⟨D1, P1⟩ := DP
          rw [hmk] at he
          simp only at he ⊢
          obtain ⟨e1, e2, e3, e4, e5, e6⟩ := markN_spec hb0 _ _ _ _ _ hmk hnl
          have hel := List.length_erase_of_mem hmem
          have hpos := List.length_pos_of_mem hmem
          have hP1 : ∀ i ∈ P1, i < code.length ∧ Q i ∧ 0 ≤ D1.getD i (-1) := fun i hi => by
            rcases e5 i hi with h5 | h5
            · obtain ⟨q1, q2, q3⟩ := hP i (List.mem_of_mem_erase h5)
              exact ⟨q1, q2, by rw [e1.2 i q3]; exact q3⟩
            · obtain ⟨q1, q2⟩ := hQ x i p1 p2 h5
              exact ⟨q1, q2, by rw [e2 i h5]; exact hb0⟩
          obtain ⟨r1, r2, r3⟩ := walkN_spec Q hQ f D1 P1 (max (max m (D.getD x (-1))) (behN code D x)) (by omega) (e1.1.trans hl) hP1 he
          refine ⟨e1.trans r1, by omega, fun i hi => ?_⟩
          by_cases hix : i = x
          · subst hix
            refine ⟨p2, ?_⟩
            have hc : Closed code js D1 i (max (max m (D.getD i (-1))) (behN code D i)) := by
              have ed := e1.2 i p3
              have eb : behN code D1 i = behN code D i := by unfold behN; rw [ed]
              refine ⟨by rw [ed]; exact hfa, fun t ht => by rw [e2 t ht, eb], by rw [ed]; omega, by rw [eb]; omega⟩
            exact hc.ext (by rw [e1.2 i p3]; exact p3) r1 r2
          · refine r3 i ?_
            rcases hi with hi | ⟨h1, h2⟩
            · exact .inl (e4 i ((List.mem_erase_of_ne hix).2 hi))
            · by_cases h3 : 0 ≤ D1.getD i (-1)
              · exact .inl (e3 i h1 h3).1
              · exact .inr ⟨by omega, h2⟩
      · rw [if_pos hfa] at he
        exact absurd he hfa
structure FlowOk (code : List (Nat × Nat)) (js : List Nat) (D ms : List Int) : Prop where
  dl : D.length = code.length
  ml : ms.length = (psTo code code.length).length
  beg : ∀ j, j < ms.length → D.getD ((psTo code code.length).getD j (0, 0, 0)).1 (-1) = 0
  m0 : ∀ j, j < ms.length → 0 ≤ ms.getD j 0
  cl : ∀ i, i < code.length → 0 ≤ D.getD i (-1) → Closed code js D i (ms.getD ((ofTo code code.length).getD i 0) 0)
theorem depthsN_spec {code : List (Nat × Nat)} {js : List Nat} (h : FindOk code js []) : ∀ (qs : List Nat) (D ms : List Int), D.length = code.length →
    (∀ j, j < qs.length → qs.getD j 0 = ((psTo code code.length).getD (ms.length + j) (0, 0, 0)).1) → ms.length + qs.length = (psTo code code.length).length →
    (∀ j, j < ms.length → D.getD ((psTo code code.length).getD j (0, 0, 0)).1 (-1) = 0) → (∀ j, j < ms.length → 0 ≤ ms.getD j 0) →
    (∀ i, i < code.length → 0 ≤ D.getD i (-1) → (ofTo code code.length).getD i 0 < ms.length ∧ Closed code js D i (ms.getD ((ofTo code code.length).getD i 0) 0)) →
    (depthsN code js qs D ms).2.2.2 = 0 → FlowOk code js (depthsN code js qs D ms).1 (depthsN code js qs D ms).2.1
  | [], D, ms, hl, _, hml, hb, hm, hc, _ => ⟨hl, (show ms.length = _ from by simpa using hml), hb, hm, fun i hi h0 => (hc i hi h0).2⟩
  | a :: qs, D, ms, hl, hq, hml, hb, hm, hc, he => by
    unfold depthsN at he ⊢
    have ha : a = ((psTo code code.length).getD ms.length (0, 0, 0)).1 := hq 0 (by simp)
    rw [List.length_cons] at hml
    have hr : ms.length < (psTo code code.length).length := by omega
    have hbd := h.tl.bd ms.length hr
    have hal : a < code.length := by rw [ha]; omega
    have hoa : (ofTo code code.length).getD a 0 = ms.length := by rw [ha]; exact h.tl.mid ms.length hr _ (Nat.le_refl _) hbd.1
    have hDa : D.getD a (-1) < 0 := by
      by_cases h1 : 0 ≤ D.getD a (-1)
      · have := (hc a hal h1).1; omega
      · omega
    split at he
    · rename_i hw; exact absurd he hw
    rename_i hw
    have hw0 : (walkN code js (code.length + 1) (D.set a 0) [a] 0).2.2.2 = 0 := by simpa using hw
    rw [if_neg hw]
    have hsa : (D.set a 0).getD a (-1) = 0 := by rw [getD_setZ, if_pos ⟨rfl, by omega⟩]
    have hneg := neg_set (D := D) (t := a) (x := 0) (by omega) hDa (Int.le_refl _)
    have hnl := neg_le D
    obtain ⟨r1, r2, r3⟩ := walkN_spec (code := code) (js := js) (fun i => (ofTo code code.length).getD i 0 = ms.length) (fun i t hi hQ ht => by
        have := h.next_of hi ht
        exact ⟨this.1, this.2.trans hQ⟩) (code.length + 1) (D.set a 0) [a] 0 (by simp; omega) (by rw [List.length_set]; exact hl)
        (fun i hi => by
          rw [List.mem_singleton.1 hi]
          exact ⟨hal, hoa, by rw [hsa]; exact Int.le_refl _⟩) hw0
    generalize walkN code js (code.length + 1) (D.set a 0) [a] 0 = R at *
    have hse : Ext D (D.set a 0) := ⟨by simp, fun x hx => by rw [getD_setZ, if_neg (fun e => by rw [e.1] at hx; omega)]⟩
    have hE := hse.trans r1
    have hget : ∀ j, (ms ++ [R.2.1]).getD j 0 = if j < ms.length then ms.getD j 0 else if j = ms.length then R.2.1 else 0 := fun j => getD_snoc ms R.2.1 0 j
    refine depthsN_spec h qs R.1 (ms ++ [R.2.1]) (hE.1.trans hl) (fun j hj => ?_) (by simp; omega) (fun j hj => ?_) (fun j hj => ?_) (fun i hi h0 => ?_) he
    · have := hq (j + 1) (by simp; omega)
      simp only [List.getD_cons_succ] at this
      rw [this]; congr 2; simp; omega
    · simp only [List.length_append, List.length_cons, List.length_nil] at hj
      by_cases e : j = ms.length
      · subst e; rw [← ha, r1.2 a (by rw [hsa]; exact Int.le_refl _), hsa]
      · have hb1 := hb j (by omega)
        rw [hE.2 _ (by rw [hb1]; exact Int.le_refl _), hb1]
    · simp only [List.length_append, List.length_cons, List.length_nil] at hj
      rw [hget]
      split
      · exact hm j (by assumption)
      · rw [if_pos (by omega)]; exact r2
    · by_cases h1 : 0 ≤ D.getD i (-1)
      · obtain ⟨c1, c2⟩ := hc i hi h1
        refine ⟨by rw [List.length_append]; omega, ?_⟩
        rw [hget, if_pos c1]
        exact c2.ext h1 hE (Int.le_refl _)
      · have h2 : i ∈ [a] ∨ ((D.set a 0).getD i (-1) < 0 ∧ 0 ≤ R.1.getD i (-1)) := by
          by_cases e : i = a
          · subst e; exact .inl (List.mem_singleton.2 rfl)
          · exact .inr ⟨by rw [getD_setZ, if_neg (fun h => e h.1)]; omega, h0⟩
        obtain ⟨q1, q2⟩ := r3 i h2
        refine ⟨by rw [q1]; simp, ?_⟩
        rw [q1, hget, if_neg (Nat.lt_irrefl _), if_pos rfl]
        exact q2
theorem flowN_spec {code : List (Nat × Nat)} {js : List Nat} (h : FindOk code js []) (he : (flowN code js).2.2.2 = 0) : FlowOk code js (flowN code js).1 (flowN code js).2.1 := by
  unfold flowN at he ⊢
  refine depthsN_spec h _ _ [] (by simp) (fun j hj => ?_) (by simp) (fun j hj => by simp at hj) (fun j hj => by simp at hj) (fun i hi h0 => ?_) he
  · rw [List.length_map] at hj
    rw [List.getD_eq_getElem?_getD, List.getElem?_map, List.getElem?_eq_getElem hj, List.getD_eq_getElem?_getD, List.length_nil, Nat.zero_add, List.getElem?_eq_getElem hj]
    rfl
  · exfalso
    rw [List.getD_eq_getElem?_getD, List.getElem?_replicate, if_pos hi] at h0
    simp at h0
open Go.RowKit
attribute [local go_sem] Oper.semAt_some
structure DpsI (w : World) (code : List (Nat × Nat)) (js : List Nat) (R : List Int × List Int × Nat × Nat) (S B b gg : Nat) (vp : Value) (n : Nat) (A : World) : Prop where
  bel : Below w.heap.size w A
  box : A.cell? ⟨w.heap.size, 0, none⟩ = some (.pointer (some ⟨gg, 0, none⟩))
  kn : KnP B (S + 2) b vp (psTo code code.length) A
  r2 : A.cell? ⟨w.heap.size + 1, 0, none⟩ = some (.slice none 0 0)
  r3 : A.cell? ⟨w.heap.size + 2, 0, none⟩ = some (.slice none 0 0)
  r4 : A.cell? ⟨w.heap.size + 3, 0, none⟩ = some (.int .i64 0)
  r5 : A.cell? ⟨w.heap.size + 4, 0, none⟩ = some (.int .i64 0)
  f2 : A.frozen? ⟨w.heap.size + 1, 0, none⟩ = false
  f3 : A.frozen? ⟨w.heap.size + 2, 0, none⟩ = false
  f4 : A.frozen? ⟨w.heap.size + 3, 0, none⟩ = false
  f5 : A.frozen? ⟨w.heap.size + 4, 0, none⟩ = false
  lt : S + 2 < A.heap.size
  st : ∃ (D ms : List Int) (g c : Nat) (vm : Value), A.cell? ⟨S, 0, none⟩ = some (.slice (some ⟨g, 0, none⟩) code.length c) ∧ A.cell? ⟨S + 1, 0, none⟩ = some vm ∧ A.frozen? ⟨S + 1, 0, none⟩ = false ∧
    A.ownsRow w.heap.size 3 1 (.slice (some ⟨g, 0, none⟩) code.length c) code.length (encZ D) ∧ A.ownsRow w.heap.size 3 1 vm ms.length (encZ ms) ∧ Deps D ∧ ms.length = n ∧
    depthsN code js (((psTo code code.length).map (·.1)).drop n) D ms = R ∧ w.heap.size + 5 < g ∧ g < S ∧ (∀ q, vm.ownBlock = some q → S + 2 < q)
theorem DpsI.calm {w A C : World} {code : List (Nat × Nat)} {js : List Nat} {R : List Int × List Int × Nat × Nat} {S B b gg : Nat} {vp : Value} {n : Nat} (h : DpsI w code js R S B b gg vp n A) {m : Nat} (hm : w.heap.size ≤ m) (k : Calm m A C) : DpsI w code js R S B b gg vp n C := by
  obtain ⟨D, ms, g, c, vm, s1, s2, s3, s4, s5, s6, s7, s8, s9, s10, s11⟩ := h.st
  exact ⟨Calm.below h.bel ⟨k.os, k.tape, k.output, k.size, k.cells, fun i hi => k.block i (by omega)⟩, k.cell h.box, ⟨k.cell h.kn.1, k.cell h.kn.2.1, k.own h.kn.2.2⟩, k.cell h.r2, k.cell h.r3, k.cell h.r4, k.cell h.r5,
    (k.frozen h.r2).trans h.f2, (k.frozen h.r3).trans h.f3, (k.frozen h.r4).trans h.f4, (k.frozen h.r5).trans h.f5, Nat.lt_of_lt_of_le h.lt k.size,
    D, ms, g, c, vm, k.cell s1, k.cell s2, (k.frozen s2).trans s3, k.own s4, k.own s5, s6, s7, s8, s9, s10, s11⟩
def DpsPost (R : List Int × List Int × Nat × Nat) (w : World) (e : Ending) (w' : World) : Prop :=
  Below w.heap.size w w' ∧ ((R.2.2.2 ≠ 0 ∧ e = .returned (.tuple #[.slice none 0 0, .slice none 0 0, .int .i64 R.2.2.1, .int .i64 R.2.2.2])) ∨
    (R.2.2.2 = 0 ∧ ∃ vd vm, e = .returned (.tuple #[vd, vm, .int .i64 0, .int .i64 0]) ∧ w'.ownsRow w.heap.size 3 1 vd R.1.length (encZ R.1) ∧ w'.ownsRow w.heap.size 3 1 vm R.2.1.length (encZ R.2.1)))
def DpsX (w : World) (R : List Int × List Int × Nat × Nat) (c : Code) (A : World) : Prop :=
  c = .ret ∧ Below w.heap.size w A ∧ A.cell? ⟨w.heap.size + 1, 0, none⟩ = some (.slice none 0 0) ∧ A.cell? ⟨w.heap.size + 2, 0, none⟩ = some (.slice none 0 0) ∧
    A.cell? ⟨w.heap.size + 3, 0, none⟩ = some (.int .i64 R.2.2.1) ∧ A.cell? ⟨w.heap.size + 4, 0, none⟩ = some (.int .i64 R.2.2.2) ∧ R.2.2.2 ≠ 0
theorem DpsX.calm {w A C : World} {R : List Int × List Int × Nat × Nat} {c : Code} (h : DpsX w R c A) {m : Nat} (hm : w.heap.size ≤ m) (k : Calm m A C) : DpsX w R c C :=
  ⟨h.1, Calm.below h.2.1 ⟨k.os, k.tape, k.output, k.size, k.cells, fun i hi => k.block i (by omega)⟩, k.cell h.2.2.1, k.cell h.2.2.2.1, k.cell h.2.2.2.2.1, k.cell h.2.2.2.2.2.1, h.2.2.2.2.2.2⟩
theorem own_formB {w : World} {base e sz n : Nat} {v : Value} {xs : List Value} (h : w.ownsRow base e sz v n xs) (hn : 0 < n) : ∃ g cap, v = .slice (some ⟨g, 0, none⟩) n cap ∧ base ≤ g ∧ g < w.heap.size := by
  obtain ⟨hl, h⟩ := h
  rcases h with ⟨rfl, rfl⟩ | ⟨g, cap, cur, rfl, hb, hg, hn, hm, hcs, ht⟩
  · omega
  · exact ⟨g, cap, rfl, hb, (Array.getElem?_eq_some_iff.1 hg).1⟩
theorem own_cells {w : World} {base e sz n : Nat} {v : Value} {xs : List Value} (h : w.ownsRow base e sz v n xs) : ∀ (j : Nat) (o : Obj), v.ownBlock = some j → w.heap[j]? = some o → o.isCells = true := by
  intro j o hj ho
  obtain ⟨hl, h⟩ := h
  rcases h with ⟨rfl, rfl⟩ | ⟨g, cap, cur, rfl, hb, hg, hn, hm, hcs, ht⟩
  · cases hj
  · simp only [Value.ownBlock, Option.some.injEq] at hj
    subst hj
    rw [hg] at ho; cases ho; rfl
theorem own_block {W : World} {B e g n c sz : Nat} {xs : List Value} (h : W.ownsRow B e sz (.slice (some ⟨g, 0, none⟩) n c) n xs) : ∃ cur : Array Value, W.heap[g]? = some (.cells cur e (0, 0)) ∧ B ≤ g := by
  obtain ⟨hl, ⟨h, _⟩ | ⟨g', cap, cur, hv, hb, hg, hn, hm, hcs, ht⟩⟩ := h
  · cases h
  · cases hv; exact ⟨cur, hg, hb⟩
theorem nums_get {ps : List (Nat × Nat × Nat)} {pre rest : List (Nat × Nat × Nat × Nat)} {x : Nat × Nat × Nat × Nat} (h : nums ps = pre ++ x :: rest) : pre.length < ps.length ∧ x.1 = pre.length ∧ ps.getD pre.length (0, 0, 0) = x.2 := by
  have hl : pre.length < ps.length := by rw [← nums_length ps, h]; simp
  have h1 := nums_at ps pre.length hl
  rw [h, List.getElem?_append_right (Nat.le_refl _), Nat.sub_self] at h1
  simp only [List.getElem?_cons_zero, Option.some.injEq] at h1
  exact ⟨hl, by rw [h1], by rw [h1]⟩
set_option maxRecDepth 100000 in
set_option maxHeartbeats 4000000 in
theorem depths_any {w : World} {B gg b : Nat} {uc uj : Value} {code : List (Nat × Nat)} {js : List Nat} (hG : GraphAt w B gg b uc uj code js) (hok : FindOk code js [])
    (hlt : ∀ k, (code.getD k (0, 0)).1 < 256 ∧ (code.getD k (0, 0)).2 < 4294967296) :
    Calls Tryz.prog 78 #[.pointer (some ⟨gg, 0, none⟩)] w (DpsPost (flowN code js) w) := by
  obtain ⟨ac, cc, hac, -, -, -⟩ := own_sl hG.oc
  have hg0 := hG.c0
  have hg2 := hG.c2
  rw [hac] at hg0
  have hgl : gg < w.heap.size := World.block_lt_of_cell? _ _ hG.c0
  obtain ⟨W1, hW1⟩ : ∃ W1, W1 = (((((w.alloc (.cells #[.pointer (some ⟨gg, 0, none⟩)] 145)).alloc (.cells #[.slice none 0 0] 90)).alloc (.cells #[.slice none 0 0] 90)).alloc (.cells #[.int .i64 0] 3)).alloc (.cells #[.int .i64 0] 39)).alloc (.cells #[.int .i64 (-1)] 3) := ⟨_, rfl⟩
  have hbw1 : Below w.heap.size w W1 := by rw [hW1]; exact Bel.al (Bel.al (Bel.al (Bel.al (Bel.al (Bel.new _ _) _) _) _) _) _
  have q0 := (hbw1.cell (p := ⟨gg, 0, none⟩) hgl).trans hg0
  have q2 := (hbw1.cell (p := ⟨gg, 2, none⟩) hgl).trans hg2
  rw [hW1] at q0 q2
  have hcl := encRes_short hok.he
  have h3 := hok.h3
  have HG := Lib.hid hG
  have Hok := Lib.hid hok
  have Hlt := Lib.hid hlt
  have H3 := Lib.hid h3
  obtain ⟨R, hR⟩ : ∃ R, R = flowN code js := ⟨_, rfl⟩
  rw [← hR]
  have HR := Lib.hid hR
  clear hG hok hlt hac h3 hR
  refine (callsIn_wide (n := 9)).1 ?_
  have h1 : (1 : Nat) ≤ 9 := by omega
  refine callsIn_of_wp_marks Tryz.func78 rfl trivial ?_ rfl
  simp only [Tryz.ntmps78, List.size_toArray, List.length_cons, List.length_nil, Nat.reduceAdd, Nat.reduceSub, Array.replicate_succ, Array.replicate_zero, List.push_toArray, List.append_toArray, List.nil_append, List.cons_append]
  gi_wp2_with fail
  rw [← hW1]
  have hx5 : W1.cell? ⟨w.heap.size + 1 + 1 + 1 + 1 + 1, 0, none⟩ = some (.int .i64 (-1)) := by rw [hW1]; simp [go_sem]
  have hs1 : W1.heap.size = w.heap.size + 6 := by rw [hW1]; simp
  have e0 : W1.cell? ⟨w.heap.size, 0, none⟩ = some (.pointer (some ⟨gg, 0, none⟩)) := by rw [hW1]; simp [go_sem]
  have e2 : W1.cell? ⟨w.heap.size + 1, 0, none⟩ = some (.slice none 0 0) := by rw [hW1]; simp [go_sem]
  have e3 : W1.cell? ⟨w.heap.size + 2, 0, none⟩ = some (.slice none 0 0) := by rw [hW1]; simp [go_sem]
  have e4 : W1.cell? ⟨w.heap.size + 3, 0, none⟩ = some (.int .i64 0) := by rw [hW1]; simp [go_sem]
  have e5 : W1.cell? ⟨w.heap.size + 4, 0, none⟩ = some (.int .i64 0) := by rw [hW1]; simp [go_sem]
  have z2 : W1.frozen? ⟨w.heap.size + 1, 0, none⟩ = false := by rw [hW1]; simp [go_sem]
  have z3 : W1.frozen? ⟨w.heap.size + 2, 0, none⟩ = false := by rw [hW1]; simp [go_sem]
  have z4 : W1.frozen? ⟨w.heap.size + 3, 0, none⟩ = false := by rw [hW1]; simp [go_sem]
  have z5 : W1.frozen? ⟨w.heap.size + 4, 0, none⟩ = false := by rw [hW1]; simp [go_sem]
  have HRp := Lib.hid (repeat_any hx5 code.length (by omega))
  have Hbw1 := Lib.hid hbw1
  clear hbw1 hW1 q0 q2 hx5
  refine ⟨trivial, ?_⟩
  refine (callsIn_wide.2 HRp.out).mono ?_
  rintro e w2 ⟨vd, rfl, ho2, hb2⟩
  obtain ⟨ad, cd, rfl, -, -, hpd⟩ := own_sl ho2
  obtain ⟨g, rfl, hgd, -⟩ := hpd H3.out.1
  have hgS : g < w2.heap.size := hgd
  have hg1 : W1.heap.size ≤ g := (ho2.lt g rfl).1
  obtain ⟨S, hS⟩ : ∃ S, S = w2.heap.size := ⟨_, rfl⟩
  have hbw2 : Below w.heap.size w w2 := Bel.tr Hbw1.out hb2
  have hs2 := hb2.size
  obtain ⟨W5, hW5⟩ : ∃ W5, W5 = ((w2.alloc (.cells #[.slice (some ⟨g, 0, none⟩) code.length cd] 90)).alloc (.cells #[.slice none 0 0] 90)) := ⟨_, rfl⟩
  have hb5 : Below w2.heap.size w2 W5 := by rw [hW5]; exact Bel.al (Bel.new _ _) _
  have q0 := ((Bel.tr hbw2 hb5).cell (p := ⟨gg, 2, none⟩) hgl).trans hg2
  have qb := (hb5.cell (p := ⟨w.heap.size, 0, none⟩) (by show w.heap.size < w2.heap.size; omega)).trans ((hb2.cell (p := ⟨w.heap.size, 0, none⟩) (by show w.heap.size < W1.heap.size; omega)).trans e0)
  rw [hW5] at q0 qb
  clear hpd hgd
  gi_wp2_with fail
  rw [← hW5]
  refine ⟨trivial, ?_⟩
  refine (callsIn_wide.2 (all_any _ _)).mono ?_
  rintro e w6 ⟨rfl, rfl⟩
  have hs5 : W5.heap.size = w2.heap.size + 2 := by rw [hW5]; simp
  obtain ⟨W6, hW6⟩ : ∃ W6, W6 = W5.alloc (.cells #[.pointer (some ⟨b, 0, none⟩)] 87) := ⟨_, rfl⟩
  have hb6 : Below w2.heap.size w2 W6 := by rw [hW6]; exact Bel.al hb5 _
  have hbw6 : Below w.heap.size w W6 := Bel.tr hbw2 hb6
  have hb16 : Below W1.heap.size W1 W6 := Bel.tr hb2 hb6
  obtain ⟨B', hB', vp, vo, vt, us, hP⟩ := HG.out.p
  have hI0 : DpsI w code js R w2.heap.size B' b gg vp 0 W6 := by
    have hp := (hP.below hbw6)
    refine ⟨hbw6, ?_, ⟨?_, hp.c0, hp.op⟩, ?_, ?_, ?_, ?_, ?_, ?_, ?_, ?_, ?_, List.replicate code.length (-1), [], g, cd, .slice none 0 0, ?_, ?_, ?_, ?_, World.ownsRow_nil _ _ _ _, deps_none _, rfl, ?_, by omega, hgS, fun q e => by cases e⟩
    · exact (hb16.cell (p := ⟨w.heap.size, 0, none⟩) (by show w.heap.size < W1.heap.size; omega)).trans e0
    · rw [hW6, ← hs5]; simp [go_sem]
    · exact (hb16.cell (p := ⟨w.heap.size + 1, 0, none⟩) (by show w.heap.size + 1 < W1.heap.size; omega)).trans e2
    · exact (hb16.cell (p := ⟨w.heap.size + 2, 0, none⟩) (by show w.heap.size + 2 < W1.heap.size; omega)).trans e3
    · exact (hb16.cell (p := ⟨w.heap.size + 3, 0, none⟩) (by show w.heap.size + 3 < W1.heap.size; omega)).trans e4
    · exact (hb16.cell (p := ⟨w.heap.size + 4, 0, none⟩) (by show w.heap.size + 4 < W1.heap.size; omega)).trans e5
    · exact (hb16.frozen (p := ⟨w.heap.size + 1, 0, none⟩) (by show w.heap.size + 1 < W1.heap.size; omega)).trans z2
    · exact (hb16.frozen (p := ⟨w.heap.size + 2, 0, none⟩) (by show w.heap.size + 2 < W1.heap.size; omega)).trans z3
    · exact (hb16.frozen (p := ⟨w.heap.size + 3, 0, none⟩) (by show w.heap.size + 3 < W1.heap.size; omega)).trans z4
    · exact (hb16.frozen (p := ⟨w.heap.size + 4, 0, none⟩) (by show w.heap.size + 4 < W1.heap.size; omega)).trans z5
    · rw [hW6, World.size_alloc, hs5]; omega
    · rw [hW6, hW5]; simp [go_sem]
    · rw [hW6, hW5]; simp [go_sem]
    · rw [hW6, hW5]; simp [go_sem]
    · rw [encZ_none]
      exact own_from (own_base (own_below ho2 hb6)) (fun q e => by have := ((own_below ho2 hb6).lt q e).1; omega)
    · rw [List.drop_zero]; exact HR.out.symm
  have hsz6 : w.heap.size ≤ W6.heap.size := hbw6.size
  have HP := Lib.hid hP
  rw [← hW6, hs5]
  clear hW6 hb16 hb6 hbw6 hP hs5 hb5 hW5 q0 qb e0 e2 e3 e4 e5 z2 z3 z4 z5 ho2 hg2 hg0
  gi_wp2_with fail
  refine range_to (gf := 130) (lb := #[.pointer (some ⟨w2.heap.size + 2, 0, none⟩)]) rfl (enters_of Tryz.func130 (by kernel_rfl) rfl) (encs := encP2) (fun _ => rfl) (nums (psTo code code.length)) _ _
    (all_seq 8 (by omega) B' _ b vp (psTo code code.length)) (fun A C h => by rw [h]; exact KeepsOthers.refl _)
    (fun d A => DpsI w code js R w2.heap.size B' b gg vp d.length A) (DpsX w R) (fun d A C h k => h.calm hsz6 k) (fun c A C h k => h.calm hsz6 k) (fun d A h => h.kn) hI0 ?round ?done ?stop
  case round =>
    rintro l' pre ⟨i, p0, p1, p2⟩ rest W hx hi hsz
    obtain ⟨hpl, hi1, hpp⟩ := nums_get hx
    simp only at hi1 hpp
    simp only [encP2, procV]
    gi_wp2
    refine ⟨KeepsOthers.alloc _ _, fun W2 hs2' hc2 => ?_⟩
    have hi2 := hi.calm hsz6 ((Calm.of (Bel.new W (.cells #[.int .u32 p0, .int .u32 p1, .int .u32 p2, .int .i64 0] 71)) hsz).trans hc2)
    have hn0 : W2.cell? ⟨W.heap.size, 0, none⟩ = some (.int .u32 p0) := hc2.cell (by simp [go_sem])
    obtain ⟨D, ms, g', c', vm, s1, s2, s3, s4, s5, s6, s7, s8, s9, s10, s11⟩ := hi2.st
    have hbd := (Hok.out.tl.bd pre.length hpl)
    rw [hpp] at hbd
    simp only at hbd
    have hp0 : p0 < code.length := by omega
    have hdr : ((psTo code code.length).map (·.1)).drop pre.length = p0 :: ((psTo code code.length).map (·.1)).drop (pre.length + 1) := by
      rw [List.drop_eq_getElem_cons (by simpa using hpl)]
      congr 1
      rw [List.getElem_map]
      rw [List.getD_eq_getElem?_getD, List.getElem?_eq_getElem hpl] at hpp
      simp only [Option.getD_some] at hpp
      rw [hpp]
    rw [hdr, depthsN] at s8
    have HW := Lib.hid (walk_any HG.out hi2.bel Hok.out Hlt.out s4 s6 p0 hp0)
    generalize walkN code js (code.length + 1) (D.set p0 0) [p0] 0 = V at *
    obtain ⟨VD, VM, VA, VE⟩ := V
    simp only at HW s8
    have q1 := hi2.box
    have Hi2 := Lib.hid hi2
    have HS4 := Lib.hid s4
    have HS5 := Lib.hid s5
    have HS8 := Lib.hid s8
    have HC2 := Lib.hid hc2
    have hs2 := hs2'
    rw [World.size_alloc] at hs2
    have hWS : w2.heap.size + 2 < W2.heap.size := hi2.lt
    clear hi hi2 s4 s5 s8 hc2 hx hdr hs2'
    gi_wp2_with fail
    refine ⟨trivial, (CallsIn.inRound l' (callsIn_wide.2 HW.out)).mono ?_⟩
    rintro e w5 ⟨D', rfl, ho5, hd5, hg5, heq⟩
    have hq : ∀ k o, k < W2.heap.size → k ≠ g' → w5.cell? ⟨k, o, none⟩ = W2.cell? ⟨k, o, none⟩ := fun k o h1 h2 => World.cell?_of_block (a := ⟨k, o, none⟩) (hg5.block k h1 (fun e => h2 (by injection e)))
    have hqf : ∀ k o, k < W2.heap.size → k ≠ g' → w5.frozen? ⟨k, o, none⟩ = W2.frozen? ⟨k, o, none⟩ := fun k o h1 h2 => World.frozen?_of_block (a := ⟨k, o, none⟩) (hg5.block k h1 (fun e => h2 (by injection e)))
    have hKO : KeepsOthers W2 w5 := KeepsOthers.of_grownBy hg5 (fun j o e ho => by
      cases e
      obtain ⟨cur, hgc, -⟩ := own_block HS4.out
      rw [hgc] at ho; cases ho; rfl)
    have hbw5 : Below w.heap.size w w5 := Hi2.out.bel.trans (grown_belowB hg5 Hi2.out.bel.size (by omega))
    have a2 := (hq (w.heap.size + 1) 0 (by omega) (by omega)).trans Hi2.out.r2
    have a3 := (hq (w.heap.size + 2) 0 (by omega) (by omega)).trans Hi2.out.r3
    have a4 := (hq (w.heap.size + 3) 0 (by omega) (by omega)).trans Hi2.out.r4
    have a5 := (hq (w.heap.size + 4) 0 (by omega) (by omega)).trans Hi2.out.r5
    have b2 := (hqf (w.heap.size + 1) 0 (by omega) (by omega)).trans Hi2.out.f2
    have b3 := (hqf (w.heap.size + 2) 0 (by omega) (by omega)).trans Hi2.out.f3
    have b4 := (hqf (w.heap.size + 3) 0 (by omega) (by omega)).trans Hi2.out.f4
    have b5 := (hqf (w.heap.size + 4) 0 (by omega) (by omega)).trans Hi2.out.f5
    have a7 := (hq (w2.heap.size + 1) 0 (by omega) (by omega)).trans s2
    have b7 := (hqf (w2.heap.size + 1) 0 (by omega) (by omega)).trans s3
    have Hq := Lib.hid hq
    have Hqf := Lib.hid hqf
    have HKO := Lib.hid hKO
    have HB5 := Lib.hid hbw5
    have HO5 := Lib.hid ho5
    have HG5 := Lib.hid hg5
    have HEQ := Lib.hid heq
    clear hq hqf hKO hbw5 ho5 hg5 heq HW
    by_cases hve : VE = 0
    · subst hve
      have hz : ((0 : Nat) : Int) = 0 := rfl
      rw [if_neg (by simp)] at HS8
      obtain ⟨j0, hj, hy0, hy1, hy2⟩ := info_parts info3'
      have hS3 : w2.heap.size + 3 ≤ w5.heap.size := Nat.le_trans hWS HG5.out.size
      have HM5 := Lib.hid (own_from (own_base (HS5.out.kept HG5.out (by
        cases hv : vm.ownBlock with
        | none => exact .inl rfl
        | some q => exact .inr (fun e => by injection e with e; have := s11 q hv; omega)))) (B := w2.heap.size + 3) (fun q e => s11 q e))
      have hxa := HM5.out.alloc (.cells #[.int .i64 VM] 3)
      have hnw := news_new w5 #[.int .i64 VM] 3
      have hml : ms.length ≤ 16384 := by have := Hok.out.tl; have h5 := psTo_le code code.length; omega
      have HS7 := Lib.hid s7
      clear s7
      gi_wp2_with ((with_reducible refine wpListIn_append_own (o := ⟨some 44, .call { callee := .builtin .append, args := #[.tmp 41, .tmp 43], argTypes := #[90, 90] }, _, _, _, none⟩) _ rfl _ _ 90 rfl (w2.heap.size + 3) 3 j0 (.int .i64 0) 1 8 Tryz.underlying90 hj hy0 hy1 hy2 ?_ ?_ vm ms.length (encZ ms) ?_ hxa ⟨w5.heap.size, 0, none⟩ 1 1 [.int .i64 VM] ?_ ?_ hnw ?_ ?_ ?_ ?_ ?_); rfl; decide; rfl; rfl; rfl; (simp [Value.oneCell']); (unfold maxLen; omega); omega; (simp; omega); intro v' w' r1 r2 r3; obtain ⟨gq, cq, rfl, hgq, hgq2⟩ := own_formB r1 (by omega); have hbb : Below (w2.heap.size + 3) w5 w' := ((Below.refl (w2.heap.size + 3) w5).alloc hS3 (.cells #[.int .i64 VM] 3)).grown r2 (by rw [World.size_alloc]; omega) (fun k e => (HM5.out.lt k e).1); have hcx := (hbb.cell (p := ⟨w2.heap.size + 1, 0, none⟩) (by show w2.heap.size + 1 < w2.heap.size + 3; omega)).trans a7; have hfx := (hbb.frozen (p := ⟨w2.heap.size + 1, 0, none⟩) (by show w2.heap.size + 1 < w2.heap.size + 3; omega)).trans b7)
      have hbw : Below w.heap.size w w' := HB5.out.trans (hbb.mono (by omega))
      have hbws := hbw.setCell (p := ⟨w2.heap.size + 1, 0, none⟩) (by show w.heap.size ≤ w2.heap.size + 1; omega) (.slice (some ⟨gq, 0, none⟩) (ms.length + 1) cq)
      have hoth : ∀ k, k < w2.heap.size + 3 → k ≠ w2.heap.size + 1 → (w'.setCell ⟨w2.heap.size + 1, 0, none⟩ (.slice (some ⟨gq, 0, none⟩) (ms.length + 1) cq)).cell? ⟨k, 0, none⟩ = w5.cell? ⟨k, 0, none⟩ := fun k k1 k2 =>
        (World.cell?_of_block (a := ⟨k, 0, none⟩) (Below.heap_setCell _ _ _ _ k2)).trans (hbb.cell (p := ⟨k, 0, none⟩) k1)
      have hofr : ∀ k, k < w2.heap.size + 3 → (w'.setCell ⟨w2.heap.size + 1, 0, none⟩ (.slice (some ⟨gq, 0, none⟩) (ms.length + 1) cq)).frozen? ⟨k, 0, none⟩ = w5.frozen? ⟨k, 0, none⟩ := fun k k1 => by
        rw [World.frozen?_setCell]; exact hbb.frozen (p := ⟨k, 0, none⟩) k1
      have hP' := HP.out.below hbws
      have hsz5 := hbb.size
      have hrow : (w'.setCell ⟨w2.heap.size + 1, 0, none⟩ (.slice (some ⟨gq, 0, none⟩) (ms.length + 1) cq)).ownsRow w.heap.size 3 1 (.slice (some ⟨g', 0, none⟩) code.length c') code.length (encZ D') := by
        refine ownsRow_setCell_other ((HO5.out.alloc (.cells #[.int .i64 VM] 3)).kept r2 ?_) (fun e => by simp only [Value.ownBlock, Option.some.injEq] at e; omega) _
        cases hv : vm.ownBlock with
        | none => exact .inr (by simp [Value.ownBlock])
        | some q => exact .inr (by simp only [Value.ownBlock]; intro e; injection e with e; have := (HM5.out.lt q hv).1; omega)
      have hneed : (w'.setCell ⟨w2.heap.size + 1, 0, none⟩ (.slice (some ⟨gq, 0, none⟩) (ms.length + 1) cq)).ownsRow w.heap.size 3 1 (.slice (some ⟨gq, 0, none⟩) (ms.length + 1) cq) (ms ++ [VM]).length (encZ (ms ++ [VM])) := by
        have h1 := ownsRow_setCell_other r1 (a := ⟨w2.heap.size + 1, 0, none⟩) (fun e => by simp only [Value.ownBlock, Option.some.injEq] at e; omega) (.slice (some ⟨gq, 0, none⟩) (ms.length + 1) cq)
        have h2 := own_from (own_base h1) (B := w.heap.size) (fun q e => by simp only [Value.ownBlock, Option.some.injEq] at e; omega)
        rw [List.length_append]
        simpa [encZ] using h2
      have hkn := Hi2.out.kn.1
      have hks : KeepsOthers W2 (w'.setCell ⟨w2.heap.size + 1, 0, none⟩ (.slice (some ⟨gq, 0, none⟩) (ms.length + 1) cq)) := HKO.out.trans ((KeepsOthers.alloc w5 _).trans ((KeepsOthers.of_grownBy r2 (own_cells hxa)).trans (KeepsOthers.setCell _ _ _)))
      refine ⟨hks, hbws, (hoth _ (by omega) (by omega)).trans ((Hq.out _ 0 (by omega) (by omega)).trans q1), ⟨(hoth _ (by omega) (by omega)).trans ((Hq.out _ 0 (by omega) (by omega)).trans hkn), hP'.c0, hP'.op⟩, (hoth _ (by omega) (by omega)).trans a2, (hoth _ (by omega) (by omega)).trans a3, (hoth _ (by omega) (by omega)).trans a4, (hoth _ (by omega) (by omega)).trans a5,
        (hofr _ (by omega)).trans b2, (hofr _ (by omega)).trans b3, (hofr _ (by omega)).trans b4, (hofr _ (by omega)).trans b5, by rw [World.size_setCell]; omega,
        D', ms ++ [VM], g', c', _, (hoth _ (by omega) (by omega)).trans ((Hq.out _ 0 (by omega) (by omega)).trans s1), World.cell?_setCell_same' _ _ _ (by rw [hcx]; rfl), (hofr _ (by omega)).trans b7, hrow, hneed, hd5, by rw [List.length_append, List.length_append, HS7.out]; rfl, ?_, s9, s10, fun q e => by simp only [Value.ownBlock, Option.some.injEq] at e; omega⟩
      rw [List.length_append]
      have h8 := HS8.out
      rw [HEQ.out trivial]
      exact h8
    · have hne : ((VE : Int) != 0) = true := by simp; exact hve
      have hRe : R = ([], [], VA, VE) := by rw [← HS8.out, if_pos hve]
      have HRe := Lib.hid hRe
      have Hve := Lib.hid hve
      clear hRe hve a7 b7
      gi_wp2
      have hcs : ∀ k o, k < W2.heap.size → k ≠ g' → w5.cell? ⟨k, o, none⟩ = W2.cell? ⟨k, o, none⟩ := Hq.out
      refine ⟨HKO.out.trans ((KeepsOthers.setCell _ _ _).trans ((KeepsOthers.setCell _ _ _).trans ((KeepsOthers.setCell _ _ _).trans (KeepsOthers.setCell _ _ _)))), rfl, ?_, ?_, ?_, ?_, ?_, ?_⟩
      · exact (((HB5.out.setCell (p := ⟨w.heap.size + 1, 0, none⟩) (Nat.le_succ _) _).setCell (p := ⟨w.heap.size + 1 + 1, 0, none⟩) (by show w.heap.size ≤ w.heap.size + 1 + 1; omega) _).setCell (p := ⟨w.heap.size + 1 + 1 + 1, 0, none⟩) (by show w.heap.size ≤ w.heap.size + 1 + 1 + 1; omega) _).setCell (p := ⟨w.heap.size + 1 + 1 + 1 + 1, 0, none⟩) (by show w.heap.size ≤ w.heap.size + 1 + 1 + 1 + 1; omega) _
      · simp [go_sem, a2]
      · simp [go_sem, a3]
      · rw [HRe.out]; simp [go_sem, a4]
      · rw [HRe.out]; simp [go_sem, a5]
      · rw [HRe.out]; exact Hve.out
  case done =>
    rintro Dd W2 W3 W4 hi rfl hc hD hd
    rename_i K hK
    refine hK _ _ (wpIn_wide.2 ?_)
    have hi4 := hi.calm hsz6 hc
    obtain ⟨D, ms, g', c', vm, s1, s2, s3, s4, s5, s6, s7, s8, s9, s10, s11⟩ := hi4.st
    rw [nums_length, List.drop_of_length_le (by simp), depthsN] at s8
    obtain ⟨av, cv, rfl, -⟩ := own_sl s5
    have HS4 := Lib.hid s4
    have HS5 := Lib.hid s5
    have HS8 := Lib.hid s8
    have Hi4 := Lib.hid hi4
    have Hd := Lib.hid hd
    have x2 := hi4.r2
    have x3 := hi4.r3
    have x4 := hi4.r4
    have x5 := hi4.r5
    have y2 := hi4.f2
    have y3 := hi4.f3
    have y4 := hi4.f4
    have y5 := hi4.f5
    have hlw := hi4.lt
    clear hi hi4 hc hd s4 s5 s8 s7
    have hle2 : w.heap.size + 6 ≤ w2.heap.size := by omega
    have HK0 := Lib.hid (show W4.cell? ⟨w2.heap.size, 0, none⟩ = some (.slice (some ⟨g', 0, none⟩) code.length c') ∧ W4.cell? ⟨w2.heap.size + 1, 0, none⟩ = some (.slice av ms.length cv) from ⟨s1, s2⟩)
    have HKd := Lib.hid (show ∀ W' : World, (W'.cell? ⟨w2.heap.size, 0, none⟩ = some (.slice (some ⟨g', 0, none⟩) code.length c') ∧ W'.cell? ⟨w2.heap.size + 1, 0, none⟩ = some (.slice av ms.length cv)) → (W'.drew.cell? ⟨w2.heap.size, 0, none⟩ = some (.slice (some ⟨g', 0, none⟩) code.length c') ∧ W'.drew.cell? ⟨w2.heap.size + 1, 0, none⟩ = some (.slice av ms.length cv)) from fun W' h => h)
    have HKs := Lib.hid (show ∀ (W' : World) (o : Nat) (v : Value), o < w2.heap.size → (W'.cell? ⟨w2.heap.size, 0, none⟩ = some (.slice (some ⟨g', 0, none⟩) code.length c') ∧ W'.cell? ⟨w2.heap.size + 1, 0, none⟩ = some (.slice av ms.length cv)) → ((W'.setCell ⟨o, 0, none⟩ v).cell? ⟨w2.heap.size, 0, none⟩ = some (.slice (some ⟨g', 0, none⟩) code.length c') ∧ (W'.setCell ⟨o, 0, none⟩ v).cell? ⟨w2.heap.size + 1, 0, none⟩ = some (.slice av ms.length cv)) from
      fun W' o v ho h => ⟨(World.cell?_of_block (a := ⟨w2.heap.size, 0, none⟩) (Below.heap_setCell _ _ _ _ (by show w2.heap.size ≠ o; omega))).trans h.1, (World.cell?_of_block (a := ⟨w2.heap.size + 1, 0, none⟩) (Below.heap_setCell _ _ _ _ (by show w2.heap.size + 1 ≠ o; omega))).trans h.2⟩)
    have k1 : w.heap.size + 1 < w2.heap.size := by omega
    have k2 : w.heap.size + 1 + 1 < w2.heap.size := by omega
    have k3 : w.heap.size + 1 + 1 + 1 < w2.heap.size := by omega
    have k4 : w.heap.size + 1 + 1 + 1 + 1 < w2.heap.size := by omega
    have KK1 := Lib.hid (fun W' v => HKs.out W' _ v k1)
    have KK2 := Lib.hid (fun W' v => HKs.out W' _ v k2)
    have KK3 := Lib.hid (fun W' v => HKs.out W' _ v k3)
    have KK4 := Lib.hid (fun W' v => HKs.out W' _ v k4)
    have HG4 := Lib.hid (show ∀ o : Nat, o ≤ w.heap.size + 5 → (Value.slice (some ⟨g', 0, none⟩) code.length c').ownBlock ≠ some o from fun o ho e => by simp only [Value.ownBlock, Option.some.injEq] at e; omega)
    have HG5 := Lib.hid (show ∀ o : Nat, o ≤ w.heap.size + 5 → (Value.slice av ms.length cv).ownBlock ≠ some o from fun o ho e => by have := s11 _ e; omega)
    have HDd := Lib.hid (show w2.heap.size + 2 < Dd ∧ w.heap.size + 6 ≤ w2.heap.size from ⟨by have := hI0.lt; omega, hle2⟩)
    clear k1 k2 k3 k4 hle2 HKs hlw hsz6 hgS hg1 hbw2 hb2 hs1 hs2 HG Hok Hlt H3 HR HRp Hbw1 HP hI0 hB' hgl hcl s3 s6 s9 s10 s11 hD
    go_wp2
    go_region_held3 (fun w' => w'.cell? ⟨w2.heap.size, 0, none⟩ = some (.slice (some ⟨g', 0, none⟩) code.length c') ∧ w'.cell? ⟨w2.heap.size + 1, 0, none⟩ = some (.slice av ms.length cv))
      (first | with_reducible exact HK0.out | (repeat (first | with_reducible exact HK0.out | (with_reducible refine HKd.out _ ?_) | (with_reducible refine KK1.out _ _ ?_) | (with_reducible refine KK2.out _ _ ?_) | (with_reducible refine KK3.out _ _ ?_) | (with_reducible refine KK4.out _ _ ?_)))) (fail)
    have ho4 := ownsRow_setCell_other (ownsRow_setCell_other (ownsRow_setCell_other (ownsRow_setCell_other HS4.out (a := ⟨w.heap.size + 1, 0, none⟩) (HG4.out (w.heap.size + 1) (by omega)) (.slice (some ⟨g', 0, none⟩) code.length c')) (a := ⟨w.heap.size + 1 + 1, 0, none⟩) (HG4.out (w.heap.size + 1 + 1) (by omega)) (.slice av ms.length cv)) (a := ⟨w.heap.size + 1 + 1 + 1, 0, none⟩) (HG4.out (w.heap.size + 1 + 1 + 1) (by omega)) (.int .i64 0)) (a := ⟨w.heap.size + 1 + 1 + 1 + 1, 0, none⟩) (HG4.out (w.heap.size + 1 + 1 + 1 + 1) (by omega)) (.int .i64 0)
    have ho5 := ownsRow_setCell_other (ownsRow_setCell_other (ownsRow_setCell_other (ownsRow_setCell_other HS5.out (a := ⟨w.heap.size + 1, 0, none⟩) (HG5.out (w.heap.size + 1) (by omega)) (.slice (some ⟨g', 0, none⟩) code.length c')) (a := ⟨w.heap.size + 1 + 1, 0, none⟩) (HG5.out (w.heap.size + 1 + 1) (by omega)) (.slice av ms.length cv)) (a := ⟨w.heap.size + 1 + 1 + 1, 0, none⟩) (HG5.out (w.heap.size + 1 + 1 + 1) (by omega)) (.int .i64 0)) (a := ⟨w.heap.size + 1 + 1 + 1 + 1, 0, none⟩) (HG5.out (w.heap.size + 1 + 1 + 1 + 1) (by omega)) (.int .i64 0)
    have hX1 : ((((W4.setCell ⟨w.heap.size + 1, 0, none⟩ (.slice (some ⟨g', 0, none⟩) code.length c')).setCell ⟨w.heap.size + 1 + 1, 0, none⟩ (.slice av ms.length cv)).setCell ⟨w.heap.size + 1 + 1 + 1, 0, none⟩ (.int .i64 0)).setCell ⟨w.heap.size + 1 + 1 + 1 + 1, 0, none⟩ (.int .i64 0)).heap[Dd]? = some (.deferred (some [])) := by
      have h5 := HDd.out
      rw [Below.heap_setCell _ _ _ _ (by show Dd ≠ w.heap.size + 1 + 1 + 1 + 1; omega), Below.heap_setCell _ _ _ _ (by show Dd ≠ w.heap.size + 1 + 1 + 1; omega), Below.heap_setCell _ _ _ _ (by show Dd ≠ w.heap.size + 1 + 1; omega), Below.heap_setCell _ _ _ _ (by show Dd ≠ w.heap.size + 1; omega)]
      exact Hd.out
    have hX2 : ((((W4.setCell ⟨w.heap.size + 1, 0, none⟩ (.slice (some ⟨g', 0, none⟩) code.length c')).setCell ⟨w.heap.size + 1 + 1, 0, none⟩ (.slice av ms.length cv)).setCell ⟨w.heap.size + 1 + 1 + 1, 0, none⟩ (.int .i64 0)).setCell ⟨w.heap.size + 1 + 1 + 1 + 1, 0, none⟩ (.int .i64 0)).cell? ⟨w.heap.size + 1, 0, none⟩ = some (.slice (some ⟨g', 0, none⟩) code.length c') := by simp [go_sem, x2]
    have hX3 : ((((W4.setCell ⟨w.heap.size + 1, 0, none⟩ (.slice (some ⟨g', 0, none⟩) code.length c')).setCell ⟨w.heap.size + 1 + 1, 0, none⟩ (.slice av ms.length cv)).setCell ⟨w.heap.size + 1 + 1 + 1, 0, none⟩ (.int .i64 0)).setCell ⟨w.heap.size + 1 + 1 + 1 + 1, 0, none⟩ (.int .i64 0)).cell? ⟨w.heap.size + 2, 0, none⟩ = some (.slice av ms.length cv) := by simp [go_sem, x3]
    have hX4 : ((((W4.setCell ⟨w.heap.size + 1, 0, none⟩ (.slice (some ⟨g', 0, none⟩) code.length c')).setCell ⟨w.heap.size + 1 + 1, 0, none⟩ (.slice av ms.length cv)).setCell ⟨w.heap.size + 1 + 1 + 1, 0, none⟩ (.int .i64 0)).setCell ⟨w.heap.size + 1 + 1 + 1 + 1, 0, none⟩ (.int .i64 0)).cell? ⟨w.heap.size + 3, 0, none⟩ = some (.int .i64 0) := by simp [go_sem, x4]
    have hX5 : ((((W4.setCell ⟨w.heap.size + 1, 0, none⟩ (.slice (some ⟨g', 0, none⟩) code.length c')).setCell ⟨w.heap.size + 1 + 1, 0, none⟩ (.slice av ms.length cv)).setCell ⟨w.heap.size + 1 + 1 + 1, 0, none⟩ (.int .i64 0)).setCell ⟨w.heap.size + 1 + 1 + 1 + 1, 0, none⟩ (.int .i64 0)).cell? ⟨w.heap.size + 4, 0, none⟩ = some (.int .i64 0) := by simp [go_sem, x5]
    have hXb := (((Hi4.out.bel.setCell (p := ⟨w.heap.size + 1, 0, none⟩) (Nat.le_succ _) (.slice (some ⟨g', 0, none⟩) code.length c')).setCell (p := ⟨w.heap.size + 1 + 1, 0, none⟩) (by show w.heap.size ≤ w.heap.size + 1 + 1; omega) (.slice av ms.length cv)).setCell (p := ⟨w.heap.size + 1 + 1 + 1, 0, none⟩) (by show w.heap.size ≤ w.heap.size + 1 + 1 + 1; omega) (.int .i64 0)).setCell (p := ⟨w.heap.size + 1 + 1 + 1 + 1, 0, none⟩) (by show w.heap.size ≤ w.heap.size + 1 + 1 + 1 + 1; omega) (.int .i64 0)
    generalize (((W4.setCell ⟨w.heap.size + 1, 0, none⟩ (.slice (some ⟨g', 0, none⟩) code.length c')).setCell ⟨w.heap.size + 1 + 1, 0, none⟩ (.slice av ms.length cv)).setCell ⟨w.heap.size + 1 + 1 + 1, 0, none⟩ (.int .i64 0)).setCell ⟨w.heap.size + 1 + 1 + 1 + 1, 0, none⟩ (.int .i64 0) = X at *
    have hk' := Calm.putObj (B := w.heap.size) X.drew (.deferred none) hX1 rfl (by have := HDd.out; omega)
    have t2 := hk'.cell (show X.drew.cell? ⟨w.heap.size + 1, 0, none⟩ = _ from hX2)
    have t3 := hk'.cell (show X.drew.cell? ⟨w.heap.size + 2, 0, none⟩ = _ from hX3)
    have t4 := hk'.cell (show X.drew.cell? ⟨w.heap.size + 3, 0, none⟩ = _ from hX4)
    have t5 := hk'.cell (show X.drew.cell? ⟨w.heap.size + 4, 0, none⟩ = _ from hX5)
    have HX1 := Lib.hid (show X.drew.heap[Dd]? = some (.deferred (some [])) from hX1)
    have HO4 := Lib.hid (hk'.own (A := X.drew) ho4)
    have HO5 := Lib.hid (hk'.own (A := X.drew) ho5)
    have HXB := Lib.hid (Calm.below hXb.drew hk')
    clear hX1 hX2 hX3 hX4 hX5 ho4 ho5 hXb hk' x2 x3 x4 x5 y2 y3 y4 y5
    go_wp2
    refine ⟨by simp, .inl ⟨_, _, rfl, run_takeDeferred HX1.out, ?_⟩⟩
    refine ⟨.tuple #[.slice (some ⟨g', 0, none⟩) code.length c', .slice av ms.length cv, .int .i64 0, .int .i64 0], by simp [results, Tryz.results78, go_sem, t2, t3, t4, t5], HXB.out, .inr ⟨by rw [← HS8.out], _, _, rfl, ?_, ?_⟩⟩
    · rw [← HS8.out]
      have h := HO4.out
      show World.ownsRow _ _ _ _ _ D.length (encZ D)
      rw [own_ilen h]; exact h
    · rw [← HS8.out]; exact HO5.out
  case stop =>
    rintro Dd c W4 ⟨rfl, hb, x2, x3, x4, x5, hne⟩ hD hd
    have Hd := Lib.hid hd
    have hk' := Calm.putObj (B := w.heap.size) W4 (.deferred none) hd rfl (by omega)
    have HB := Lib.hid hb
    have Hne := Lib.hid hne
    have t2 := hk'.cell x2
    have t3 := hk'.cell x3
    have t4 := hk'.cell x4
    have t5 := hk'.cell x5
    clear hd hb hne
    gi_wp2
    refine ⟨by simp, .inl ⟨_, _, rfl, run_takeDeferred Hd.out, ?_⟩⟩
    exact ⟨.tuple #[.slice none 0 0, .slice none 0 0, .int .i64 R.2.2.1, .int .i64 R.2.2.2], by simp [results, Tryz.results78, go_sem, t2, t3, t4, t5], Calm.below HB.out hk', .inl ⟨Hne.out, rfl⟩⟩
end Go.Proofs.YtflpbgdghaaiaaaGreat
namespace Go.Proofs.YtflpbgdghaaiaaaGreat
open Go.RowKit
set_option linter.unusedVariables false
set_option maxRecDepth 100000 in
set_option maxHeartbeats 2000000 in
theorem flow_any {w : World} (vc vj : Value) (code : List (Nat × Nat)) (js : List Nat) (hok : FindOk code js []) (hl : code.length ≤ 16384) (hjl : js.length ≤ 16384) (hc : Instrs w vc code) (hj : Words w vj js) :
    Calls Tryz.prog 39 #[vc, vj] w (DpsPost (flowN code js) w) := by
  have hlt := hc.lt
  have HF := Lib.hid (found_any vc vj code js hok hl hjl hc hj)
  have HD := Lib.hid (fun W B g b uc uj (hG : GraphAt W B g b uc uj code js) => depths_any hG hok hlt)
  generalize flowN code js = R at *
  clear hlt hc hj
  go_enter Tryz.func39, Tryz.ntmps39
  go_wp2_with fail
  refine HF.out.mono ?_
  rintro e w1 ⟨g, b, uc, uj, rfl, hb1, hG⟩
  have HD1 := Lib.hid (HD.out _ _ _ _ _ _ hG)
  have HB1 := Lib.hid hb1
  clear hb1 hG HF HD
  go_wp2_with fail
  refine HD1.out.mono ?_
  rintro e w2 ⟨hb2, ⟨hne, rfl⟩ | ⟨h0, vd, vm, rfl, ho1, ho2⟩⟩
  · have HB2 := Lib.hid (Bel.tr HB1.out hb2)
    have HN := Lib.hid hne
    clear hb2 hne
    go_wp2
    exact bodyPost_ret (v := .tuple #[.slice none 0 0, .slice none 0 0, .int .i64 R.2.2.1, .int .i64 R.2.2.2]) (by simp [results, Tryz.results39, go_sem]) rfl ⟨HB2.out, .inl ⟨HN.out, rfl⟩⟩
  · have HB2 := Lib.hid (Bel.tr HB1.out hb2)
    have H0 := Lib.hid h0
    have HO1 := Lib.hid (own_from (own_base ho1) (B := w.heap.size) (fun q e => Nat.le_trans HB1.out.size (ho1.lt q e).1))
    have HO2 := Lib.hid (own_from (own_base ho2) (B := w.heap.size) (fun q e => Nat.le_trans HB1.out.size (ho2.lt q e).1))
    clear hb2 h0 ho1 ho2
    go_wp2
    exact bodyPost_ret (v := .tuple #[vd, vm, .int .i64 0, .int .i64 0]) (by simp [results, Tryz.results39, go_sem]) rfl ⟨HB2.out, .inr ⟨H0.out, _, _, rfl, HO1.out, HO2.out⟩⟩
structure TakeOk (m : Img) : Prop where
  k : checkI m = 0
  f : FindOk m.code m.js (m.lx.map (·.2))
  r : (flowN m.code m.js).2.2.2 = 0
def TakeBad (m : Img) (a c : Nat) : Prop :=
  (checkI m ≠ 0 ∧ a = 0 ∧ c = checkI m) ∨ (checkI m = 0 ∧ FindBad m.code m.js (m.lx.map (·.2)) a c) ∨
  (checkI m = 0 ∧ FindOk m.code m.js (m.lx.map (·.2)) ∧ (flowN m.code m.js).2.2.2 ≠ 0 ∧ a = (flowN m.code m.js).2.2.1 ∧ c = (flowN m.code m.js).2.2.2)
def ModAt (W : World) (B mb : Nat) (m : Img) : Prop :=
  B ≤ mb ∧ ∃ (tb b : Nat) (vm uc vd uj ud un : Value), W.cell? ⟨mb, 0, none⟩ = some (.pointer (some ⟨tb, 0, none⟩)) ∧ B ≤ tb ∧
    (W.cell? ⟨tb, 0, none⟩ = some (.pointer (some ⟨b, 0, none⟩)) ∧ W.cell? ⟨tb, 1, none⟩ = some vm ∧ W.cell? ⟨tb, 2, none⟩ = some uc ∧ W.cell? ⟨tb, 3, none⟩ = some vd ∧
     W.cell? ⟨tb, 4, none⟩ = some uc ∧ W.cell? ⟨tb, 5, none⟩ = some uj ∧ W.cell? ⟨tb, 6, none⟩ = some ud ∧ W.cell? ⟨tb, 7, none⟩ = some (.int .u32 m.zero) ∧ W.cell? ⟨tb, 8, none⟩ = some (.int .u32 m.stack) ∧
     W.cell? ⟨tb, 9, none⟩ = some un ∧ W.cell? ⟨tb, 10, none⟩ = some (.int .i64 (bitsI m)) ∧ W.cell? ⟨tb, 11, none⟩ = some (.int .u64 (digN m))) ∧
    ImgOwn W B uc uj ud un m ∧ (∃ B', B ≤ B' ∧ FoundAt m.code m.js W B' b) ∧
    W.ownsRow B 3 1 vd (flowN m.code m.js).1.length (encZ (flowN m.code m.js).1) ∧ W.ownsRow B 3 1 vm (flowN m.code m.js).2.1.length (encZ (flowN m.code m.js).2.1)
def TakePost (m : Img) (w : World) (e : Ending) (w' : World) : Prop :=
  Below w.heap.size w w' ∧ ((∃ a c : Nat, e = .returned (.tuple #[.pointer none, .int .i64 a, .int .i64 c]) ∧ TakeBad m a c) ∨
    ∃ mb, e = .returned (.tuple #[.pointer (some ⟨mb, 0, none⟩), .int .i64 0, .int .i64 0]) ∧ TakeOk m ∧ ModAt w' w.heap.size mb m)
theorem findBad_pos {code : List (Nat × Nat)} {js ats : List Nat} {i c : Nat} (h : FindBad code js ats i c) : c ≠ 0 := by cases h <;> first | assumption | decide
theorem run_b229 (p : Option Addr) (a : Option Addr) (n c : Nat) (w : World) : (Instr.build 95 #[(0, .pointer p), (1, .slice a n c)]).run Tryz.prog w = .ok (.agg #[.pointer p, .slice a n c]) w := by kernel_rfl
theorem run_b231 (a a' : Option Addr) (n c n' c' : Nat) (w : World) : (Instr.build 97 #[(0, .slice a n c), (1, .slice a' n' c')]).run Tryz.prog w = .ok (.agg #[.slice a n c, .slice a' n' c']) w := by kernel_rfl
theorem run_b233 (p a1 a2 a3 a4 a5 a6 a7 : Option Addr) (n1 c1 n2 c2 n3 c3 n4 c4 n5 c5 n6 c6 n7 c7 : Nat) (z s : Int) (w : World) : (Instr.build 100 #[(0, .agg #[.pointer p, .slice a1 n1 c1]), (1, .agg #[.slice a2 n2 c2, .slice a3 n3 c3]), (2, .agg #[.slice a4 n4 c4, .slice a5 n5 c5, .slice a6 n6 c6, .int .u32 z, .int .u32 s, .slice a7 n7 c7])]).run Tryz.prog w = .ok (.agg #[.pointer p, .slice a1 n1 c1, .slice a2 n2 c2, .slice a3 n3 c3, .slice a4 n4 c4, .slice a5 n5 c5, .slice a6 n6 c6, .int .u32 z, .int .u32 s, .slice a7 n7 c7, .int .i64 0, .int .u64 0]) w := by kernel_rfl
theorem rawI_lt' {m : Img} (hc : ∀ i ∈ m.code, i.1 < 256 ∧ i.2 < 4294967296) (hd : ∀ x ∈ m.data, x < 256) : ∀ x ∈ imgB m, x < 256 := by
  refine withN_lt (withN_lt (fun x hx => ?_) _ _) _ _
  unfold rawI headI at hx
  rcases List.mem_append.1 hx with hx | hx
  · rcases List.mem_append.1 hx with hx | hx
    · have : ∀ y ∈ ([80, 69, 78, 33] : List Nat), y < 256 := by decide
      exact this x hx
    · exact le4s_lt _ x hx
  · rcases List.mem_append.1 hx with hx | hx
    · exact flatS_lt _ x hx
    · rcases List.mem_append.1 hx with hx | hx
      · exact le4s_lt _ x hx
      · obtain ⟨l, hl, hx⟩ := List.mem_flatMap.1 hx
        unfold partsI at hl
        simp only [List.mem_cons, List.not_mem_nil, or_false] at hl
        rcases hl with rfl | rfl | rfl | rfl
        · exact encode_lt _ hc x hx
        · exact le4s_lt _ x hx
        · exact hd x hx
        · exact namesB_lt _ x hx
theorem run_b303 (p : Option Addr) (w : World) : (Instr.build 107 #[(0, .pointer p)]).run Tryz.prog w = .ok (.agg #[.pointer p]) w := by kernel_rfl
theorem imgB_length_le (m : Img) (hm : checkI m = 0) : (imgB m).length < 4294967296 := by
  obtain ⟨hc1, hc2, hc3, hc4, hc5, hc6, hc7⟩ := checkI_ok hm
  have L0 := encode_len m.code
  have L1 := le4s_length m.js
  have L3 := namesB_len m.lx (fun j hj => by
    have := (namesN_iff m.lx).1 hc7 j hj
    unfold nameN at this
    simp only [Bool.and_eq_true, decide_eq_true_eq] at this
    have := this.2.1
    omega) m.lx.length (Nat.le_refl _)
  rw [List.take_length] at L3
  unfold roomN at hc5
  have hr : (rawI m).length = 64 + ((encode m.code).length + ((le4s m.js).length + (m.data.length + (namesB m.lx).length))) := by
    have h1 : (headI m).length = 16 := by unfold headI; rw [List.length_append, le4s_length]; rfl
    have h2 := flatS_length (spansL 64 ((partsI m).map List.length))
    rw [spansL_length, List.length_map] at h2
    have h3 : (partsI m).length = 4 := rfl
    have h4 : ((partsI m).flatMap id).length = (encode m.code).length + ((le4s m.js).length + (m.data.length + (namesB m.lx).length)) := by
      unfold partsI; simp
    unfold flatS at h2
    rw [rawI, List.length_append, List.length_append, List.length_append, h1, h2, h3, h4, le4s_length]
    simp only [List.length_cons, List.length_nil]
    omega
  have h5 : (imgB m).length = (rawI m).length := by
    unfold imgB sealedN
    rw [withN_length (by rw [withN_length (by omega)]; omega), withN_length (by omega)]
  omega
theorem small_of_check {m : Img} (hm : checkI m = 0) : Small m := by
  obtain ⟨hc1, hc2, hc3, hc4, hc5, hc6, hc7⟩ := checkI_ok hm
  unfold roomN at hc5
  exact ⟨hc1, hc3, by omega, hc6⟩
theorem cells28 {w : World} {g : Nat} {a b c d e f : Value} (h : w.heap[g]? = some (.cells #[a, b, c, d, e, f] 28 (0, 0))) : w.cell? ⟨g, 0, none⟩ = some a ∧ w.cell? ⟨g, 1, none⟩ = some b ∧ w.cell? ⟨g, 2, none⟩ = some c ∧ w.cell? ⟨g, 3, none⟩ = some d ∧ w.cell? ⟨g, 4, none⟩ = some e ∧ w.cell? ⟨g, 5, none⟩ = some f :=
  ⟨by simp [World.cell?, h], by simp [World.cell?, h], by simp [World.cell?, h], by simp [World.cell?, h], by simp [World.cell?, h], by simp [World.cell?, h]⟩
theorem own_downT {w : World} {B B' e sz n : Nat} {v : Value} {xs : List Value} (h : w.ownsRow B' e sz v n xs) (hb : B ≤ B') : w.ownsRow B e sz v n xs := own_from (own_base h) (fun g e => Nat.le_trans hb (h.lt g e).1)
theorem own_setRow {w : World} {B e sz n g : Nat} {v : Value} {xs : List Value} {cs : Array Value} (h : w.ownsRow B e sz v n xs) (hg : g < B) : (w.setRow g cs).ownsRow B e sz v n xs := by
  obtain ⟨hl, h⟩ := h
  rcases h with h | ⟨g', cap, cur, hv, hb, hh, rest⟩
  · exact ⟨hl, .inl h⟩
  · exact ⟨hl, .inr ⟨g', cap, cur, hv, hb, (setRow_other _ _ _ _ (by omega)).trans hh, rest⟩⟩
set_option maxRecDepth 100000 in
set_option maxHeartbeats 2000000 in
theorem takeV_any (vc vj vd vn : Value) (m : Img) (w : World) (h : ImgAt w vc vj vd vn m) :
    Calls Tryz.prog 18 #[.agg #[vc, vj, vd, .int .u32 m.zero, .int .u32 m.stack, vn]] w (TakePost m w) := by
  have H := Lib.hid h
  have hb0 := Bel.new w (.cells #[vc, vj, vd, .int .u32 m.zero, .int .u32 m.stack, vn] 28)
  have HC := Lib.hid (cells_new6 w vc vj vd (.int .u32 m.zero) (.int .u32 m.stack) vn 28)
  have HH := Lib.hid (heap_alloc_new w (.cells #[vc, vj, vd, .int .u32 m.zero, .int .u32 m.stack, vn] 28))
  obtain ⟨W0, hW0⟩ : ∃ W0, W0 = w.alloc (.cells #[vc, vj, vd, .int .u32 m.zero, .int .u32 m.stack, vn] 28) := ⟨_, rfl⟩
  have HK := Lib.hid (imgCheck_any vc vj vd vn m W0 (by rw [hW0]; exact h.below hb0))
  obtain ⟨ac, cc, rfl, -⟩ := h.c.1
  obtain ⟨aj, cj, rfl, -⟩ := h.j.1
  obtain ⟨ad, cd, rfl, -⟩ := h.d.1
  obtain ⟨an, cn, rfl, -⟩ := h.n.1
  clear h
  go_enter Tryz.func18, Tryz.ntmps18
  go_wp2_with fail
  rw [← hW0]
  refine HK.out.mono ?_
  rintro e w1 ⟨rfl, hb1⟩
  have hs0 : w.heap.size < W0.heap.size := by rw [hW0]; simp
  have HB1 := Lib.hid (Bel.tr (by rw [hW0]; exact hb0) hb1 : Below w.heap.size w w1)
  by_cases hm : checkI m = 0
  · rw [hm]
    have hh1 : w1.heap[w.heap.size]? = some (.cells #[.slice ac m.code.length cc, .slice aj m.js.length cj, .slice ad m.data.length cd, .int .u32 m.zero, .int .u32 m.stack, .slice an m.lx.length cn] 28) := by
      rw [hb1.block w.heap.size hs0, hW0]; exact HH.out
    have hs1 : w.heap.size < w1.heap.size := Nat.lt_of_lt_of_le hs0 hb1.size
    have HCP := Lib.hid (copied_any _ _ _ _ m (small_of_check hm) w1 (H.out.below HB1.out))
    have HH1 := Lib.hid hh1
    have c0 : w1.cell? ⟨w.heap.size, 0, none⟩ = some (.slice ac m.code.length cc) := (hb1.cell (p := ⟨w.heap.size, 0, none⟩) hs0).trans (by rw [hW0]; exact HC.out.1)
    have c1 : w1.cell? ⟨w.heap.size, 1, none⟩ = some (.slice aj m.js.length cj) := (hb1.cell (p := ⟨w.heap.size, 1, none⟩) hs0).trans (by rw [hW0]; exact HC.out.2.1)
    have c2 : w1.cell? ⟨w.heap.size, 2, none⟩ = some (.slice ad m.data.length cd) := (hb1.cell (p := ⟨w.heap.size, 2, none⟩) hs0).trans (by rw [hW0]; exact HC.out.2.2.1)
    have c3 : w1.cell? ⟨w.heap.size, 3, none⟩ = some (.int .u32 m.zero) := (hb1.cell (p := ⟨w.heap.size, 3, none⟩) hs0).trans (by rw [hW0]; exact HC.out.2.2.2.1)
    have c4 : w1.cell? ⟨w.heap.size, 4, none⟩ = some (.int .u32 m.stack) := (hb1.cell (p := ⟨w.heap.size, 4, none⟩) hs0).trans (by rw [hW0]; exact HC.out.2.2.2.2.1)
    have c5 : w1.cell? ⟨w.heap.size, 5, none⟩ = some (.slice an m.lx.length cn) := (hb1.cell (p := ⟨w.heap.size, 5, none⟩) hs0).trans (by rw [hW0]; exact HC.out.2.2.2.2.2)
    clear hW0 hb0 HC HK hh1 hb1 HH
    go_wp2_with fail
    refine HCP.out.mono ?_
    rintro e w2 ⟨uc, uj, ud, un, rfl, hio, hb2⟩
    have I1 := H.out.below HB1.out
    have HA := Lib.hid (hio.at (H.out))
    obtain ⟨a1, n1, rfl, -⟩ := own_sl hio.c
    obtain ⟨a2, n2, rfl, -⟩ := own_sl hio.j
    obtain ⟨a3, n3, rfl, -⟩ := own_sl hio.d
    obtain ⟨a4, n4, rfl, -⟩ := own_sl hio.n
    have HIO := Lib.hid hio
    have HH2 := Lib.hid (show w2.heap[w.heap.size]? = some (.cells #[.slice ac m.code.length cc, .slice aj m.js.length cj, .slice ad m.data.length cd, .int .u32 m.zero, .int .u32 m.stack, .slice an m.lx.length cn] 28) from (hb2.block w.heap.size hs1).trans HH1.out)
    have HB2 := Lib.hid hb2
    clear hio hb2 HH1 c0 c1 c2 c3 c4 c5 HCP I1
    obtain ⟨W3, hW3⟩ : ∃ W3, W3 = w2.setRow w.heap.size #[.slice a1 m.code.length n1, .slice a2 m.js.length n2, .slice a3 m.data.length n3, .int .u32 m.zero, .int .u32 m.stack, .slice a4 m.lx.length n4] := ⟨_, rfl⟩
    have HH3 := Lib.hid (setRow_heap _ _ _ #[.slice a1 m.code.length n1, .slice a2 m.js.length n2, .slice a3 m.data.length n3, .int .u32 m.zero, .int .u32 m.stack, .slice a4 m.lx.length n4] _ _ HH2.out)
    obtain ⟨r0, r1, r2, r3, r4, r5⟩ := cells28 HH3.out
    have HIO3 : Hid (ImgOwn W3 (w.heap.size + 1) (.slice a1 m.code.length n1) (.slice a2 m.js.length n2) (.slice a3 m.data.length n3) (.slice a4 m.lx.length n4) m) := Lib.hid (by
      rw [hW3]
      have hB : w.heap.size + 1 ≤ w1.heap.size := hs1
      exact ⟨own_setRow (own_downT HIO.out.c hB) (by omega), own_setRow (own_downT HIO.out.j hB) (by omega), own_setRow (own_downT HIO.out.d hB) (by omega), own_setRow (own_downT HIO.out.n hB) (by omega)⟩)
    have HA3 := Lib.hid (HIO3.out.at H.out)
    have HB3 : Hid (Below w.heap.size w W3) := Lib.hid (by rw [hW3]; exact below_setRow (Bel.tr HB1.out HB2.out) _ (Nat.le_refl _) _)
    have hs3 : w.heap.size < W3.heap.size := by
      have h1 := HB2.out.size
      have h2 : W3.heap.size = w2.heap.size := by rw [hW3]; simp [World.setRow]
      omega
    have HF := Lib.hid (find_any _ _ _ m.code m.js (m.lx.map (·.2)) HA3.out.c HA3.out.j.rowu HA3.out.n.names)
    have HH2' := HH2
    clear HIO HA HH2
    go_wp2_with (((with_reducible refine wpList_store_row (o := ⟨none, .store 28 (.tmp 1) (.tmp 20), _, _, _, none⟩) rfl 28 _ _ rfl w.heap.size #[.slice a1 m.code.length n1, .slice a2 m.js.length n2, .slice a3 m.data.length n3, .int .u32 m.zero, .int .u32 m.stack, .slice a4 m.lx.length n4] ?_ ?_ 28 _ HH2'.out ?_ ?_ ?_ ?_); rfl; rfl; exact info28; rfl; (simp [Value.oneCell'])))
    rw [← hW3]
    rw [← hW3] at r0 r1 r2 r3 r4 r5 HH3
    clear hW3
    refine HF.out.mono ?_
    rintro e w4 ⟨hb4, ⟨i, c, rfl, hbad⟩ | ⟨b, B, rfl, hfo, hB1, hB2, hfd⟩⟩
    · have hcn : ((c : Nat) : Int) ≠ 0 := by have := findBad_pos hbad; omega
      have HB4 := Lib.hid (Bel.tr HB3.out hb4)
      clear hb4
      go_wp2_with fail
      go_ret3
      exact ⟨HB4.out, .inl ⟨i, c, rfl, .inr (.inl ⟨hm, hbad⟩)⟩⟩
    · have s0 := (hb4.cell (p := ⟨w.heap.size, 0, none⟩) hs3).trans r0
      have s1 := (hb4.cell (p := ⟨w.heap.size, 1, none⟩) hs3).trans r1
      have s2 := (hb4.cell (p := ⟨w.heap.size, 2, none⟩) hs3).trans r2
      have s3 := (hb4.cell (p := ⟨w.heap.size, 3, none⟩) hs3).trans r3
      have s4 := (hb4.cell (p := ⟨w.heap.size, 4, none⟩) hs3).trans r4
      have s5 := (hb4.cell (p := ⟨w.heap.size, 5, none⟩) hs3).trans r5
      have hs4 : w.heap.size < w4.heap.size := Nat.lt_of_lt_of_le hs3 hb4.size
      have HB4 := Lib.hid hb4
      have HA4 := Lib.hid (HA3.out.below hb4)
      have hsm := small_of_check hm
      have HD := Lib.hid (flow_any _ _ m.code m.js ⟨hfo.he, hfo.h3, hfo.hall, hfo.hg, fun j hj => absurd hj (Nat.not_lt_zero _)⟩ hsm.c hsm.j HA4.out.c HA4.out.j)
      have HFD := Lib.hid hfd
      have HFO := Lib.hid hfo
      obtain ⟨R, hR⟩ : ∃ R, R = flowN m.code m.js := ⟨_, rfl⟩
      rw [← hR] at HD
      have HR := Lib.hid hR
      clear r0 r1 r2 r3 r4 r5 HF HH3 hb4 hfd hfo hR hsm
      go_wp2_with fail
      refine HD.out.mono ?_
      rintro e w5 ⟨hb5, ⟨hbad, rfl⟩ | ⟨hgood, vd, vm, rfl, od, om⟩⟩
      · have hcn : ((R.2.2.2 : Nat) : Int) ≠ 0 := by omega
        have HB5 := Lib.hid (Bel.tr (Bel.tr HB3.out HB4.out) hb5)
        clear hb5
        go_wp2_with fail
        go_ret3
        exact ⟨HB5.out, .inl ⟨_, _, rfl, .inr (.inr ⟨hm, HFO.out, by rw [← HR.out]; exact hbad, by rw [HR.out], by rw [HR.out]⟩)⟩⟩
      · have k0 := (hb5.cell (p := ⟨w.heap.size, 0, none⟩) hs4).trans s0
        have k1 := (hb5.cell (p := ⟨w.heap.size, 1, none⟩) hs4).trans s1
        have k2 := (hb5.cell (p := ⟨w.heap.size, 2, none⟩) hs4).trans s2
        have k3 := (hb5.cell (p := ⟨w.heap.size, 3, none⟩) hs4).trans s3
        have k4 := (hb5.cell (p := ⟨w.heap.size, 4, none⟩) hs4).trans s4
        have k5 := (hb5.cell (p := ⟨w.heap.size, 5, none⟩) hs4).trans s5
        have hs5 : w.heap.size < w5.heap.size := Nat.lt_of_lt_of_le hs4 hb5.size
        have HB5 := Lib.hid hb5
        have HA5 := Lib.hid (HA4.out.below hb5)
        obtain ⟨xd, yd, rfl, -⟩ := own_sl od
        obtain ⟨xm, ym, rfl, -⟩ := own_sl om
        have HOD := Lib.hid od
        have HOM := Lib.hid om
        have hb229 := run_b229
        have hb231 := run_b231
        have hb233 := run_b233
        clear s0 s1 s2 s3 s4 s5 hb5 od om HD
        obtain ⟨Wa, hWa⟩ : ∃ Wa, Wa = w5.alloc (.cells #[.pointer (some ⟨b, 0, none⟩), .slice xm R.2.1.length ym, .slice a1 m.code.length n1, .slice xd R.1.length yd, .slice a1 m.code.length n1, .slice a2 m.js.length n2, .slice a3 m.data.length n3, .int .u32 m.zero, .int .u32 m.stack, .slice a4 m.lx.length n4, .int .i64 0, .int .u64 0] 100) := ⟨_, rfl⟩
        have hha : Wa.heap[w5.heap.size]? = some (.cells #[.pointer (some ⟨b, 0, none⟩), .slice xm R.2.1.length ym, .slice a1 m.code.length n1, .slice xd R.1.length yd, .slice a1 m.code.length n1, .slice a2 m.js.length n2, .slice a3 m.data.length n3, .int .u32 m.zero, .int .u32 m.stack, .slice a4 m.lx.length n4, .int .i64 0, .int .u64 0] 100) := by rw [hWa]; exact heap_alloc_new w5 _
        have hsa : w5.heap.size < Wa.heap.size := by rw [hWa]; simp
        have hba : Below w5.heap.size w5 Wa := by rw [hWa]; exact Bel.new w5 _
        have HHa := Lib.hid hha
        have HBa := Lib.hid hba
        have HBi := Lib.hid (bits_any _ _ _ _ m hm (checkI_ok hm).2.2.2.2.1 Wa (HA5.out.below hba))
        clear hha hba
        go_wp2_with fail
        rw [← hWa]
        clear hWa
        refine HBi.out.mono ?_
        rintro e w6 ⟨rfl, hb6⟩
        obtain ⟨tb, htb⟩ : ∃ tb, tb = w5.heap.size := ⟨_, rfl⟩
        have hh6 := (hb6.block w5.heap.size hsa).trans HHa.out
        have hb56 := Bel.tr HBa.out hb6
        have hs6 : tb < w6.heap.size := by rw [htb]; exact Nat.lt_of_lt_of_le hsa hb6.size
        rw [← htb] at hh6
        have Htb := Lib.hid htb
        rw [← htb]
        have q10 := cell_of_row w6 tb 10 _ _ _ hh6
        have f10 := frozen_of_row w6 tb 10 _ _ hh6
        obtain ⟨W6, hW6⟩ : ∃ W6, W6 = w6.setCell ⟨tb, 10, none⟩ (.int .i64 (bitsI m)) := ⟨_, rfl⟩
        have hB6 : Below w5.heap.size w5 W6 := by rw [hW6]; exact hb56.setCell (p := ⟨tb, 10, none⟩) (by show w5.heap.size ≤ tb; omega) _
        have hh7 := heap_setCell_same _ _ 10 _ _ (.int .i64 (bitsI m)) hh6
        rw [← hW6] at hh7
        have HH7 := Lib.hid hh7
        have l0 : (w6.setCell ⟨tb, 10, none⟩ (.int .i64 (bitsI m))).cell? ⟨w.heap.size, 0, none⟩ = _ := (by rw [← hW6]; exact hB6.cell (p := ⟨w.heap.size, 0, none⟩) hs5 : _ = w5.cell? ⟨w.heap.size, 0, none⟩).trans k0
        have l1 : (w6.setCell ⟨tb, 10, none⟩ (.int .i64 (bitsI m))).cell? ⟨w.heap.size, 1, none⟩ = _ := (by rw [← hW6]; exact hB6.cell (p := ⟨w.heap.size, 1, none⟩) hs5 : _ = w5.cell? ⟨w.heap.size, 1, none⟩).trans k1
        have l2 : (w6.setCell ⟨tb, 10, none⟩ (.int .i64 (bitsI m))).cell? ⟨w.heap.size, 2, none⟩ = _ := (by rw [← hW6]; exact hB6.cell (p := ⟨w.heap.size, 2, none⟩) hs5 : _ = w5.cell? ⟨w.heap.size, 2, none⟩).trans k2
        have l3 : (w6.setCell ⟨tb, 10, none⟩ (.int .i64 (bitsI m))).cell? ⟨w.heap.size, 3, none⟩ = _ := (by rw [← hW6]; exact hB6.cell (p := ⟨w.heap.size, 3, none⟩) hs5 : _ = w5.cell? ⟨w.heap.size, 3, none⟩).trans k3
        have l4 : (w6.setCell ⟨tb, 10, none⟩ (.int .i64 (bitsI m))).cell? ⟨w.heap.size, 4, none⟩ = _ := (by rw [← hW6]; exact hB6.cell (p := ⟨w.heap.size, 4, none⟩) hs5 : _ = w5.cell? ⟨w.heap.size, 4, none⟩).trans k4
        have l5 : (w6.setCell ⟨tb, 10, none⟩ (.int .i64 (bitsI m))).cell? ⟨w.heap.size, 5, none⟩ = _ := (by rw [← hW6]; exact hB6.cell (p := ⟨w.heap.size, 5, none⟩) hs5 : _ = w5.cell? ⟨w.heap.size, 5, none⟩).trans k5
        have HB6 := Lib.hid hB6
        have HEn := Lib.hid (imgEncode_any _ _ _ _ m hm W6 (HA5.out.below hB6))
        have hst6 : tb < W6.heap.size := by
          have := World.block_lt_of_cell? W6 ⟨tb, 0, none⟩ (cell_of_row W6 tb 0 _ _ _ hh7)
          exact this
        have hlt := Lib.hid (rawI_lt' (m := m) HA5.out.c.2 HA5.out.d.2)
        clear htb hh6 hb56 hB6 hh7 k0 k1 k2 k3 k4 k5 hb6 HBi HHa
        go_wp2_with fail
        rw [← hW6]
        clear hW6 l0 l1 l2 l3 l4 l5 q10 f10
        refine HEn.out.mono ?_
        rintro e w7 ⟨ub, rfl, ob, hb7⟩
        have hh7 := (hb7.block tb hst6).trans HH7.out
        have HB7 := Lib.hid (Bel.tr HB6.out hb7)
        have HSm := Lib.hid (sum_bytes _ (imgB m) w7 (own_bytes ob hlt.out))
        obtain ⟨xb, yb, rfl, -⟩ := own_sl ob
        have q11 := cell_of_row w7 tb 11 _ _ _ hh7
        have f11 := frozen_of_row w7 tb 11 _ _ hh7
        have Hh7 := Lib.hid hh7
        clear hb7 ob hh7 HEn HH7
        go_wp2_with fail
        refine HSm.out.mono ?_
        rintro e w8 ⟨rfl, rfl⟩
        have hsl := sumN_lt (imgB m)
        have hil := imgB_length_le m hm
        have Hdg := Lib.hid (show digN m = sumN (imgB m) * 4294967296 + (imgB m).length from rfl)
        have hb303 := run_b303
        have hu1 : IntKind.u64.wrap ((sumN (imgB m) : Nat) : Int) = ((sumN (imgB m) : Nat) : Int) := by rw [IntKind.wrap_u64]; omega
        have hu2 : IntKind.u64.wrap (((imgB m).length : Nat) : Int) = (((imgB m).length : Nat) : Int) := by rw [IntKind.wrap_u64]; omega
        have hu3 : IntKind.u64.wrap (((sumN (imgB m) : Nat) : Int) * 4294967296) = ((sumN (imgB m) : Nat) : Int) * 4294967296 := by rw [IntKind.wrap_u64]; omega
        have hu4 : IntKind.u64.wrap (((sumN (imgB m) : Nat) : Int) * 4294967296 + (((imgB m).length : Nat) : Int)) = ((digN m : Nat) : Int) := by rw [IntKind.wrap_u64, Hdg.out]; omega
        generalize sumN (imgB m) = sm at *
        generalize (imgB m).length = il at *
        clear HSm
        go_wp2_with fail
        go_ret3
        have hb9 : Below w5.heap.size w5 ((w7.setCell ⟨tb, 11, none⟩ (.int .u64 (digN m))).alloc (.cells #[.pointer (some ⟨tb, 0, none⟩)] 107)) := Bel.al (HB7.out.setCell (p := ⟨tb, 11, none⟩) (by show w5.heap.size ≤ tb; rw [Htb.out]; exact Nat.le_refl _) _) _
        have h8 := heap_setCell_same _ _ 11 _ _ (.int .u64 (digN m)) Hh7.out
        have ht8 : tb < (w7.setCell ⟨tb, 11, none⟩ (.int .u64 (digN m))).heap.size := World.block_lt_of_cell? _ ⟨tb, 0, none⟩ (cell_of_row _ tb 0 _ _ _ h8)
        have h9 := (Below.heap_alloc (w7.setCell ⟨tb, 11, none⟩ (.int .u64 (digN m))) (.cells #[.pointer (some ⟨tb, 0, none⟩)] 107) tb ht8).trans h8
        have hwt : w.heap.size ≤ tb := by rw [Htb.out]; omega
        have hw7 : w.heap.size ≤ w7.heap.size := by have := HB7.out.size; omega
        have hio9 := HIO3.out.below (Bel.tr (Bel.tr HB4.out HB5.out) hb9)
        refine ⟨Bel.tr (Bel.tr (Bel.tr HB3.out HB4.out) HB5.out) hb9, .inr ⟨w7.heap.size, rfl, ⟨hm, HFO.out, by rw [← HR.out]; omega⟩, hw7, tb, b, .slice xm R.2.1.length ym, .slice a1 m.code.length n1, .slice xd R.1.length yd, .slice a2 m.js.length n2, .slice a3 m.data.length n3, .slice a4 m.lx.length n4, cell1_new _ _ _ (by simp), hwt, ?_, ?_, ?_, ?_, ?_⟩⟩
        · exact ⟨cell_of_row _ tb 0 _ _ _ h9, cell_of_row _ tb 1 _ _ _ h9, cell_of_row _ tb 2 _ _ _ h9, cell_of_row _ tb 3 _ _ _ h9, cell_of_row _ tb 4 _ _ _ h9, cell_of_row _ tb 5 _ _ _ h9, cell_of_row _ tb 6 _ _ _ h9, cell_of_row _ tb 7 _ _ _ h9, cell_of_row _ tb 8 _ _ _ h9, cell_of_row _ tb 9 _ _ _ h9, cell_of_row _ tb 10 _ _ _ h9, cell_of_row _ tb 11 _ _ _ h9⟩
        · exact ⟨own_downT hio9.c (by omega), own_downT hio9.j (by omega), own_downT hio9.d (by omega), own_downT hio9.n (by omega)⟩
        · obtain ⟨vp, vo, vt, us, tag, hA⟩ := HFD.out
          exact ⟨B, by omega, FoundAt.below ⟨vp, vo, vt, us, hA.at_⟩ (Bel.tr HB5.out hb9)⟩
        · rw [← HR.out]; exact own_below (own_downT HOD.out (by omega)) hb9
        · rw [← HR.out]; exact own_below (own_downT HOM.out (by omega)) hb9
  · have hne : ((checkI m : Nat) : Int) ≠ 0 := by omega
    go_wp2_with fail
    go_ret3
    exact ⟨HB1.out, .inl ⟨0, _, rfl, .inl ⟨hm, rfl, rfl⟩⟩⟩
open Go.ChangeShapes Go.WideShapes Go.ChangeAt Go.RowKit Go.Joins Go.Deep
section
variable {H : Type} {enc : TypeId × Value → H} {P : Program} {w : World} {base : Nat} {spare : Nat → Bool} {held : Bool}
theorem open_slice_fields {t e : TypeId} {fs : Array Field} {fuel : Nat} {cs : List Value} {x : DataW H × List MemPlace} (ht : P.underlying t = some (.slice e)) (he : P.underlying e = some (.struct fs))
    (hone : oneCellFields P fs = true) (hC : P.cellsOf e = fs.size) (h : DataW.trod enc P w base spare held fuel t cs = some x) :
    (cs = [.slice none 0 0] ∧ x = (.nil, [])) ∨
    ∃ (a : Addr) (len cap m : Nat) (D : Nat → DataW H) (Pl : Nat → List MemPlace), cs = [.slice (some a) len cap] ∧ base ≤ a.block ∧ len ≤ cap ∧ cap ≤ maxLen ∧ m = (if spare a.block then cap else len) ∧
      x = (.slice ((List.range len).map D) ((List.range (m - len)).map fun j => D (len + j)), MemPlace.row a (m * fs.size) ++ (List.range m).flatMap Pl) ∧
      ∀ i, i < m → ∃ (ys : List (DataW H × List MemPlace)) (n : Nat), D i = .agg (ys.map (·.1)) ∧ Pl i = ys.flatMap (·.2) ∧ ys.length = fs.size ∧
        ∀ (j : Nat) (f : Field), fs[j]? = some f → ∃ (v : Value) (y : DataW H × List MemPlace), w.cell? (a.add (i * fs.size + j)) = some v ∧ ys[j]? = some y ∧ DataW.trod enc P w base spare held n f.type [v] = some y := by
  rcases open_slice ht h with h0 | ⟨a, len, cap, m, n, D, Pl, hcs, hb, hl, hm, hmm, hx, hi⟩
  · exact .inl h0
  · refine .inr ⟨a, len, cap, m, D, Pl, hcs, hb, hl, hm, hmm, by rw [hC] at hx; exact hx, fun i him => ?_⟩
    obtain ⟨cs', hc, ht'⟩ := hi i him
    rw [hC] at hc
    obtain ⟨ys, n', hn', hy, hlen, hyl, hf⟩ := DataW.trod_struct he ht'
    obtain ⟨_, hcl, hat⟩ := World.cells?_some hc
    simp only [Prod.mk.injEq] at hy
    refine ⟨ys, n', hy.1, hy.2, hyl, fun j f hj => ?_⟩
    obtain ⟨ho, hk⟩ := hone_of hone j f hj
    have hjl : j < fs.size := (Array.getElem?_eq_some_iff.1 hj).1
    have hcell := hat j hjl
    have hv : cs'[j]? = some (cs'[j]'(by omega)) := List.getElem?_eq_getElem (by omega)
    have h1 := hf j f hj
    rw [ho, hk] at h1
    have hone' : (cs'.drop j).take 1 = [cs'[j]'(by omega)] := by
      rw [List.drop_eq_getElem_cons (by omega)]
      rfl
    rw [hone'] at h1
    have hys : ys[j]? = some (ys[j]'(by omega)) := List.getElem?_eq_getElem (by omega)
    refine ⟨_, _, ?_, hys, h1.trans hys⟩
    rw [← Go.Deep.add_add, hcell, hv]
end
theorem choose_list {α : Type} [Inhabited α] (n : Nat) (R : Nat → α → Prop) (h : ∀ i, i < n → ∃ x, R i x) : ∃ l : List α, l.length = n ∧ ∀ i (hi : i < l.length), R i l[i] := by
  classical
  refine ⟨(List.range n).map fun i => if hi : i < n then (h i hi).choose else default, by simp, fun i hi => ?_⟩
  have hi' : i < n := by simpa using hi
  rw [List.getElem_map, List.getElem_range, dif_pos hi']
  exact (h i hi').choose_spec
theorem encI_get (l : List (Nat × Nat)) (R : Nat → Value → Prop) (h0 : ∀ i (hi : i < l.length), R (i * 2) (.int .u8 (l[i].1 : Nat))) (h1 : ∀ i (hi : i < l.length), R (i * 2 + 1) (.int .u32 (l[i].2 : Nat))) :
    ∀ j, j < (encI l).length → ∃ u, (encI l)[j]? = some u ∧ R j u := by
  intro j hj
  rw [encI_length] at hj
  rcases Nat.mod_two_eq_zero_or_one j with e | e
  · obtain ⟨k, rfl⟩ : ∃ k, j = k * 2 := ⟨j / 2, by omega⟩
    have hk : k < l.length := by omega
    refine ⟨_, encI_op l k hk, ?_⟩
    have := h0 k hk
    rwa [List.getD_eq_getElem?_getD, List.getElem?_eq_getElem hk]
  · obtain ⟨k, rfl⟩ : ∃ k, j = k * 2 + 1 := ⟨j / 2, by omega⟩
    have hk : k < l.length := by omega
    refine ⟨_, encI_arg l k hk, ?_⟩
    have := h1 k hk
    rwa [List.getD_eq_getElem?_getD, List.getElem?_eq_getElem hk]
theorem cells40 : Tryz.prog.cellsOf 62 = 2 := by kernel_rfl
theorem cells33 : Tryz.prog.cellsOf 25 = 1 := by kernel_rfl
theorem cells5 : Tryz.prog.cellsOf 5 = 1 := by kernel_rfl
theorem cells52 : Tryz.prog.cellsOf 136 = 2 := by kernel_rfl
theorem ocells28 : Tryz.prog.cellsOf 28 = 6 := by kernel_rfl
theorem getD_get {α : Type} (l : List α) (d : α) {k : Nat} (hk : k < l.length) : l.getD k d = l[k] := by
  rw [List.getD_eq_getElem?_getD, List.getElem?_eq_getElem hk]; rfl
theorem getD_lt {l : List Nat} {m : Nat} (h : ∀ i (hi : i < l.length), l[i] < m) (h0 : 0 < m) (k : Nat) : l.getD k 0 < m := by
  by_cases hk : k < l.length
  · rw [getD_get l 0 hk]; exact h k hk
  · rw [List.getD_eq_getElem?_getD, List.getElem?_eq_none (by omega)]; exact h0
section
variable {H : Type} {enc : TypeId × Value → H} {w : World} {base : Nat}
theorem open_instrs2 {n : Nat} {v : Value} {x : DataW H × List MemPlace} (hf : DataW.trod enc Tryz.prog w base (fun _ => true) true n 22 [v] = some x) (hz : ∀ els sp, x.1 = .slice els sp → (els.length + sp.length) * 8 ≤ 140737488351232) : ∃ l : List (Nat × Nat), Instrs w v l ∧ l.length * 8 ≤ 140737488351232 := by
  rcases open_slice_fields Tryz.underlying22 Tryz.underlying62 (by kernel_rfl) cells40 hf with ⟨hcs, _⟩ | ⟨a, len0, cap0, m, D, Pl, hcs, _, hl, hm, hmm, hx, hi⟩
  · simp at hcs
    subst hcs
    exact ⟨[], ⟨Reads.nil w 2, fun i hi => by cases hi⟩, by simp⟩
  · simp at hcs
    subst hcs
    rw [if_pos rfl] at hmm
    subst hmm
    have key : ∀ i, i < len0 → ∃ q : Nat × Nat, (w.cell? (a.add (i * 2)) = some (.int .u8 (q.1 : Nat)) ∧ w.cell? (a.add (i * 2 + 1)) = some (.int .u32 (q.2 : Nat))) ∧ q.1 < 256 ∧ q.2 < 4294967296 := by
      intro i hil
      obtain ⟨ys, n, _, _, _, hfs⟩ := hi i (by omega)
      obtain ⟨v0, y0, hc0, _, t0⟩ := hfs 0 _ rfl
      obtain ⟨v1, y1, hc1, _, t1⟩ := hfs 1 _ rfl
      obtain ⟨x, e0, _, w0⟩ := DataW.trod_int Tryz.underlying60 t0
      obtain ⟨y, e1, _, w1⟩ := DataW.trod_int Tryz.underlying25 t1
      simp at e0 e1
      subst e0 e1
      obtain ⟨o, rfl, ho⟩ := u8_of w0
      obtain ⟨z, rfl, hz⟩ := u32_of w1
      exact ⟨(o, z), ⟨hc0, hc1⟩, ho, hz⟩
    obtain ⟨l, hll, hl2⟩ := choose_list len0 _ key
    have hzz := hz _ _ (by rw [hx])
    simp only [List.length_map, List.length_range] at hzz
    refine ⟨l, ⟨⟨some a, m, by rw [hll], encI_length l, by omega, hm, (fun h => by cases h), fun h0 => ?_⟩, fun i hi => ?_⟩, by rw [hll]; omega⟩
    · obtain ⟨b, off, spot⟩ := a
      have hc := (hl2 0 h0).1.1
      have hspot : spot = none := by simpa [Addr.add] using World.cell?_spot hc
      subst hspot
      refine ⟨b, off, rfl, by simpa [Addr.add] using World.block_lt_of_cell? w _ hc, fun j hj => ?_⟩
      obtain ⟨u, e, hR⟩ := encI_get l (fun j u => w.cell? ((⟨b, off, none⟩ : Addr).add j) = some u) (fun i hi => (hl2 i hi).1.1) (fun i hi => (hl2 i hi).1.2) j hj
      rw [e, ← hR, Addr.add_mid]
    · obtain ⟨k, hk, rfl⟩ := List.mem_iff_getElem.1 hi
      exact (hl2 k hk).2
theorem open_words2 {n : Nat} {v : Value} {x : DataW H × List MemPlace} (hf : DataW.trod enc Tryz.prog w base (fun _ => true) true n 23 [v] = some x) (hz : ∀ els sp, x.1 = .slice els sp → (els.length + sp.length) * 4 ≤ 140737488351232) : ∃ l : List Nat, Words w v l ∧ l.length * 4 ≤ 140737488351232 := by
  rcases open_ints Tryz.underlying23 Tryz.underlying25 cells33 hf with ⟨hcs, _⟩ | ⟨a, len0, cap0, zs, hcs, _, hl, hm, hzl, hx, hcell, hwz⟩
  · simp at hcs
    subst hcs
    exact ⟨[], ⟨Reads.nil w 1, fun k => by simp⟩, by simp⟩
  · simp at hcs
    subst hcs
    rw [if_pos rfl] at hzl
    have key : ∀ i, i < len0 → ∃ q : Nat, w.cell? (a.add i) = some (.int .u32 (q : Nat)) ∧ q < 4294967296 := by
      intro i hil
      have hiz : i < zs.length := by omega
      have hc := hcell i hiz
      rw [List.getD_eq_getElem?_getD, List.getElem?_eq_getElem hiz] at hc
      obtain ⟨o, ho, hlt⟩ := u32_of (hwz _ (List.getElem_mem hiz))
      simp only [Option.getD_some] at hc
      rw [ho] at hc
      exact ⟨o, hc, hlt⟩
    obtain ⟨l, hll, hl2⟩ := choose_list len0 _ key
    have hzz : len0 * 4 ≤ 140737488351232 := by
      have hzz := hz _ _ (by rw [hx])
      have hl1 : (lits (H := H) IntKind.u32 (List.take len0 zs)).length = (List.take len0 zs).length := by simp [lits]
      rw [hl1, List.length_take] at hzz
      omega
    refine ⟨l, ⟨⟨some a, cap0, by rw [hll], by rw [encN_length, Nat.mul_one], by omega, hm, (fun h => by cases h), fun h0 => ?_⟩, getD_lt (fun i hi => (hl2 i hi).2) (by decide)⟩, by rw [hll]; exact hzz⟩
    obtain ⟨b, off, spot⟩ := a
    have hc := (hl2 0 h0).1
    have hspot : spot = none := by simpa [Addr.add] using World.cell?_spot hc
    subst hspot
    refine ⟨b, off, rfl, by simpa [Addr.add] using World.block_lt_of_cell? w _ hc, fun k hk => ?_⟩
    rw [encN_length] at hk
    have hR := (hl2 k hk).1
    rw [Addr.add_mid] at hR
    rw [hR, encN_at _ l k hk, getD_get l 0 hk]
theorem open_names2 {n : Nat} {v : Value} {x : DataW H × List MemPlace} (hf : DataW.trod enc Tryz.prog w base (fun _ => true) true n 26 [v] = some x) (hz : ∀ els sp, x.1 = .slice els sp → (els.length + sp.length) * 24 ≤ 140737488351232) : ∃ l : List (ByteArray × Nat), Texts w v l ∧ l.length * 24 ≤ 140737488351232 := by
  rcases open_slice_fields Tryz.underlying26 Tryz.underlying136 (by kernel_rfl) cells52 hf with ⟨hcs, _⟩ | ⟨a, len0, cap0, m, D, Pl, hcs, _, hl, hm, hmm, hx, hi⟩
  · simp at hcs
    subst hcs
    exact ⟨[], ⟨Reads.nil w 2, fun k => by simp⟩, by simp⟩
  · simp at hcs
    subst hcs
    rw [if_pos rfl] at hmm
    subst hmm
    have key : ∀ i, i < len0 → ∃ q : ByteArray × Nat, (w.cell? (a.add (i * 2)) = some (.string q.1) ∧ w.cell? (a.add (i * 2 + 1)) = some (.int .u32 (q.2 : Nat))) ∧ q.2 < 4294967296 := by
      intro i hil
      obtain ⟨ys, n, _, _, _, hfs⟩ := hi i (by omega)
      obtain ⟨v0, y0, hc0, _, t0⟩ := hfs 0 _ rfl
      obtain ⟨v1, y1, hc1, _, t1⟩ := hfs 1 _ rfl
      obtain ⟨s, e0, _, _⟩ := DataW.trod_string Tryz.underlying9 t0
      obtain ⟨y, e1, _, w1⟩ := DataW.trod_int Tryz.underlying25 t1
      simp at e0 e1
      subst e0 e1
      obtain ⟨z, rfl, hz⟩ := u32_of w1
      exact ⟨(s, z), ⟨hc0, hc1⟩, hz⟩
    obtain ⟨l, hll, hl2⟩ := choose_list len0 _ key
    have hzz := hz _ _ (by rw [hx])
    simp only [List.length_map, List.length_range] at hzz
    refine ⟨l, ⟨⟨some a, m, by rw [hll], encX_length l, by omega, hm, (fun h => by cases h), fun h0 => ?_⟩, getD_lt (fun i hi => ?_) (by decide)⟩, by rw [hll]; omega⟩
    · obtain ⟨b, off, spot⟩ := a
      have hc := (hl2 0 h0).1.1
      have hspot : spot = none := by simpa [Addr.add] using World.cell?_spot hc
      subst hspot
      refine ⟨b, off, rfl, by simpa [Addr.add] using World.block_lt_of_cell? w _ hc, fun j hj => ?_⟩
      rw [encX_length] at hj
      obtain ⟨k, hk⟩ : ∃ k, k = j / 2 := ⟨_, rfl⟩
      have hkl : k < l.length := by omega
      obtain ⟨e1, e2⟩ := encX_at l k hkl
      obtain ⟨⟨h1, h2⟩, -⟩ := hl2 k hkl
      rw [Addr.add_mid] at h1 h2
      rw [getD_get l _ hkl] at e1 e2
      rcases Nat.mod_two_eq_zero_or_one j with e | e
      · obtain rfl : j = k * 2 := by omega
        rw [h1, e1]
      · obtain rfl : j = k * 2 + 1 := by omega
        rw [h2, e2]
    · rw [List.length_map] at hi
      rw [List.getElem_map]
      exact (hl2 i hi).2
theorem open_bytes2 {n : Nat} {v : Value} {x : DataW H × List MemPlace} (hf : DataW.trod enc Tryz.prog w base (fun _ => true) true n 24 [v] = some x) (hz : ∀ els sp, x.1 = .slice els sp → (els.length + sp.length) * 1 ≤ 140737488351232) : ∃ l : List Nat, Bytes w v l ∧ l.length * 1 ≤ 140737488351232 := by
  rcases open_ints Tryz.underlying24 Tryz.underlying5 cells5 hf with ⟨hcs, _⟩ | ⟨a, len0, cap0, zs, hcs, _, hl, hm, hzl, hx, hcell, hwz⟩
  · simp at hcs
    subst hcs
    exact ⟨[], ⟨Reads.nil w 1, fun k => by simp⟩, by simp⟩
  · simp at hcs
    subst hcs
    rw [if_pos rfl] at hzl
    have key : ∀ i, i < len0 → ∃ q : Nat, w.cell? (a.add i) = some (.int .u8 (q : Nat)) ∧ q < 256 := by
      intro i hil
      have hiz : i < zs.length := by omega
      have hc := hcell i hiz
      rw [List.getD_eq_getElem?_getD, List.getElem?_eq_getElem hiz] at hc
      obtain ⟨o, ho, hlt⟩ := u8_of (hwz _ (List.getElem_mem hiz))
      simp only [Option.getD_some] at hc
      rw [ho] at hc
      exact ⟨o, hc, hlt⟩
    obtain ⟨l, hll, hl2⟩ := choose_list len0 _ key
    have hzz : len0 * 1 ≤ 140737488351232 := by
      have hzz := hz _ _ (by rw [hx])
      have hl1 : (lits (H := H) IntKind.u8 (List.take len0 zs)).length = (List.take len0 zs).length := by simp [lits]
      rw [hl1, List.length_take] at hzz
      omega
    refine ⟨l, ⟨⟨some a, cap0, by rw [hll], by rw [encN_length, Nat.mul_one], by omega, hm, (fun h => by cases h), fun h0 => ?_⟩, fun i hi => by
      obtain ⟨k, hk, rfl⟩ := List.mem_iff_getElem.1 hi
      exact (hl2 k hk).2⟩, by rw [hll]; exact hzz⟩
    obtain ⟨b, off, spot⟩ := a
    have hc := (hl2 0 h0).1
    have hspot : spot = none := by simpa [Addr.add] using World.cell?_spot hc
    subst hspot
    refine ⟨b, off, rfl, by simpa [Addr.add] using World.block_lt_of_cell? w _ hc, fun k hk => ?_⟩
    rw [encN_length] at hk
    have hR := (hl2 k hk).1
    rw [Addr.add_mid] at hR
    rw [hR, encN_at _ l k hk, getD_get l 0 hk]
end
section
variable {H : Type} {enc : TypeId × Value → H} {P : Program} {w : World} {base : Nat} {spare : Nat → Bool} {held : Bool}
theorem open_aggN {r : Reach} {b0 : Nat} {t : TypeId} {fs : Array Field} {v : Value} {d : DataW H} {p : List MemPlace} (hs : P.underlying t = some (.struct fs)) (hone : oneCellFields P fs = true) (hC : P.cellsOf t = fs.size)
    (hv : Value.okWide P w r b0 t v) (h : DataW.Trod enc P w base spare held t v d p) :
    ∃ (cs : Array Value) (ys : List (DataW H × List MemPlace)) (n : Nat), v = .agg cs ∧ cs.size = fs.size ∧ d = .agg (ys.map (·.1)) ∧ ys.length = fs.size ∧
      ∀ (j : Nat) (f : Field), fs[j]? = some f → ∃ (u : Value) (y : DataW H × List MemPlace), cs[j]? = some u ∧ ys[j]? = some y ∧ DataW.trod enc P w base spare held n f.type [u] = some y := by
  obtain ⟨cs, rfl, hsz⟩ := okWide_struct hs hv
  obtain ⟨fuel, hf⟩ := h
  obtain ⟨ys, n, _, hx, hl, hlen, hg⟩ := DataW.trod_struct hs hf
  simp only [Prod.mk.injEq] at hx
  have hcs : cs.size = fs.size := hsz.trans hC
  refine ⟨cs, ys, n, rfl, hcs, hx.1, hlen, fun j f hj => ?_⟩
  obtain ⟨ho, hk⟩ := hone_of hone j f hj
  have hjl : j < fs.size := (Array.getElem?_eq_some_iff.1 hj).1
  have h1 := hg j f hj
  rw [ho, hk] at h1
  have hjc : j < cs.toList.length := by simp [hcs, hjl]
  have hone' : (Value.cells (.agg cs)).toList.length = cs.size := by simp [Value.cells]
  have h2 : ((Value.cells (.agg cs)).toList.drop j).take 1 = [cs[j]'(by omega)] := by
    rw [List.drop_eq_getElem_cons (by simp [Value.cells]; omega)]
    simp [Value.cells]
  rw [h2] at h1
  have hys : ys[j]? = some (ys[j]'(by omega)) := List.getElem?_eq_getElem (by omega)
  exact ⟨_, _, Array.getElem?_eq_getElem (by omega), hys, h1.trans hys⟩
end
section
variable {H : Type} {enc : TypeId × Value → H} {w : World} {base : Nat}
structure Img.Sized (m : Img) : Prop where
  c : m.code.length * 8 ≤ 140737488351232
  j : m.js.length * 4 ≤ 140737488351232
  d : m.data.length * 1 ≤ 140737488351232
  n : m.lx.length * 24 ≤ 140737488351232
set_option maxRecDepth 100000 in
theorem open_image {r : Reach} {b0 : Nat} {v : Value} {d : DataW H} {p : List MemPlace} (hv : Value.okWide Tryz.prog w r b0 28 v) (h : DataW.Trod enc Tryz.prog w base (fun _ => true) true 28 v d p)
    (hsz : ∀ parts, d = .agg parts → (DataW.weightsEach Tryz.prog [22, 23, 24, 25, 25, 26] parts).all (· ≤ reachBytes) = true) :
    ∃ (vc vj vd vn : Value) (m : Img), v = .agg #[vc, vj, vd, .int .u32 m.zero, .int .u32 m.stack, vn] ∧ ImgAt w vc vj vd vn m ∧ m.Sized := by
  obtain ⟨cs, ys, n, rfl, hcs, hd, hyl, hf⟩ := open_aggN Tryz.underlying28 (by kernel_rfl) ocells28 hv h
  obtain ⟨u0, y0, c0, e0, t0⟩ := hf 0 _ rfl
  obtain ⟨u1, y1, c1, e1, t1⟩ := hf 1 _ rfl
  obtain ⟨u2, y2, c2, e2, t2⟩ := hf 2 _ rfl
  obtain ⟨u3, y3, c3, e3, t3⟩ := hf 3 _ rfl
  obtain ⟨u4, y4, c4, e4, t4⟩ := hf 4 _ rfl
  obtain ⟨u5, y5, c5, e5, t5⟩ := hf 5 _ rfl
  have hs := hsz _ hd
  have at_ : ∀ (j : Nat) (y : DataW H × List MemPlace), ys[j]? = some y → (ys.map (·.1))[j]? = some y.1 := fun j y e => by rw [List.getElem?_map, e]; rfl
  obtain ⟨code, hc, lc⟩ := open_instrs2 t0 (fun els sp e => by
    have := sized_slice hs (j := 0) (t := 22) (e := 62) rfl (by rw [at_ 0 _ e0, e]) Tryz.underlying22
    rwa [show Tryz.prog.bytesOf 62 = 8 from by kernel_rfl] at this)
  obtain ⟨js, hj, lj⟩ := open_words2 t1 (fun els sp e => by
    have := sized_slice hs (j := 1) (t := 23) (e := 25) rfl (by rw [at_ 1 _ e1, e]) Tryz.underlying23
    rwa [show Tryz.prog.bytesOf 25 = 4 from by kernel_rfl] at this)
  obtain ⟨data, hdt, ld⟩ := open_bytes2 t2 (fun els sp e => by
    have := sized_slice hs (j := 2) (t := 24) (e := 5) rfl (by rw [at_ 2 _ e2, e]) Tryz.underlying24
    rwa [show Tryz.prog.bytesOf 5 = 1 from by kernel_rfl] at this)
  obtain ⟨lx, hn, ln⟩ := open_names2 t5 (fun els sp e => by
    have := sized_slice hs (j := 5) (t := 26) (e := 136) rfl (by rw [at_ 5 _ e5, e]) Tryz.underlying26
    rwa [show Tryz.prog.bytesOf 136 = 24 from by kernel_rfl] at this)
  obtain ⟨x3, f3, _, w3⟩ := DataW.trod_int Tryz.underlying25 t3
  obtain ⟨x4, f4, _, w4⟩ := DataW.trod_int Tryz.underlying25 t4
  simp at f3 f4
  subst f3 f4
  obtain ⟨z, rfl, hz⟩ := u32_of w3
  obtain ⟨s, rfl, hst⟩ := u32_of w4
  refine ⟨u0, u1, u2, u5, ⟨code, js, data, z, s, lx⟩, ?_, ⟨hc, hj, hdt, hn, hz, hst⟩, lc, lj, ld, ln⟩
  congr 1
  have h6 : cs.size = 6 := hcs
  apply Array.ext
  · exact h6
  · intro i h1 h2
    have key : ∀ (k : Nat) (u : Value), cs[k]? = some u → ∀ (hk : k < cs.size), cs[k] = u := fun k u e hk => by rw [Array.getElem?_eq_getElem hk] at e; injection e
    match i, h1 with
    | 0, h1 => exact key 0 _ c0 h1
    | 1, h1 => exact key 1 _ c1 h1
    | 2, h1 => exact key 2 _ c2 h1
    | 3, h1 => exact key 3 _ c3 h1
    | 4, h1 => exact key 4 _ c4 h1
    | 5, h1 => exact key 5 _ c5 h1
    | (i + 6), h1 => omega
end
theorem keep_row {W W' : World} {B e sz n r : Nat} {v : Value} {xs : List Value} (h : W.ownsRow B e sz v n xs) (hg : W.grownBy W' (some r)) (hr : r < B) : W'.ownsRow B e sz v n xs :=
  h.kept hg (by
    cases hv : v.ownBlock with
    | none => exact .inl rfl
    | some g => exact .inr (fun e => by cases e; have := (h.lt _ hv).1; omega))
theorem gb_step {W wr wx w3 : World} {r f : Nat} {u v3 : Value} (h : W.grownBy wr (some r)) (hb : Below wr.heap.size wr wx) (hu : ∀ g, u.ownBlock = some g → W.heap.size ≤ g) (hg : Grew wx w3 u v3) : W.grownBy (w3.setCell ⟨r, f, none⟩ v3) (some r) :=
  ⟨hg.1.os.trans (hb.os.trans h.os), hg.1.tape.trans (hb.tape.trans h.tape), hg.1.output.trans (hb.output.trans h.output), by
      have h1 := h.size; have h2 := hb.size; have h3 := hg.1.size
      have : (w3.setCell ⟨r, f, none⟩ v3).heap.size = w3.heap.size := by simp [World.setCell]
      omega,
    fun k hk hne => by
      have h1 := h.size
      have h2 := hb.size
      rw [Below.heap_setCell _ _ _ _ (fun e => hne (by rw [e]))]
      refine (hg.1.block k (by omega) (fun e => ?_)).trans ((hb.block k (by omega)).trans (h.block k hk hne))
      have := hu k e.symm
      omega⟩
theorem tk_code (l : List (Nat × Nat)) {k : Nat} (hk : k < l.length) : encI (l.take (k + 1)) = encI (l.take k) ++ [.int .u8 (l.getD k (0, 0)).1, .int .u32 (l.getD k (0, 0)).2] := by
  rw [List.take_succ_eq_append_getElem hk, encI_append, List.getD_eq_getElem?_getD, List.getElem?_eq_getElem hk]; rfl
theorem take_nums (q : IntKind) (l : List Nat) {k : Nat} (hk : k < l.length) : encN q (l.take (k + 1)) = encN q (l.take k) ++ [.int q (l.getD k 0 : Nat)] := by
  rw [List.take_succ_eq_append_getElem hk, encN_append, List.getD_eq_getElem?_getD, List.getElem?_eq_getElem hk]; rfl
theorem take_texts (l : List (ByteArray × Nat)) {k : Nat} (hk : k < l.length) : encX (l.take (k + 1)) = encX (l.take k) ++ [.string (l.getD k (ByteArray.empty, 0)).1, .int .u32 (l.getD k (ByteArray.empty, 0)).2] := by
  rw [List.take_succ_eq_append_getElem hk, encX_append, List.getD_eq_getElem?_getD, List.getElem?_eq_getElem hk]; rfl
theorem inf122 : (Tryz.prog.info? 62).map (fun i => (i.zero, i.size, i.bytes)) = some (some (.agg #[.int .u8 0, .int .u32 0]), 2, 8) := by kernel_rfl
theorem inf25 : (Tryz.prog.info? 25).map (fun i => (i.zero, i.size, i.bytes)) = some (some (.int .u32 0), 1, 4) := by kernel_rfl
theorem inf5 : (Tryz.prog.info? 5).map (fun i => (i.zero, i.size, i.bytes)) = some (some (.int .u8 0), 1, 1) := by kernel_rfl
theorem inf217 : (Tryz.prog.info? 136).map (fun i => (i.zero, i.size, i.bytes)) = some (some (.agg #[.string ⟨#[]⟩, .int .u32 0]), 2, 24) := by kernel_rfl
theorem bs22_1 (o a : Int) (w : World) : (Instr.buildSlice 22 1 #[(0, .agg #[.int .u8 o, .int .u32 a])]).run Tryz.prog w = .ok (.slice (some ⟨w.heap.size, 0, none⟩) 1 1) (w.alloc (.cells #[.int .u8 o, .int .u32 a] 62)) := by kernel_rfl
theorem bs23_1 (a : Int) (w : World) : (Instr.buildSlice 23 1 #[(0, .int .u32 a)]).run Tryz.prog w = .ok (.slice (some ⟨w.heap.size, 0, none⟩) 1 1) (w.alloc (.cells #[.int .u32 a] 25)) := by kernel_rfl
theorem bs24_1 (a : Int) (w : World) : (Instr.buildSlice 24 1 #[(0, .int .u8 a)]).run Tryz.prog w = .ok (.slice (some ⟨w.heap.size, 0, none⟩) 1 1) (w.alloc (.cells #[.int .u8 a] 5)) := by kernel_rfl
theorem bs26_1 (s : ByteArray) (a : Int) (w : World) : (Instr.buildSlice 26 1 #[(0, .agg #[.string s, .int .u32 a])]).run Tryz.prog w = .ok (.slice (some ⟨w.heap.size, 0, none⟩) 1 1) (w.alloc (.cells #[.string s, .int .u32 a] 136)) := by kernel_rfl
theorem one_IC (o a : Int) : ∀ u ∈ [Value.int .u8 o, .int .u32 a], u.oneCell' = true := by
  intro u h; simp only [List.mem_cons, List.not_mem_nil, or_false] at h; rcases h with rfl | rfl <;> rfl
theorem one_IJ (q : IntKind) (a : Int) : ∀ u ∈ [Value.int q a], u.oneCell' = true := by
  intro u h; rw [List.mem_singleton.1 h]; rfl
theorem one_IX (s : ByteArray) (a : Int) : ∀ u ∈ [Value.string s, .int .u32 a], u.oneCell' = true := by
  intro u h; simp only [List.mem_cons, List.not_mem_nil, or_false] at h; rcases h with rfl | rfl <;> rfl
def CpPost (m : Img) (w : World) (e : Ending) (w' : World) : Prop :=
  ∃ uc uj ud un, e = .returned (.agg #[uc, uj, ud, .int .u32 m.zero, .int .u32 m.stack, un]) ∧ ImgOwn w' w.heap.size uc uj ud un m ∧ Below w.heap.size w w'
theorem cell28 {w : World} {g : Nat} {a b c d e f : Value} (h : w.heap[g]? = some (.cells #[a, b, c, d, e, f] 28 (0, 0))) : (w.cell? ⟨g, 0, none⟩ = some a ∧ w.cell? ⟨g, 1, none⟩ = some b ∧ w.cell? ⟨g, 2, none⟩ = some c ∧ w.cell? ⟨g, 3, none⟩ = some d ∧
    w.cell? ⟨g, 4, none⟩ = some e ∧ w.cell? ⟨g, 5, none⟩ = some f) ∧ ∀ j, w.frozen? ⟨g, j, none⟩ = false :=
  ⟨⟨cell_of_row w g 0 _ _ _ h, cell_of_row w g 1 _ _ _ h, cell_of_row w g 2 _ _ _ h, cell_of_row w g 3 _ _ _ h, cell_of_row w g 4 _ _ _ h, cell_of_row w g 5 _ _ _ h⟩, fun j => frozen_of_row w g j _ _ h⟩
set_option maxRecDepth 100000 in
set_option maxHeartbeats 8000000 in
theorem copiedR_any (vc vj vd vn : Value) (m : Img) (w : World) (h : ImgAt w vc vj vd vn m) (hsz : m.Sized) :
    Calls Tryz.prog 46 #[.agg #[vc, vj, vd, .int .u32 m.zero, .int .u32 m.stack, vn]] w (CpPost m w) := by
  have hz := zero28
  have bs1 := bs22_1
  have bs2 := bs23_1
  have bs3 := bs24_1
  have bs4 := bs26_1
  obtain ⟨ic, hic, hic0, hic1, hic2⟩ := info_parts inf122
  obtain ⟨ij, hij, hij0, hij1, hij2⟩ := info_parts inf25
  obtain ⟨id_, hid_, hid0, hid1, hid2⟩ := info_parts inf5
  obtain ⟨ix, hix, hix0, hix1, hix2⟩ := info_parts inf217
  obtain ⟨⟨a0, c0, rfl, hl0, hn0, hm0, -, hp0⟩, -⟩ := h.c
  obtain ⟨⟨a1, c1, rfl, hl1, hn1, hm1, -, hp1⟩, -⟩ := h.j
  obtain ⟨⟨a2, c2, rfl, hl2, hn2, hm2, -, hp2⟩, -⟩ := h.d
  obtain ⟨⟨a5, c5, rfl, hl5, hn5, hm5, -, hp5⟩, -⟩ := h.n
  have s0 := hsz.c
  have s1 := hsz.j
  have s2 := hsz.d
  have s5 := hsz.n
  have M0 : m.code.length ≤ 9223372036854775807 := by omega
  have M1 : m.js.length ≤ 9223372036854775807 := by omega
  have M2 : m.data.length ≤ 9223372036854775807 := by omega
  have M5 : m.lx.length ≤ 9223372036854775807 := by omega
  have P0 := Lib.hid hp0
  have P1 := Lib.hid hp1
  have P2 := Lib.hid hp2
  have P5 := Lib.hid hp5
  clear h hsz hp0 hp1 hp2 hp5 hm0 hm1 hm2 hm5 hl0 hl1 hl2 hl5
  obtain ⟨W0, hW0⟩ : ∃ W0, W0 = ((w.alloc (.cells #[.slice a0 m.code.length c0, .slice a1 m.js.length c1, .slice a2 m.data.length c2, .int .u32 m.zero, .int .u32 m.stack, .slice a5 m.lx.length c5] 28)).alloc (.cells #[.slice none 0 0, .slice none 0 0, .slice none 0 0, .int .u32 0, .int .u32 0, .slice none 0 0] 28)).alloc (.cells #[.slice none 0 0, .slice none 0 0, .slice none 0 0, .int .u32 0, .int .u32 0, .slice none 0 0] 28) := ⟨_, rfl⟩
  have B0 : Hid (W0.heap[w.heap.size]? = some (.cells #[.slice a0 m.code.length c0, .slice a1 m.js.length c1, .slice a2 m.data.length c2, .int .u32 m.zero, .int .u32 m.stack, .slice a5 m.lx.length c5] 28 (0, 0))) := Lib.hid (by
    rw [hW0, Below.heap_alloc _ _ _ (by simp; omega), Below.heap_alloc _ _ _ (by simp)]; exact heap_alloc_new w _)
  have T0 : Hid (W0.heap[w.heap.size + 1]? = some (.cells #[.slice none 0 0, .slice none 0 0, .slice none 0 0, .int .u32 0, .int .u32 0, .slice none 0 0] 28 (0, 0))) := Lib.hid (by
    rw [hW0, Below.heap_alloc _ _ _ (by simp)]
    have := heap_alloc_new (w.alloc (.cells #[.slice a0 m.code.length c0, .slice a1 m.js.length c1, .slice a2 m.data.length c2, .int .u32 m.zero, .int .u32 m.stack, .slice a5 m.lx.length c5] 28)) (.cells #[.slice none 0 0, .slice none 0 0, .slice none 0 0, .int .u32 0, .int .u32 0, .slice none 0 0] 28)
    simpa using this)
  have O0 : Hid (W0.heap[w.heap.size + 2]? = some (.cells #[.slice none 0 0, .slice none 0 0, .slice none 0 0, .int .u32 0, .int .u32 0, .slice none 0 0] 28 (0, 0))) := Lib.hid (by
    rw [hW0]
    have := heap_alloc_new ((w.alloc (.cells #[.slice a0 m.code.length c0, .slice a1 m.js.length c1, .slice a2 m.data.length c2, .int .u32 m.zero, .int .u32 m.stack, .slice a5 m.lx.length c5] 28)).alloc (.cells #[.slice none 0 0, .slice none 0 0, .slice none 0 0, .int .u32 0, .int .u32 0, .slice none 0 0] 28)) (.cells #[.slice none 0 0, .slice none 0 0, .slice none 0 0, .int .u32 0, .int .u32 0, .slice none 0 0] 28)
    simpa using this)
  have L0 : Hid (Below w.heap.size w W0) := Lib.hid (by rw [hW0]; exact Bel.al (Bel.al (Bel.new w _) _) _)
  have z0 : w.heap.size + 2 < W0.heap.size := by rw [hW0]; simp
  go_enter Tryz.func46, Tryz.ntmps46
  go_wp2_with fail
  rw [← hW0]
  clear hW0
  go_loopw [4] (fun i wr => ∃ (k : Nat) (u : Value), k ≤ m.code.length ∧ i = .int .i64 k ∧ wr.heap[w.heap.size + 2]? = some (.cells #[u, .slice none 0 0, .slice none 0 0, .int .u32 0, .int .u32 0, .slice none 0 0] 28 (0, 0)) ∧ wr.ownsRow W0.heap.size 62 2 u k (encI (m.code.take k)) ∧ W0.grownBy wr (some (w.heap.size + 2))) (fun i _ => m.code.length - (intOf i).toNat)
  case atStart => exact ⟨0, .slice none 0 0, by omega, rfl, O0.out, World.ownsRow_nil _ _ _ _, grownBy_refl _ _⟩
  case round =>
    obtain ⟨k, u, hk, rfl, ho, hr, hg⟩ := hrel
    have HO := Lib.hid ho
    have HR := Lib.hid hr
    have HG := Lib.hid hg
    have hLr : Below w.heap.size w wr := L0.out.grown hg L0.out.size (fun k e => by cases e; omega)
    have HL := Lib.hid hLr
    have HB := Lib.hid ((hg.block w.heap.size (by omega) (by simp)).trans B0.out)
    obtain ⟨⟨b0, b1, b2, b3, b4, b5⟩, bf⟩ := cell28 HB.out
    have hzr : w.heap.size + 2 < wr.heap.size := Nat.lt_of_lt_of_le z0 hg.size
    by_cases hlt : k < m.code.length
    · obtain ⟨b, off, rfl, hbl, hc⟩ := P0.out (by omega)
      have hel := encI_length m.code
      have q0 := (hLr.cell (p := ⟨b, off + (k * 2), none⟩) hbl).trans ((hc (k * 2) (by omega)).trans (encI_op m.code k hlt))
      have q1 := (hLr.cell (p := ⟨b, off + (k * 2 + 1), none⟩) hbl).trans ((hc (k * 2 + 1) (by omega)).trans (encI_arg m.code k hlt))
      rw [← Nat.add_assoc] at q1
      have HT := Lib.hid (tk_code m.code hlt)
      have hki : (k : Int) < (m.code.length : Int) := by omega
      have hk0 : (0 : Int) ≤ (k : Int) := by omega
      obtain ⟨⟨r0, r1, r2, r3, r4, r5⟩, rf⟩ := cell28 HO.out
      have h63 : k + 1 ≤ maxLen := by unfold maxLen; omega
      have h47 : (k + 1) * 8 ≤ 140737488355328 := by omega
      have hbwr : b < wr.heap.size := by omega
      have hu := Lib.hid (fun g e => (HR.out.lt g e).1 : ∀ g, u.ownBlock = some g → W0.heap.size ≤ g)
      have HRd := Lib.hid (own_below HR.out (Below.refl _ _).drew)
      have HOd : Hid (wr.drew.heap[w.heap.size + 2]? = some (.cells #[u, .slice none 0 0, .slice none 0 0, .int .u32 0, .int .u32 0, .slice none 0 0] 28 (0, 0))) := HO
      have hnu : u.ownBlock ≠ some (w.heap.size + 2) := fun e => by have := hu.out _ e; omega
      have Hnu := Lib.hid hnu
      clear hc hel ho hr hg hLr hnu
      generalize m.code.getD k (0, 0) = pr at *
      obtain ⟨o, x⟩ := pr
      simp only at q0 q1
      go_wp2_with fail
      go_region_law ((refine step_append_grew rfl (.tmp 16) (.tmp 22) 22 rfl 62 ic (.agg #[.int .u8 0, .int .u32 0]) 2 8 Tryz.underlying22 hic hic0 hic1 hic2 rfl (by decide) _ _ _ rfl (own_base (own_below HRd.out (Bel.new _ _))) ⟨_, 0, none⟩ 1 1 [_, _] rfl rfl (news_new _ #[_, _] 62) ?_ ?_ ?_ ?_; exact one_IC _ _; exact h63; exact h47; intro v3 w3 hr3 hg3 hn3; have hh3 := (hg3.1.block (w.heap.size + 2) (by simp; omega) (fun e => Hnu.out e.symm)).trans ((Below.heap_alloc wr.drew _ _ hzr).trans HOd.out); obtain ⟨⟨x0, x1, x2, x3, x4, x5⟩, xf⟩ := cell28 hh3; obtain ⟨g3, c3, hv3, hb3, hl3⟩ := own_start hr3 (Nat.succ_pos _); have HH3 := Lib.hid hh3; have HR3 := Lib.hid hr3; have HG3 := Lib.hid hg3; subst hv3; clear hh3 hr3 hg3 hn3))
      all_goals
        go_wp2
        go_roundw
        case rel => exact ⟨k + 1, _, by omega, by go_num, heap_setCell_same w3 (w.heap.size + 2) 0 _ _ _ HH3.out, ownsRow_setCell_below (own_from (by rw [HT.out]; exact HR3.out) (fun g e => (HG3.out.2 g e).elim (hu.out g) (fun h1 => by have := HG.out.size; simp at h1; omega))) (by show w.heap.size + 2 < _; omega) _, gb_step HG.out ((Below.refl _ _).drew.alloc (Nat.le_refl _) _) hu.out HG3.out⟩
        case measure => simp [intOf]; omega
    · obtain rfl : k = m.code.length := by omega
      rw [List.take_length] at HR
      obtain ⟨ya0, yc0, rfl, -⟩ := own_sl HR.out
      obtain ⟨W1, rfl⟩ : ∃ W1 : World, W1 = wr := ⟨_, rfl⟩
      have O1 := HO
      have B1 := HB
      have L1 := HL
      have T1 := Lib.hid ((HG.out.block (w.heap.size + 1) (by omega) (by simp)).trans T0.out)
      have z1 := hzr
      have R0_1 := HR
      have zz0 : W0.heap.size ≤ W1.heap.size := HG.out.size
      clear HO HB HL HG hzr HR ho hr hg hLr O0 B0 L0
      go_wp2_with fail
      go_loopw [5] (fun i wr => ∃ (k : Nat) (u : Value), k ≤ m.js.length ∧ i = .int .i64 k ∧ wr.heap[w.heap.size + 2]? = some (.cells #[.slice ya0 m.code.length yc0, u, .slice none 0 0, .int .u32 0, .int .u32 0, .slice none 0 0] 28 (0, 0)) ∧ wr.ownsRow W1.heap.size 25 1 u k (encN .u32 (m.js.take k)) ∧ W1.grownBy wr (some (w.heap.size + 2))) (fun i _ => m.js.length - (intOf i).toNat)
      case atStart => exact ⟨0, .slice none 0 0, by omega, rfl, O1.out, World.ownsRow_nil _ _ _ _, grownBy_refl _ _⟩
      case round =>
        obtain ⟨k, u, hk, rfl, ho, hr, hg⟩ := hrel
        have HO := Lib.hid ho
        have HR := Lib.hid hr
        have HG := Lib.hid hg
        have hLr : Below w.heap.size w wr := L1.out.grown hg L1.out.size (fun k e => by cases e; omega)
        have HL := Lib.hid hLr
        have HB := Lib.hid ((hg.block w.heap.size (by omega) (by simp)).trans B1.out)
        obtain ⟨⟨b0, b1, b2, b3, b4, b5⟩, bf⟩ := cell28 HB.out
        have hzr : w.heap.size + 2 < wr.heap.size := Nat.lt_of_lt_of_le z1 hg.size
        by_cases hlt : k < m.js.length
        · obtain ⟨b, off, rfl, hbl, hc⟩ := P1.out (by omega)
          have hel := encN_length .u32 m.js
          have q0 := (hLr.cell (p := ⟨b, off + (k), none⟩) hbl).trans ((hc (k) (by omega)).trans (encN_at .u32 m.js k hlt))
          have HT := Lib.hid (take_nums .u32 m.js hlt)
          have hki : (k : Int) < (m.js.length : Int) := by omega
          have hk0 : (0 : Int) ≤ (k : Int) := by omega
          obtain ⟨⟨r0, r1, r2, r3, r4, r5⟩, rf⟩ := cell28 HO.out
          have h63 : k + 1 ≤ maxLen := by unfold maxLen; omega
          have h47 : (k + 1) * 4 ≤ 140737488355328 := by omega
          have hbwr : b < wr.heap.size := by omega
          have hu := Lib.hid (fun g e => (HR.out.lt g e).1 : ∀ g, u.ownBlock = some g → W1.heap.size ≤ g)
          have HRd := Lib.hid (own_below HR.out (Below.refl _ _).drew)
          have HOd : Hid (wr.drew.heap[w.heap.size + 2]? = some (.cells #[.slice ya0 m.code.length yc0, u, .slice none 0 0, .int .u32 0, .int .u32 0, .slice none 0 0] 28 (0, 0))) := HO
          have hnu : u.ownBlock ≠ some (w.heap.size + 2) := fun e => by have := hu.out _ e; omega
          have Hnu := Lib.hid hnu
          clear hc hel ho hr hg hLr hnu
          generalize m.js.getD k 0 = x at *
          go_wp2_with fail
          go_region_law ((refine step_append_grew rfl (.tmp 33) (.tmp 39) 23 rfl 25 ij (.int .u32 0) 1 4 Tryz.underlying23 hij hij0 hij1 hij2 rfl (by decide) _ _ _ rfl (own_base (own_below HRd.out (Bel.new _ _))) ⟨_, 0, none⟩ 1 1 [_] rfl rfl (news_new _ #[_] 25) ?_ ?_ ?_ ?_; exact one_IJ _ _; exact h63; exact h47; intro v3 w3 hr3 hg3 hn3; have hh3 := (hg3.1.block (w.heap.size + 2) (by simp; omega) (fun e => Hnu.out e.symm)).trans ((Below.heap_alloc wr.drew _ _ hzr).trans HOd.out); obtain ⟨⟨x0, x1, x2, x3, x4, x5⟩, xf⟩ := cell28 hh3; obtain ⟨g3, c3, hv3, hb3, hl3⟩ := own_start hr3 (Nat.succ_pos _); have HH3 := Lib.hid hh3; have HR3 := Lib.hid hr3; have HG3 := Lib.hid hg3; subst hv3; clear hh3 hr3 hg3 hn3))
          all_goals
            go_wp2
            go_roundw
            case rel => exact ⟨k + 1, _, by omega, by go_num, heap_setCell_same w3 (w.heap.size + 2) 1 _ _ _ HH3.out, ownsRow_setCell_below (own_from (by rw [HT.out]; exact HR3.out) (fun g e => (HG3.out.2 g e).elim (hu.out g) (fun h1 => by have := HG.out.size; simp at h1; omega))) (by show w.heap.size + 2 < _; omega) _, gb_step HG.out ((Below.refl _ _).drew.alloc (Nat.le_refl _) _) hu.out HG3.out⟩
            case measure => simp [intOf]; omega
        · obtain rfl : k = m.js.length := by omega
          rw [List.take_length] at HR
          obtain ⟨ya1, yc1, rfl, -⟩ := own_sl HR.out
          obtain ⟨W2, rfl⟩ : ∃ W2 : World, W2 = wr := ⟨_, rfl⟩
          have O2 := HO
          have B2 := HB
          have L2 := HL
          have T2 := Lib.hid ((HG.out.block (w.heap.size + 1) (by omega) (by simp)).trans T1.out)
          have z2 := hzr
          have R1_2 := HR
          have R0_2 := Lib.hid (keep_row R0_1.out HG.out (by omega))
          have zz1 : W1.heap.size ≤ W2.heap.size := HG.out.size
          clear HO HB HL HG hzr HR ho hr hg hLr O1 B1 L1
          go_wp2_with fail
          go_loopw [6] (fun i wr => ∃ (k : Nat) (u : Value), k ≤ m.data.length ∧ i = .int .i64 k ∧ wr.heap[w.heap.size + 2]? = some (.cells #[.slice ya0 m.code.length yc0, .slice ya1 m.js.length yc1, u, .int .u32 0, .int .u32 0, .slice none 0 0] 28 (0, 0)) ∧ wr.ownsRow W2.heap.size 5 1 u k (encN .u8 (m.data.take k)) ∧ W2.grownBy wr (some (w.heap.size + 2))) (fun i _ => m.data.length - (intOf i).toNat)
          case atStart => exact ⟨0, .slice none 0 0, by omega, rfl, O2.out, World.ownsRow_nil _ _ _ _, grownBy_refl _ _⟩
          case round =>
            obtain ⟨k, u, hk, rfl, ho, hr, hg⟩ := hrel
            have HO := Lib.hid ho
            have HR := Lib.hid hr
            have HG := Lib.hid hg
            have hLr : Below w.heap.size w wr := L2.out.grown hg L2.out.size (fun k e => by cases e; omega)
            have HL := Lib.hid hLr
            have HB := Lib.hid ((hg.block w.heap.size (by omega) (by simp)).trans B2.out)
            obtain ⟨⟨b0, b1, b2, b3, b4, b5⟩, bf⟩ := cell28 HB.out
            have hzr : w.heap.size + 2 < wr.heap.size := Nat.lt_of_lt_of_le z2 hg.size
            by_cases hlt : k < m.data.length
            · obtain ⟨b, off, rfl, hbl, hc⟩ := P2.out (by omega)
              have hel := encN_length .u8 m.data
              have q0 := (hLr.cell (p := ⟨b, off + (k), none⟩) hbl).trans ((hc (k) (by omega)).trans (encN_at .u8 m.data k hlt))
              have HT := Lib.hid (take_nums .u8 m.data hlt)
              have hki : (k : Int) < (m.data.length : Int) := by omega
              have hk0 : (0 : Int) ≤ (k : Int) := by omega
              obtain ⟨⟨r0, r1, r2, r3, r4, r5⟩, rf⟩ := cell28 HO.out
              have h63 : k + 1 ≤ maxLen := by unfold maxLen; omega
              have h47 : (k + 1) * 1 ≤ 140737488355328 := by omega
              have hbwr : b < wr.heap.size := by omega
              have hu := Lib.hid (fun g e => (HR.out.lt g e).1 : ∀ g, u.ownBlock = some g → W2.heap.size ≤ g)
              have HRd := Lib.hid (own_below HR.out (Below.refl _ _).drew)
              have HOd : Hid (wr.drew.heap[w.heap.size + 2]? = some (.cells #[.slice ya0 m.code.length yc0, .slice ya1 m.js.length yc1, u, .int .u32 0, .int .u32 0, .slice none 0 0] 28 (0, 0))) := HO
              have hnu : u.ownBlock ≠ some (w.heap.size + 2) := fun e => by have := hu.out _ e; omega
              have Hnu := Lib.hid hnu
              clear hc hel ho hr hg hLr hnu
              generalize m.data.getD k 0 = x at *
              go_wp2_with fail
              go_region_law ((refine step_append_grew rfl (.tmp 50) (.tmp 56) 24 rfl 5 id_ (.int .u8 0) 1 1 Tryz.underlying24 hid_ hid0 hid1 hid2 rfl (by decide) _ _ _ rfl (own_base (own_below HRd.out (Bel.new _ _))) ⟨_, 0, none⟩ 1 1 [_] rfl rfl (news_new _ #[_] 5) ?_ ?_ ?_ ?_; exact one_IJ _ _; exact h63; exact h47; intro v3 w3 hr3 hg3 hn3; have hh3 := (hg3.1.block (w.heap.size + 2) (by simp; omega) (fun e => Hnu.out e.symm)).trans ((Below.heap_alloc wr.drew _ _ hzr).trans HOd.out); obtain ⟨⟨x0, x1, x2, x3, x4, x5⟩, xf⟩ := cell28 hh3; obtain ⟨g3, c3, hv3, hb3, hl3⟩ := own_start hr3 (Nat.succ_pos _); have HH3 := Lib.hid hh3; have HR3 := Lib.hid hr3; have HG3 := Lib.hid hg3; subst hv3; clear hh3 hr3 hg3 hn3))
              all_goals
                go_wp2
                go_roundw
                case rel => exact ⟨k + 1, _, by omega, by go_num, heap_setCell_same w3 (w.heap.size + 2) 2 _ _ _ HH3.out, ownsRow_setCell_below (own_from (by rw [HT.out]; exact HR3.out) (fun g e => (HG3.out.2 g e).elim (hu.out g) (fun h1 => by have := HG.out.size; simp at h1; omega))) (by show w.heap.size + 2 < _; omega) _, gb_step HG.out ((Below.refl _ _).drew.alloc (Nat.le_refl _) _) hu.out HG3.out⟩
                case measure => simp [intOf]; omega
            · obtain rfl : k = m.data.length := by omega
              rw [List.take_length] at HR
              obtain ⟨ya2, yc2, rfl, -⟩ := own_sl HR.out
              obtain ⟨W3, rfl⟩ : ∃ W3 : World, W3 = wr := ⟨_, rfl⟩
              have O3 := HO
              have B3 := HB
              have L3 := HL
              have T3 := Lib.hid ((HG.out.block (w.heap.size + 1) (by omega) (by simp)).trans T2.out)
              have z3 := hzr
              have R2_3 := HR
              have R0_3 := Lib.hid (keep_row R0_2.out HG.out (by omega))
              have R1_3 := Lib.hid (keep_row R1_2.out HG.out (by omega))
              have zz2 : W2.heap.size ≤ W3.heap.size := HG.out.size
              clear HO HB HL HG hzr HR ho hr hg hLr O2 B2 L2
              go_wp2_with fail
              go_loopw [7] (fun i wr => ∃ (k : Nat) (u : Value), k ≤ m.lx.length ∧ i = .int .i64 k ∧ wr.heap[w.heap.size + 2]? = some (.cells #[.slice ya0 m.code.length yc0, .slice ya1 m.js.length yc1, .slice ya2 m.data.length yc2, .int .u32 0, .int .u32 0, u] 28 (0, 0)) ∧ wr.ownsRow W3.heap.size 136 2 u k (encX (m.lx.take k)) ∧ W3.grownBy wr (some (w.heap.size + 2))) (fun i _ => m.lx.length - (intOf i).toNat)
              case atStart => exact ⟨0, .slice none 0 0, by omega, rfl, O3.out, World.ownsRow_nil _ _ _ _, grownBy_refl _ _⟩
              case round =>
                obtain ⟨k, u, hk, rfl, ho, hr, hg⟩ := hrel
                have HO := Lib.hid ho
                have HR := Lib.hid hr
                have HG := Lib.hid hg
                have hLr : Below w.heap.size w wr := L3.out.grown hg L3.out.size (fun k e => by cases e; omega)
                have HL := Lib.hid hLr
                have HB := Lib.hid ((hg.block w.heap.size (by omega) (by simp)).trans B3.out)
                obtain ⟨⟨b0, b1, b2, b3, b4, b5⟩, bf⟩ := cell28 HB.out
                have hzr : w.heap.size + 2 < wr.heap.size := Nat.lt_of_lt_of_le z3 hg.size
                by_cases hlt : k < m.lx.length
                · obtain ⟨b, off, rfl, hbl, hc⟩ := P5.out (by omega)
                  have hel := encX_length m.lx
                  have q0 := (hLr.cell (p := ⟨b, off + (k * 2), none⟩) hbl).trans ((hc (k * 2) (by omega)).trans ((encX_at m.lx k hlt).1))
                  have q1 := (hLr.cell (p := ⟨b, off + (k * 2 + 1), none⟩) hbl).trans ((hc (k * 2 + 1) (by omega)).trans ((encX_at m.lx k hlt).2))
                  rw [← Nat.add_assoc] at q1
                  have HT := Lib.hid (take_texts m.lx hlt)
                  have hki : (k : Int) < (m.lx.length : Int) := by omega
                  have hk0 : (0 : Int) ≤ (k : Int) := by omega
                  obtain ⟨⟨r0, r1, r2, r3, r4, r5⟩, rf⟩ := cell28 HO.out
                  have h63 : k + 1 ≤ maxLen := by unfold maxLen; omega
                  have h47 : (k + 1) * 24 ≤ 140737488355328 := by omega
                  have hbwr : b < wr.heap.size := by omega
                  have hu := Lib.hid (fun g e => (HR.out.lt g e).1 : ∀ g, u.ownBlock = some g → W3.heap.size ≤ g)
                  have HRd := Lib.hid (own_below HR.out (Below.refl _ _).drew)
                  have HOd : Hid (wr.drew.heap[w.heap.size + 2]? = some (.cells #[.slice ya0 m.code.length yc0, .slice ya1 m.js.length yc1, .slice ya2 m.data.length yc2, .int .u32 0, .int .u32 0, u] 28 (0, 0))) := HO
                  have hnu : u.ownBlock ≠ some (w.heap.size + 2) := fun e => by have := hu.out _ e; omega
                  have Hnu := Lib.hid hnu
                  clear hc hel ho hr hg hLr hnu
                  generalize m.lx.getD k (ByteArray.empty, 0) = pr at *
                  obtain ⟨o, x⟩ := pr
                  simp only at q0 q1
                  go_wp2_with fail
                  go_region_law ((refine step_append_grew rfl (.tmp 67) (.tmp 73) 26 rfl 136 ix (.agg #[.string ⟨#[]⟩, .int .u32 0]) 2 24 Tryz.underlying26 hix hix0 hix1 hix2 rfl (by decide) _ _ _ rfl (own_base (own_below HRd.out (Bel.new _ _))) ⟨_, 0, none⟩ 1 1 [_, _] rfl rfl (news_new _ #[_, _] 136) ?_ ?_ ?_ ?_; exact one_IX _ _; exact h63; exact h47; intro v3 w3 hr3 hg3 hn3; have hh3 := (hg3.1.block (w.heap.size + 2) (by simp; omega) (fun e => Hnu.out e.symm)).trans ((Below.heap_alloc wr.drew _ _ hzr).trans HOd.out); obtain ⟨⟨x0, x1, x2, x3, x4, x5⟩, xf⟩ := cell28 hh3; obtain ⟨g3, c3, hv3, hb3, hl3⟩ := own_start hr3 (Nat.succ_pos _); have HH3 := Lib.hid hh3; have HR3 := Lib.hid hr3; have HG3 := Lib.hid hg3; subst hv3; clear hh3 hr3 hg3 hn3))
                  all_goals
                    go_wp2
                    go_roundw
                    case rel => exact ⟨k + 1, _, by omega, by go_num, heap_setCell_same w3 (w.heap.size + 2) 5 _ _ _ HH3.out, ownsRow_setCell_below (own_from (by rw [HT.out]; exact HR3.out) (fun g e => (HG3.out.2 g e).elim (hu.out g) (fun h1 => by have := HG.out.size; simp at h1; omega))) (by show w.heap.size + 2 < _; omega) _, gb_step HG.out ((Below.refl _ _).drew.alloc (Nat.le_refl _) _) hu.out HG3.out⟩
                    case measure => simp [intOf]; omega
                · obtain rfl : k = m.lx.length := by omega
                  rw [List.take_length] at HR
                  obtain ⟨ya5, yc5, rfl, -⟩ := own_sl HR.out
                  obtain ⟨W4, rfl⟩ : ∃ W4 : World, W4 = wr := ⟨_, rfl⟩
                  have O4 := HO
                  have B4 := HB
                  have L4 := HL
                  have T4 := Lib.hid ((HG.out.block (w.heap.size + 1) (by omega) (by simp)).trans T3.out)
                  have z4 := hzr
                  have R5_4 := HR
                  have R0_4 := Lib.hid (keep_row R0_3.out HG.out (by omega))
                  have R1_4 := Lib.hid (keep_row R1_3.out HG.out (by omega))
                  have R2_4 := Lib.hid (keep_row R2_3.out HG.out (by omega))
                  have zz3 : W3.heap.size ≤ W4.heap.size := HG.out.size
                  clear HO HB HL HG hzr HR ho hr hg hLr O3 B3 L3
                  have O4' : W4.heap[w.heap.size + 1 + 1]? = some (.cells #[.slice ya0 m.code.length yc0, .slice ya1 m.js.length yc1, .slice ya2 m.data.length yc2, .int .u32 0, .int .u32 0, .slice ya5 m.lx.length yc5] 28 (0, 0)) := O4.out
                  obtain ⟨⟨y0, y1, y2, y3, y4, y5⟩, yf⟩ := cell28 O4'
                  have yf3 := yf 3
                  have h5 := heap_setCell_same _ _ 3 _ _ (.int .u32 (m.zero : Int)) O4'
                  have h5' : (W4.setCell ⟨w.heap.size + 1 + 1, 3, none⟩ (.int .u32 (m.zero : Int))).heap[w.heap.size + 1 + 1]? = some (.cells #[.slice ya0 m.code.length yc0, .slice ya1 m.js.length yc1, .slice ya2 m.data.length yc2, .int .u32 m.zero, .int .u32 0, .slice ya5 m.lx.length yc5] 28 (0, 0)) := h5
                  obtain ⟨⟨k0, k1, k2, k3, k4, k5⟩, kf⟩ := cell28 h5'
                  have kf4 := kf 4
                  have h6 := heap_setCell_same _ _ 4 _ _ (.int .u32 (m.stack : Int)) h5'
                  have h6' : ((W4.setCell ⟨w.heap.size + 1 + 1, 3, none⟩ (.int .u32 (m.zero : Int))).setCell ⟨w.heap.size + 1 + 1, 4, none⟩ (.int .u32 (m.stack : Int))).heap[w.heap.size + 1 + 1]? = some (.cells #[.slice ya0 m.code.length yc0, .slice ya1 m.js.length yc1, .slice ya2 m.data.length yc2, .int .u32 m.zero, .int .u32 m.stack, .slice ya5 m.lx.length yc5] 28 (0, 0)) := h6
                  obtain ⟨⟨j0, j1, j2, j3, j4, j5⟩, -⟩ := cell28 h6'
                  have HT6 : Hid (((W4.setCell ⟨w.heap.size + 1 + 1, 3, none⟩ (.int .u32 (m.zero : Int))).setCell ⟨w.heap.size + 1 + 1, 4, none⟩ (.int .u32 (m.stack : Int))).heap[w.heap.size + 1]? = some (.cells #[.slice none 0 0, .slice none 0 0, .slice none 0 0, .int .u32 0, .int .u32 0, .slice none 0 0] 28 (0, 0))) := Lib.hid ((Below.heap_setCell _ _ _ _ (by simp)).trans ((Below.heap_setCell _ _ _ _ (by simp)).trans T4.out))
                  clear yf kf h5 h5' h6 h6' O4'
                  go_wp2_with (((with_reducible refine wpList_store_row (o := ⟨none, .store 28 (.tmp 2) (.tmp 82), _, _, _, none⟩) rfl 28 _ _ rfl (w.heap.size + 1) #[.slice ya0 m.code.length yc0, .slice ya1 m.js.length yc1, .slice ya2 m.data.length yc2, .int .u32 m.zero, .int .u32 m.stack, .slice ya5 m.lx.length yc5] ?_ ?_ 28 _ HT6.out ?_ ?_ ?_ ?_); rfl; rfl; exact info28; rfl; (simp [Value.oneCell'])))
                  refine bodyPost_ret (v := .agg #[.slice ya0 m.code.length yc0, .slice ya1 m.js.length yc1, .slice ya2 m.data.length yc2, .int .u32 m.zero, .int .u32 m.stack, .slice ya5 m.lx.length yc5]) (results_cell_row Tryz.results46 _ _ (w.heap.size + 1) 28 _ (0, 0) _ rfl (setRow_heap _ _ _ _ _ _ HT6.out) Tryz.underlying28 rfl info28) rfl ⟨_, _, _, _, rfl, ?_, ?_⟩
                  · exact ⟨own_downT (own_setRow (ownsRow_setCell_below (ownsRow_setCell_below R0_4.out (by show w.heap.size + 1 + 1 < W0.heap.size; omega) _) (by show w.heap.size + 1 + 1 < W0.heap.size; omega) _) (by omega)) (by omega), own_downT (own_setRow (ownsRow_setCell_below (ownsRow_setCell_below R1_4.out (by show w.heap.size + 1 + 1 < W1.heap.size; omega) _) (by show w.heap.size + 1 + 1 < W1.heap.size; omega) _) (by omega)) (by omega), own_downT (own_setRow (ownsRow_setCell_below (ownsRow_setCell_below R2_4.out (by show w.heap.size + 1 + 1 < W2.heap.size; omega) _) (by show w.heap.size + 1 + 1 < W2.heap.size; omega) _) (by omega)) (by omega), own_downT (own_setRow (ownsRow_setCell_below (ownsRow_setCell_below R5_4.out (by show w.heap.size + 1 + 1 < W3.heap.size; omega) _) (by show w.heap.size + 1 + 1 < W3.heap.size; omega) _) (by omega)) (by omega)⟩
                  · exact below_setRow ((L4.out.setCell (p := ⟨w.heap.size + 1 + 1, 3, none⟩) (by show w.heap.size ≤ w.heap.size + 1 + 1; omega) _).setCell (p := ⟨w.heap.size + 1 + 1, 4, none⟩) (by show w.heap.size ≤ w.heap.size + 1 + 1; omega) _) _ (by omega) _
def encW : List (Nat × List Nat) → List Value → List Value
  | r :: rs, u :: us => .int .u32 r.1 :: u :: encW rs us
  | _, _ => []
theorem encW_snoc (r : Nat × List Nat) (u : Value) : ∀ (rs : List (Nat × List Nat)) (us : List Value), us.length = rs.length → encW (rs ++ [r]) (us ++ [u]) = encW rs us ++ [.int .u32 r.1, u]
  | [], [], _ => rfl
  | q :: rs, v :: us, h => by rw [List.cons_append, List.cons_append, encW, encW_snoc r u rs us (by simpa using h)]; rfl
  | [], u :: us, h => by simp at h
  | r :: rs, [], h => by simp at h
theorem encW_at : ∀ (rs : List (Nat × List Nat)) (us : List Value), us.length = rs.length → ∀ k, k < rs.length → (encW rs us)[k * 2]? = some (.int .u32 (rs.getD k (0, [])).1) ∧ (encW rs us)[k * 2 + 1]? = us[k]?
  | [], _, _, k, hk => by simp at hk
  | r :: rs, [], h, k, hk => by simp at h
  | r :: rs, u :: us, h, 0, hk => ⟨rfl, rfl⟩
  | r :: rs, u :: us, h, k + 1, hk => by
    obtain ⟨h1, h2⟩ := encW_at rs us (by simpa using h) k (by simpa using hk)
    have e : (k + 1) * 2 = k * 2 + 1 + 1 := by omega
    rw [e, encW]
    exact ⟨h1, h2⟩
structure RunsOwn (w : World) (B : Nat) (v : Value) (rs : List (Nat × List Nat)) (us : List Value) : Prop where
  row : w.ownsRow B 170 2 v rs.length (encW rs us)
  ul : us.length = rs.length
  ub : ∀ (k : Nat) (u : Value), us[k]? = some u → w.ownsRow B 5 1 u (rs.getD k (0, [])).2.length (encN .u8 (rs.getD k (0, [])).2)
theorem RunsOwn.below {w w' : World} {B : Nat} {v : Value} {rs : List (Nat × List Nat)} {us : List Value} (h : RunsOwn w B v rs us) (hb : Below w.heap.size w w') : RunsOwn w' B v rs us :=
  ⟨own_below h.row hb, h.ul, fun k u hk => own_below (h.ub k u hk) hb⟩
theorem own_apart {w : World} {B B' e e' sz sz' n n' : Nat} {v v' : Value} {xs xs' : List Value} (h : w.ownsRow B e sz v n xs) (h' : w.ownsRow B' e' sz' v' n' xs') (hne : e ≠ e') :
    ∀ g, v.ownBlock = some g → v'.ownBlock ≠ some g := by
  intro g hg hg'
  rcases h.2 with ⟨rfl, _⟩ | ⟨q, cap, cur, rfl, _, hq, _⟩
  · cases hg
  rcases h'.2 with ⟨rfl, _⟩ | ⟨q', cap', cur', rfl, _, hq', _⟩
  · cases hg'
  simp only [Value.ownBlock, Option.some.injEq] at hg hg'
  rw [hg] at hq
  rw [hg', hq] at hq'
  simp only [Option.some.injEq, Obj.cells.injEq] at hq'
  exact hne hq'.2.1
theorem RunsOwn.snoc {W W9 : World} {B : Nat} {v v9 u : Value} {rs : List (Nat × List Nat)} {us : List Value} {r : Nat × List Nat} (h : RunsOwn W B v rs us) (hu : W.ownsRow B 5 1 u r.2.length (encN .u8 r.2)) (hg : Grew W W9 v v9)
    (ho : W9.ownsRow B 170 2 v9 (rs.length + 1) (encW rs us ++ [.int .u32 r.1, u])) : RunsOwn W9 B v9 (rs ++ [r]) (us ++ [u]) := by
  refine ⟨by rw [List.length_append, encW_snoc r u rs us h.ul]; exact ho, by simp [h.ul], fun k u' hk => ?_⟩
  have hul := h.ul
  by_cases hlt : k < us.length
  · rw [List.getElem?_append_left hlt] at hk
    rw [show (rs ++ [r]).getD k (0, []) = rs.getD k (0, []) from by rw [List.getD_eq_getElem?_getD, List.getElem?_append_left (by omega), ← List.getD_eq_getElem?_getD]]
    exact own_grew (h.ub k u' hk) hg (own_apart (h.ub k u' hk) h.row (by decide))
  · have hkl : k < (us ++ [u]).length := (List.getElem?_eq_some_iff.1 hk).1
    obtain rfl : k = us.length := by simp at hkl; omega
    rw [List.getElem?_append_right (Nat.le_refl _), Nat.sub_self] at hk
    simp only [List.getElem?_cons_zero, Option.some.injEq] at hk
    subst hk
    rw [show (rs ++ [r]).getD us.length (0, []) = r from by rw [List.getD_eq_getElem?_getD, List.getElem?_append_right (by omega), hul, Nat.sub_self]; rfl]
    exact own_grew hu hg (own_apart hu h.row (by decide))
theorem inf383 : (Tryz.prog.info? 170).map (fun i => (i.zero, i.size, i.bytes)) = some (some (.agg #[.int .u32 0, .slice none 0 0]), 2, 32) := by kernel_rfl
theorem run_b383 (x : Int) (w : World) : (Instr.build 170 #[(0, .int .u32 x)]).run Tryz.prog w = .ok (.agg #[.int .u32 x, .slice none 0 0]) w := by kernel_rfl
theorem bs160_1 (x : Int) (a : Option Addr) (n c : Nat) (w : World) : (Instr.buildSlice 164 1 #[(0, .agg #[.int .u32 x, .slice a n c])]).run Tryz.prog w = .ok (.slice (some ⟨w.heap.size, 0, none⟩) 1 1) (w.alloc (.cells #[.int .u32 x, .slice a n c] 170)) := by kernel_rfl
theorem cells383 {w : World} {g : Nat} {a b : Value} (h : w.heap[g]? = some (.cells #[a, b] 170 (0, 0))) : (w.cell? ⟨g, 0, none⟩ = some a ∧ w.cell? ⟨g, 1, none⟩ = some b) ∧ ∀ j, w.frozen? ⟨g, j, none⟩ = false :=
  ⟨⟨cell_of_row w g 0 _ _ _ h, cell_of_row w g 1 _ _ _ h⟩, fun j => frozen_of_row w g j _ _ h⟩
theorem runsTo_eq {a b : List Nat} {k : Nat} (h : a.getD k 0 = b.getD k 0) {rs : List (Nat × List Nat)} {o : Option (Nat × List Nat)} (hs : runsTo a b k = (rs, o)) : runsTo a b (k + 1) = (closeR (rs, o), none) := by
  unfold runsTo runStep closeR
  rw [hs, if_pos h]
  cases o <;> rfl
def nextR (k x : Nat) : Option (Nat × List Nat) → Nat × List Nat
  | none => (k, [x])
  | some r => (r.1, r.2 ++ [x])
theorem runsTo_ne {a b : List Nat} {k : Nat} (h : a.getD k 0 ≠ b.getD k 0) {rs : List (Nat × List Nat)} {o : Option (Nat × List Nat)} (hs : runsTo a b k = (rs, o)) :
    runsTo a b (k + 1) = (rs, some (nextR k (b.getD k 0) o)) := by
  unfold runsTo runStep
  rw [hs, if_neg h]
  cases o <;> rfl
theorem int_beq_ne {a b : Nat} (h : a ≠ b) : (((a : Nat) : Int) == ((b : Nat) : Int)) = false := beq_eq_false_iff_ne.2 (fun h' => h (Int.ofNat_inj.1 h'))
set_option maxRecDepth 100000 in
set_option maxHeartbeats 4000000 in
theorem runs_any (v1 v2 : Value) (a b : List Nat) (hl : a.length = b.length) (hn : a.length ≤ 65536) (w : World) (h1 : Bytes w v1 a) (h2 : Bytes w v2 b) :
    Calls Tryz.prog 93 #[v1, v2] w fun e w' => ∃ v us, e = .returned (.tuple #[v, .int .i64 0]) ∧ RunsOwn w' w.heap.size v (runsN a b) us ∧ Below w.heap.size w w' := by
  obtain ⟨i383, hi383, hi3830, hi3831, hi3832⟩ := info_parts inf383
  obtain ⟨i5, hi5, hi50, hi51, hi52⟩ := info_parts inf5
  have hb383 := run_b383
  have hbs := bs160_1
  have hbs1 := bs24_1
  obtain ⟨a1, c1, rfl, -, hm1, -, hp1⟩ := h1.opened
  obtain ⟨a2, c2, rfl, -, hm2, -, hp2⟩ := h2.opened
  have P1 := Lib.hid hp1
  have P2 := Lib.hid hp2
  have X1 := Lib.hid h1.lt
  have X2 := Lib.hid h2.lt
  have HRN := Lib.hid (show runsN a b = closeR (runsTo a b a.length) from rfl)
  rw [← hl]
  rw [← hl] at P2
  clear hp1 hp2 h1 h2 hm1 hm2
  generalize hnn : a.length = n at *
  have Hnn := Lib.hid hnn
  clear hnn hl
  go_enter Tryz.func93, Tryz.ntmps93
  go_wp2_with fail
  refine wp_scope_straight ?_
  go_wp2_with fail
  refine wp_label ?_
  go_wp2_with fail
  go_loopw [6, 7] (fun v i wr => ∃ (k : Nat) (rs : List (Nat × List Nat)) (us : List Value), i = .int .i64 k ∧ k ≤ n + 1 ∧ rs.length ≤ k ∧ ((k ≤ n ∧ runsTo a b k = (rs, none)) ∨ (k = n + 1 ∧ rs = runsN a b)) ∧ RunsOwn wr w.heap.size v rs us ∧ Below w.heap.size w wr) (fun _ i _ => n + 1 - (intOf i).toNat)
  case atStart => exact ⟨0, [], [], rfl, by omega, Nat.le_refl _, .inl ⟨Nat.zero_le _, rfl⟩, ⟨World.ownsRow_nil _ _ _ _, rfl, fun k u h => by simp at h⟩, Below.refl _ _⟩
  case round =>
    obtain ⟨k, rs, us, rfl, hk1, hrl, hst, ho, hb⟩ := hrel
    obtain ⟨wo, rfl⟩ : ∃ wo : World, wo = wr := ⟨_, rfl⟩
    have HO := Lib.hid ho
    have HB := Lib.hid hb
    clear ho hb
    by_cases hlt : k < n
    · have HS := Lib.hid (hst.resolve_right (by omega)).2
      obtain ⟨b1, o1, rfl, hb1, hc1⟩ := P1.out (by omega)
      obtain ⟨b2, o2, rfl, hb2, hc2⟩ := P2.out (by omega)
      have y1 := (HB.out.cell (p := ⟨b1, o1 + k, none⟩) hb1).trans (hc1 k hlt)
      have y2 := (HB.out.cell (p := ⟨b2, o2 + k, none⟩) hb2).trans (hc2 k hlt)
      have C1 := Lib.hid hc1
      have C2 := Lib.hid hc2
      have hki : (k : Int) < (n : Int) := by omega
      have hk0 : (0 : Int) ≤ (k : Int) := by omega
      have hso := HB.out.size
      clear hc1 hc2 hst
      by_cases heq : a.getD k 0 = b.getD k 0
      · have HS2 := Lib.hid (runsTo_eq heq HS.out)
        rw [heq] at y1
        clear heq
        generalize b.getD k 0 = x at y1 y2
        go_wp2_with fail
        go_quiet (fail)
        go_wp2
        go_roundw
        case rel => exact ⟨k + 1, rs, us, by go_num, by omega, by omega, .inl ⟨by omega, HS2.out⟩, HO.out.below (below_drewN (Below.refl _ _) nq), below_drewN HB.out nq⟩
        case measure => simp [intOf]; omega
      · have HNe := Lib.hid heq
        have hne := int_beq_ne heq
        have hw : IntKind.u32.wrap (k : Int) = (k : Int) := by rw [IntKind.wrap_u32]; omega
        clear heq
        generalize a.getD k 0 = x1 at y1 hne
        generalize b.getD k 0 = x2 at y2 hne
        go_wp2_with fail
        go_quiet (fail)
        obtain ⟨Wn, hWn⟩ : ∃ Wn, Wn = wo.drewN nq := ⟨_, rfl⟩
        rw [← hWn]
        have hbn : Below wo.heap.size wo Wn := by rw [hWn]; exact below_drewN (Below.refl _ _) nq
        obtain ⟨Wp, hWp⟩ : ∃ Wp, Wp = Wn.alloc (.cells #[.int .u32 k, .slice none 0 0] 170) := ⟨_, rfl⟩
        have HBp : Hid (Below Wn.heap.size Wn Wp) := Lib.hid (by rw [hWp]; exact Bel.new _ _)
        have HHp : Hid (Wp.heap[Wn.heap.size]? = some (.cells #[.int .u32 k, .slice none 0 0] 170 (0, 0))) := Lib.hid (by rw [hWp]; exact heap_alloc_new _ _)
        have hsp : Wn.heap.size < Wp.heap.size := by rw [hWp]; simp
        have HOn := Lib.hid (HO.out.below hbn)
        have HBn := Lib.hid (Bel.tr HB.out hbn)
        have hson := HBn.out.size
        clear hWn hbn
        go_wp2_with fail
        rw [← hWp]
        clear hWp
        go_loopw [6, 7] (fun v i W => ∃ (j : Nat) (u : Value) (bs : List Nat), v = u6 ∧ i = .int .i64 j ∧ k ≤ j ∧ j ≤ n ∧ bs.length = j - k ∧ ((j = k ∧ runsTo a b j = (rs, none)) ∨ (k < j ∧ runsTo a b j = (rs, some (k, bs)))) ∧
          W.heap[Wn.heap.size]? = some (.cells #[.int .u32 k, u] 170 (0, 0)) ∧ W.ownsRow (Wn.heap.size + 1) 5 1 u bs.length (encN .u8 bs) ∧ Below Wn.heap.size Wn W) (fun _ i _ => n - (intOf i).toNat)
        case atStart => exact ⟨k, .slice none 0 0, [], rfl, rfl, Nat.le_refl _, by omega, by simp, .inl ⟨rfl, HS.out⟩, HHp.out, World.ownsRow_nil _ _ _ _, HBp.out⟩
        case round =>
          obtain ⟨j, u, bs, rfl, rfl, hj1, hj2, hbl, hst2, hh, hr, hb3⟩ := hrel
          obtain ⟨W, rfl⟩ : ∃ W : World, W = wr := ⟨_, rfl⟩
          have HBL := Lib.hid hbl
          have HH := Lib.hid hh
          have HR := Lib.hid hr
          have HB3 := Lib.hid hb3
          have HB4 := Lib.hid (Bel.tr HBn.out hb3)
          obtain ⟨⟨r0, r1⟩, rf⟩ := cells383 hh
          have hzr : Wn.heap.size < W.heap.size := World.block_lt_of_cell? _ _ r0
          have HOw := Lib.hid (HOn.out.below hb3)
          clear hh hr hb3 hbl
          by_cases hjn : j < n
          · have z1 := (HB4.out.cell (p := ⟨b1, o1 + j, none⟩) hb1).trans (C1.out j hjn)
            have z2 := (HB4.out.cell (p := ⟨b2, o2 + j, none⟩) hb2).trans (C2.out j hjn)
            have hji : (j : Int) < (n : Int) := by omega
            have hj0 : (0 : Int) ≤ (j : Int) := by omega
            by_cases hq : a.getD j 0 = b.getD j 0
            · have hkj : k < j := by
                rcases hst2 with ⟨e, _⟩ | ⟨e, _⟩
                · exact absurd (e ▸ hq) HNe.out
                · exact e
              have HS2 := Lib.hid (runsTo_eq hq (hst2.resolve_left (by omega)).2)
              obtain ⟨g, c, hug, hgc, hcm, hgl, hgx⟩ := own_form (own_base HR.out) (by have := HBL.out; omega)
              subst hug
              have HR2 := Lib.hid (own_downT HR.out (show w.heap.size ≤ Wn.heap.size + 1 by omega))
              have HRow := Lib.hid (own_base HOw.out.row)
              have HV := Lib.hid (show ∀ g', u6.ownBlock = some g' → w.heap.size ≤ g' from fun g' e => (HOw.out.row.lt g' e).1)
              rw [hq] at z1
              clear hq hst2 hgx
              generalize b.getD j 0 = x at z1 z2
              go_wp2_with fail
              go_quiet (fail)
              obtain ⟨Wq, hWq⟩ : ∃ Wq, Wq = W.drewN nq := ⟨_, rfl⟩
              have hbq : Below W.heap.size W Wq := by rw [hWq]; exact below_drewN (Below.refl _ _) nq
              have t0 := (hbq.cell (p := ⟨Wn.heap.size, 0, none⟩) hzr).trans r0
              have t1 := (hbq.cell (p := ⟨Wn.heap.size, 1, none⟩) hzr).trans r1
              have HRowq := Lib.hid (own_below HRow.out hbq)
              have HOq := Lib.hid (HOw.out.below hbq)
              have HR2q := Lib.hid (own_below HR2.out hbq)
              have HB5 := Lib.hid (Bel.tr HB4.out hbq)
              rw [← hWq]
              clear hWq hbq r0 r1 rf z1 z2
              go_wp2_with ((with_reducible refine wpList_append1B (o := ⟨some 50, .call { callee := .builtin .append, args := #[.tmp 47, .tmp 49], argTypes := #[164, 164] }, _, _, _, none⟩) rfl _ _ 164 rfl 170 i383 (.agg #[.int .u32 0, .slice none 0 0]) 2 32 Tryz.underlying164 hi383 hi3830 hi3831 hi3832 ?_ ?_ _ _ _ HRowq.out _ _ Wq.heap.size ?_ ?_ ?_ ?_ ?_ ?_ ?_ ?_); rfl; decide; rfl; rfl; rfl; rfl; (simp [Value.oneCell']); (unfold maxLen; omega); omega; intro g9 c9 w9 o9 r9 hl9)
              go_roundw
              case rel => exact ⟨j + 1, rs ++ [(k, bs)], us ++ [_], by go_num, by omega, by simp; omega, .inl ⟨by omega, HS2.out⟩, HOq.out.snoc (r := (k, bs)) HR2q.out r9 (own_from o9 (fun g' e => by
                  rcases r9.2 g' e with h' | h'
                  · exact HV.out g' h'
                  · have := HB5.out.size; omega)), HB5.out.grown r9.1 HB5.out.size (fun g' e => HV.out g' e)⟩
              case measure => simp [intOf]; omega
            · have HS2 : Hid (runsTo a b (j + 1) = (rs, some (k, bs ++ [b.getD j 0]))) := Lib.hid (by
                rcases hst2 with ⟨e, hs⟩ | ⟨e, hs⟩
                · have := runsTo_ne hq hs
                  unfold nextR at this
                  rw [this, e]
                  have : bs = [] := List.eq_nil_of_length_eq_zero (by have := HBL.out; omega)
                  rw [this]; rfl
                · exact runsTo_ne hq hs)
              have hne2 := int_beq_ne hq
              have hu := Lib.hid (fun g e => (HR.out.lt g e).1 : ∀ g, u.ownBlock = some g → Wn.heap.size + 1 ≤ g)
              obtain ⟨ua, uc, rfl, -⟩ := own_sl HR.out
              have h63 : bs.length + 1 ≤ maxLen := by have := HBL.out; unfold maxLen; omega
              have h47 : (bs.length + 1) * 1 ≤ 140737488355328 := by have := HBL.out; omega
              clear hst2
              generalize a.getD j 0 = x1 at z1 hne2
              generalize b.getD j 0 = x2 at z2 hne2 HS2
              go_wp2_with fail
              go_quiet (fail)
              obtain ⟨Wq, hWq⟩ : ∃ Wq, Wq = W.drewN nq := ⟨_, rfl⟩
              have hbq : Below W.heap.size W Wq := by rw [hWq]; exact below_drewN (Below.refl _ _) nq
              have HHq := Lib.hid ((hbq.block Wn.heap.size hzr).trans HH.out)
              have HRd := Lib.hid (own_below (own_below HR.out hbq) (Below.refl _ _).drew)
              have HHd : Hid (Wq.drew.heap[Wn.heap.size]? = some (.cells #[.int .u32 k, .slice ua bs.length uc] 170 (0, 0))) := HHq
              have z3 := (hbq.cell (p := ⟨b2, o2 + j, none⟩) (show b2 < _ by have := HB4.out.size; omega)).trans z2
              have HB5 := Lib.hid (Bel.tr HB3.out hbq)
              have hzq : Wn.heap.size < Wq.heap.size := Nat.lt_of_lt_of_le hzr hbq.size
              obtain ⟨⟨t0, t1⟩, tf⟩ := cells383 HHq.out
              rw [← hWq]
              clear hWq hbq r0 r1 rf z1 z2
              go_wp2_with fail
              go_region_law ((refine step_append_grew rfl (.tmp 52) (.tmp 57) 24 rfl 5 i5 (.int .u8 0) 1 1 Tryz.underlying24 hi5 hi50 hi51 hi52 rfl (by decide) _ _ _ rfl (own_base (own_below HRd.out (Bel.new _ _))) ⟨_, 0, none⟩ 1 1 [_] rfl rfl (news_new _ #[_] 5) ?_ ?_ ?_ ?_; exact one_IJ _ _; exact h63; exact h47; intro v3 w3 hr3 hg3 hn3; have hh3 := (hg3.1.block Wn.heap.size (by simp; omega) (fun e => by have := hu.out _ e.symm; omega)).trans ((Below.heap_alloc Wq.drew _ _ hzq).trans HHd.out); obtain ⟨⟨x0, x1'⟩, xf⟩ := cells383 hh3; obtain ⟨g3, c3, hv3, hb3, hl3⟩ := own_start hr3 (Nat.succ_pos _); have HH3 := Lib.hid hh3; have HR3 := Lib.hid hr3; have HG3 := Lib.hid hg3; subst hv3; clear hh3 hr3 hg3 hn3))
              all_goals
                go_wp2
                go_roundw
                case rel => exact ⟨j + 1, _, bs ++ [x2], rfl, by go_num, by omega, by omega, by have := HBL.out; simp; omega, .inr ⟨by omega, HS2.out⟩, heap_setCell_same w3 Wn.heap.size 1 _ _ _ HH3.out,
                  ownsRow_setCell_below (own_from (by rw [encN_append, List.length_append]; exact HR3.out) (fun g e => (HG3.out.2 g e).elim (hu.out g) (fun h1 => by simp at h1; omega))) (by show Wn.heap.size < _; omega) _,
                  (((HB5.out.drew).alloc (by have := HB5.out.size; simpa using this) _).grown HG3.out.1 (by have := HB5.out.size; simp; omega) (fun g e => by have := hu.out g e; omega)).setCell (p := ⟨Wn.heap.size, 1, none⟩) (Nat.le_refl _) _⟩
                case measure => simp [intOf]; omega
          · obtain rfl : j = n := by omega
            have hs2 := (hst2.resolve_left (by omega)).2
            have HS2 : Hid (rs ++ [(k, bs)] = runsN a b) := Lib.hid (by rw [HRN.out, hs2]; rfl)
            obtain ⟨g, c, hug, hgc, hcm, hgl, hgx⟩ := own_form (own_base HR.out) (by have := HBL.out; omega)
            subst hug
            have HR2 := Lib.hid (own_downT HR.out (show w.heap.size ≤ Wn.heap.size + 1 by omega))
            have HRow := Lib.hid (own_base HOw.out.row)
            have HV := Lib.hid (show ∀ g', u6.ownBlock = some g' → w.heap.size ≤ g' from fun g' e => (HOw.out.row.lt g' e).1)
            clear hst2 hgx hs2
            go_wp2_with ((with_reducible refine wpList_append1B (o := ⟨some 63, .call { callee := .builtin .append, args := #[.tmp 60, .tmp 62], argTypes := #[164, 164] }, _, _, _, none⟩) rfl _ _ 164 rfl 170 i383 (.agg #[.int .u32 0, .slice none 0 0]) 2 32 Tryz.underlying164 hi383 hi3830 hi3831 hi3832 ?_ ?_ _ _ _ HRow.out _ _ W.heap.size ?_ ?_ ?_ ?_ ?_ ?_ ?_ ?_); rfl; decide; rfl; rfl; rfl; rfl; (simp [Value.oneCell']); (unfold maxLen; omega); omega; intro g9 c9 w9 o9 r9 hl9)
            go_roundw
            case rel => exact ⟨j + 1, rs ++ [(k, bs)], us ++ [_], by go_num, by omega, by simp; omega, .inr ⟨rfl, HS2.out⟩, HOw.out.snoc (r := (k, bs)) HR2.out r9 (own_from o9 (fun g' e => by
                rcases r9.2 g' e with h' | h'
                · exact HV.out g' h'
                · have := HB4.out.size; omega)), HB4.out.grown r9.1 HB4.out.size (fun g' e => HV.out g' e)⟩
            case measure => simp [intOf]; omega
    · have HE : Hid (rs = runsN a b) := Lib.hid (by
        rcases hst with ⟨h1, h2⟩ | ⟨_, h2⟩
        · obtain rfl : k = n := by omega
          rw [HRN.out, h2]; rfl
        · exact h2)
      have hge : ¬ (k : Int) < (n : Int) := by omega
      clear hst
      go_wp2_with fail
      go_ret2
      exact ⟨_, us, rfl, by rw [← HE.out]; exact HO.out, HB.out⟩
theorem mendOk_append (n : Nat) (m : List (Nat × List Nat)) : ∀ (l : List (Nat × List Nat)) (last : Nat), mendOk n last (l ++ m) = (mendOk n last l && mendOk n (endR last l) m)
  | [], last => by simp [mendOk, endR]
  | r :: l, last => by
    have := mendOk_append n m l (r.1 + r.2.length)
    rw [List.cons_append, mendOk, this, mendOk, show endR last (r :: l) = endR (r.1 + r.2.length) l from rfl]
    simp only [Bool.and_assoc]
structure RunsAt (w : World) (v : Value) (rs : List (Nat × List Nat)) (us : List Value) : Prop where
  row : Reads w 2 v rs.length (encW rs us)
  ul : us.length = rs.length
  ub : ∀ (k : Nat) (u : Value), us[k]? = some u → Bytes w u (rs.getD k (0, [])).2
  lt : ∀ k, (rs.getD k (0, [])).1 < 4294967296
theorem RunsAt.below {w w' : World} {v : Value} {rs : List (Nat × List Nat)} {us : List Value} (h : RunsAt w v rs us) (hb : Below w.heap.size w w') : RunsAt w' v rs us :=
  ⟨h.row.below hb, h.ul, fun k u hk => (h.ub k u hk).below hb, h.lt⟩
theorem RunsOwn.at {w : World} {B : Nat} {v : Value} {rs : List (Nat × List Nat)} {us : List Value} (h : RunsOwn w B v rs us) (hlt : ∀ r ∈ rs, r.1 < 4294967296 ∧ ∀ x ∈ r.2, x < 256) : RunsAt w v rs us := by
  have key : ∀ k, (rs.getD k (0, [])).1 < 4294967296 ∧ ∀ x ∈ (rs.getD k (0, [])).2, x < 256 := fun k => by
    rw [List.getD_eq_getElem?_getD]
    cases hk : rs[k]? with
    | none => exact ⟨by decide, fun x hx => by cases hx⟩
    | some r => exact hlt r (List.mem_of_getElem? hk)
  exact ⟨Reads.own (own_base h.row) (by decide), h.ul, fun k u hk => own_bytes (h.ub k u hk) (key k).2, fun k => (key k).1⟩
theorem RunsAt.run {w : World} {a : Option Addr} {n c : Nat} {rs : List (Nat × List Nat)} {us : List Value} (h : RunsAt w (.slice a n c) rs us) {k : Nat} (hk : k < rs.length) :
    ∃ b off ua uc, a = some ⟨b, off, none⟩ ∧ b < w.heap.size ∧ w.cell? ⟨b, off + k * 2, none⟩ = some (.int .u32 (rs.getD k (0, [])).1) ∧ w.cell? ⟨b, off + k * 2 + 1, none⟩ = some (.slice ua (rs.getD k (0, [])).2.length uc) ∧
      (rs.getD k (0, [])).2.length ≤ maxLen ∧ Bytes w (.slice ua (rs.getD k (0, [])).2.length uc) (rs.getD k (0, [])).2 := by
  obtain ⟨a', cap, e, hl, hn, hm, -, hp⟩ := h.row
  cases e
  obtain ⟨b, off, e, hb, hc⟩ := hp (by omega)
  have hul := h.ul
  obtain ⟨e1, e2⟩ := encW_at rs us h.ul k hk
  obtain ⟨u, hu⟩ : ∃ u, us[k]? = some u := ⟨_, List.getElem?_eq_getElem (by omega)⟩
  have hb2 := h.ub k u hu
  obtain ⟨ua, uc, rfl, h1, h2, -⟩ := hb2.opened
  refine ⟨b, off, ua, uc, e, hb, (hc (k * 2) (by omega)).trans e1, ?_, by omega, hb2⟩
  rw [Nat.add_assoc, hc (k * 2 + 1) (by omega), e2, hu]
theorem run_build383 (x : Int) (a : Option Addr) (n c : Nat) (w : World) : (Instr.build 170 #[(0, .int .u32 x), (1, .slice a n c)]).run Tryz.prog w = .ok (.agg #[.int .u32 x, .slice a n c]) w := by kernel_rfl
def MendPost (b : List Nat) (rs : List (Nat × List Nat)) (w : World) (e : Ending) (w' : World) : Prop :=
  Below w.heap.size w w' ∧ ((mendOk b.length 0 rs = false ∧ e = .returned (.tuple #[.slice none 0 0, .int .i64 23])) ∨
    (mendOk b.length 0 rs = true ∧ ∃ v, e = .returned (.tuple #[v, .int .i64 0]) ∧ w'.ownsRow w.heap.size 5 1 v b.length (encN .u8 (mendN b rs))))
theorem mend_length {b : List Nat} : ∀ (rs : List (Nat × List Nat)) (last : Nat), mendOk b.length last rs = true → ∀ k, (mendN b (rs.take k)).length = b.length := by
  intro rs last h k
  have key : ∀ (l : List (Nat × List Nat)) (c : List Nat) (last : Nat), c.length = b.length → mendOk b.length last l = true → (mendN c l).length = b.length := by
    intro l
    induction l with
    | nil => intro c last hc _; exact hc
    | cons r l ih =>
      intro c last hc hl
      simp only [mendOk, Bool.and_eq_true, decide_eq_true_eq] at hl
      exact ih (layAt c r) _ ((layAt_length (by omega)).trans hc) hl.2.2.2
  have := mendOk_append b.length (rs.drop k) (rs.take k) last
  rw [List.take_append_drop, h] at this
  exact key _ b last rfl (by
    have := this.symm
    rw [Bool.and_eq_true] at this
    exact this.1)
theorem take_run (rs : List (Nat × List Nat)) {k : Nat} (hk : k < rs.length) : rs.take (k + 1) = rs.take k ++ [rs.getD k (0, [])] := by
  rw [List.take_add_one, List.getElem?_eq_getElem hk, List.getD_eq_getElem?_getD, List.getElem?_eq_getElem hk]; rfl
theorem lay_splice (l : List Nat) (r : Nat × List Nat) : splice (encN .u8 l) r.1 (encN .u8 r.2) = encN .u8 (layAt l r) := by
  unfold splice layAt
  rw [encN_append, encN_append, encN_length]
  simp [encN, List.map_take, List.map_drop]
set_option maxRecDepth 100000 in
set_option maxHeartbeats 4000000 in
theorem mend_any (v rv : Value) (b : List Nat) (rs : List (Nat × List Nat)) (us : List Value) (hb0 : 0 < b.length) (hn : b.length ≤ 65536) (w : World) (hv : Bytes w v b) (hr : RunsAt w rv rs us) :
    Calls Tryz.prog 105 #[v, rv] w (MendPost b rs w) := by
  have hsz5 : (Tryz.prog.info? 5).map (·.size) = some 1 := by kernel_rfl
  have HC := Lib.hid (fun W (hW : Below w.heap.size w W) => cloneC_any v b.length (encN .u8 b) (by omega) (encN_one .u8 b) W (hv.1.below hW))
  obtain ⟨a1, c1, rfl, -, -, -, -⟩ := hv.opened
  obtain ⟨a2, c2, rfl, hrl, -, hrm, -, -⟩ := hr.row
  have hrl9 : rs.length ≤ 9223372036854775807 := by
    have := hr.row
    obtain ⟨_, _, e, _, h1, h2, _⟩ := this
    unfold maxLen at h2; omega
  have HR := Lib.hid hr
  clear hv hr hrl hrm
  go_enter Tryz.func105, Tryz.ntmps105
  go_wp2_with fail
  go_loopw [6, 15] (fun l i wr => ∃ k : Nat, k ≤ rs.length ∧ i = .int .i64 k ∧ l = .int .i64 (endR 0 (rs.take k) : Nat) ∧ endR 0 (rs.take k) ≤ b.length ∧ mendOk b.length 0 (rs.take k) = true ∧ Below w.heap.size w wr) (fun _ i _ => rs.length - (intOf i).toNat)
  case atStart => exact ⟨0, by omega, rfl, rfl, Nat.zero_le _, rfl, Below.refl _ _⟩
  case round =>
    obtain ⟨k, hk, rfl, rfl, hle, hok, hb⟩ := hrel
    have HB := Lib.hid hb
    have HOk := Lib.hid hok
    clear hb hok
    by_cases hlt : k < rs.length
    · obtain ⟨g, off, ua, uc, rfl, hg, r0, r1, hml, hby⟩ := (HR.out.below HB.out).run hlt
      have HS := Lib.hid (mendOk_snoc b.length (rs.getD k (0, [])) (rs.take k) 0)
      have HE := Lib.hid (endR_snoc (rs.getD k (0, [])) (rs.take k) 0)
      have HT := Lib.hid (take_run rs hlt)
      have HA := Lib.hid (mendOk_append b.length (rs.drop (k + 1)) (rs.take (k + 1)) 0)
      rw [← HT.out] at HS HE
      have hx := HR.out.lt k
      have hki : (k : Int) < (rs.length : Int) := by omega
      have hk0 : (0 : Int) ≤ (k : Int) := by omega
      have hml9 : (rs.getD k (0, [])).2.length ≤ 9223372036854775807 := by unfold maxLen at hml; omega
      clear hby hml
      generalize rs.getD k (0, []) = r at *
      obtain ⟨x, bs⟩ := r
      simp only at r0 r1 HS HE hx hml9
      generalize hmm : bs.length = q at *
      generalize hll : endR 0 (rs.take k) = last at *
      have hfalse : mendOk b.length 0 (rs.take (k + 1)) = false → mendOk b.length 0 rs = false := fun h => by
        have := HA.out
        rw [List.take_append_drop, h, Bool.false_and] at this
        exact this
      have HFa := Lib.hid hfalse
      clear hfalse
      by_cases q0 : q = 0
      · have hq : ((q : Int) == 0) = true := by simp; omega
        have HF := Lib.hid (HFa.out (by rw [HS.out, decide_eq_false (by omega), Bool.false_and, Bool.and_false]))
        go_wp2_with fail
        go_ret2
        exact ⟨Bel.al HB.out _, .inl ⟨HF.out, rfl⟩⟩
      · have hq : ((q : Int) == 0) = false := by simp; omega
        by_cases q1 : x < last
        · have HF := Lib.hid (HFa.out (by rw [HS.out, decide_eq_false (show ¬ last ≤ x by omega), Bool.false_and, Bool.and_false, Bool.and_false]))
          go_wp2_with fail
          go_ret2
          exact ⟨Bel.al HB.out _, .inl ⟨HF.out, rfl⟩⟩
        · by_cases q2 : x + q ≤ b.length
          · have HN := Lib.hid (show mendOk b.length 0 (rs.take (k + 1)) = true by rw [HS.out, HOk.out, decide_eq_true q0, decide_eq_true (show last ≤ x by omega), decide_eq_true q2]; rfl)
            have hgt : ¬ ((b.length : Int) - (q : Int) < (x : Int)) := by omega
            go_wp2_with fail
            go_roundw
            case rel => exact ⟨k + 1, by omega, by go_num, by rw [HE.out]; go_num, by rw [HE.out]; exact q2, HN.out, Bel.al HB.out _⟩
            case measure => simp [intOf]; omega
          · have HF := Lib.hid (HFa.out (by rw [HS.out, decide_eq_false q2, Bool.and_false, Bool.and_false, Bool.and_false]))
            have hgt : ((b.length : Int) - (q : Int) < (x : Int)) := by omega
            go_wp2_with fail
            go_ret2
            exact ⟨Bel.al HB.out _, .inl ⟨HF.out, rfl⟩⟩
    · obtain rfl : k = rs.length := by omega
      rw [List.take_length] at HOk
      have HC1 := Lib.hid (HC.out wr HB.out)
      have hge : ¬ ((rs.length : Nat) : Int) < ((rs.length : Nat) : Int) := by omega
      clear HC hle
      go_wp2_with fail
      refine HC1.out.mono ?_
      rintro e w1 ⟨u, rfl, ho1, hb1⟩
      have HB1 := Lib.hid (Bel.tr HB.out hb1)
      have HO1 := Lib.hid (own_downT ho1 HB.out.size)
      have HR1 := Lib.hid (HR.out.below HB1.out)
      obtain ⟨g1, cc, rfl, hg1a, hg1b⟩ := own_start ho1 hb0
      have HML := Lib.hid (mend_length rs 0 HOk.out)
      have Hg1 := Lib.hid hg1a
      clear ho1 hb1 HC1
      go_wp2_with fail
      go_loopw [51] (fun i wr => ∃ k : Nat, k ≤ rs.length ∧ i = .int .i64 k ∧ wr.ownsRow w.heap.size 5 1 (.slice (some ⟨g1, 0, none⟩) b.length cc) b.length (encN .u8 (mendN b (rs.take k))) ∧ Below w.heap.size w wr) (fun i _ => rs.length - (intOf i).toNat)
      case atStart => exact ⟨0, by omega, rfl, HO1.out, HB1.out⟩
      case round =>
        obtain ⟨k, hk, rfl, ho, hb⟩ := hrel
        obtain ⟨wo, rfl⟩ : ∃ wo : World, wo = wr := ⟨_, rfl⟩
        have HO := Lib.hid ho
        have HB2 := Lib.hid hb
        clear ho hb
        by_cases hlt : k < rs.length
        · obtain ⟨g, off, ua, uc, rfl, hg, r0, r1, hml, hby⟩ := (HR.out.below HB2.out).run hlt
          have hT := take_run rs hlt
          have hMN : mendN b (rs.take (k + 1)) = layAt (mendN b (rs.take k)) (rs.getD k (0, [])) := by rw [hT, mendN_snoc]
          have hML := HML.out k
          have hsum2 : (rs.getD k (0, [])).1 + (rs.getD k (0, [])).2.length ≤ b.length ∧ (rs.getD k (0, [])).2.length ≠ 0 := by
            have h1 := mendOk_append b.length (rs.drop (k + 1)) (rs.take (k + 1)) 0
            rw [List.take_append_drop, HOk.out, hT, mendOk_snoc] at h1
            have h2 := h1.symm
            simp only [Bool.and_eq_true, decide_eq_true_eq] at h2
            exact ⟨h2.1.2.2.2, h2.1.2.1⟩
          have hccb : b.length ≤ cc := by
            obtain ⟨gq, cq, eq, hq1, -⟩ := own_form (own_base HO.out) hb0
            cases eq
            exact hq1
          have hx := HR.out.lt k
          have hki : (k : Int) < (rs.length : Int) := by omega
          have hk0 : (0 : Int) ≤ (k : Int) := by omega
          have HMN := Lib.hid hMN
          have HBy := Lib.hid hby
          clear hT hMN hby
          generalize rs.getD k (0, []) = r at *
          obtain ⟨x, bs⟩ := r
          simp only at r0 r1 hsum2 hx HBy hml
          obtain ⟨hsum, hq0⟩ := hsum2
          have hxc : ¬ cc = x := by omega
          obtain ⟨Wp, hWp⟩ : ∃ Wp, Wp = wo.alloc (.cells #[.int .u32 x, .slice ua bs.length uc] 170) := ⟨_, rfl⟩
          have hBp : Below wo.heap.size wo Wp := by rw [hWp]; exact Bel.new _ _
          have hHp : Wp.heap[wo.heap.size]? = some (.cells #[.int .u32 x, .slice ua bs.length uc] 170 (0, 0)) := by rw [hWp]; exact heap_alloc_new _ _
          obtain ⟨⟨p0, p1⟩, -⟩ := cells383 hHp
          obtain ⟨cur, z1, z2, z3, z4, z5, z6⟩ := own_cur (own_below HO.out hBp)
          have HZ : Hid (Wp.drew.heap[g1]? = some (.cells cur.toArray 5 (0, 0))) := Lib.hid z1
          have HZ5 := Lib.hid z5
          have HByp := Lib.hid (HBy.out.below hBp)
          have hone := encN_one .u8 bs
          have hcl : (encN .u8 bs).length = Nat.min bs.length (b.length - x) := by rw [encN_length]; exact (Nat.min_eq_left (by omega)).symm
          have hfit : x + (encN .u8 bs).length ≤ cur.length := by rw [encN_length]; omega
          have HSrc := Lib.hid (show 0 < (encN .u8 bs).length → ∃ ad, ua = some ad ∧ ∀ j v, (encN .u8 bs)[j]? = some v → Wp.drew.cell? (ad.add j) = some v from fun h0 => by
            rw [encN_length] at h0
            obtain ⟨a', c', e, hl', hn', hm', -, hp'⟩ := HByp.out.1
            cases e
            obtain ⟨gb, ob, rfl, hgb, hcb⟩ := hp' h0
            exact ⟨_, rfl, fun j v hj => by
              rw [Addr.add_mid]; exact (hcb j (List.getElem?_eq_some_iff.1 hj).1).trans hj⟩)
          have HBd := Lib.hid (show Below w.heap.size w Wp.drew from (Bel.tr HB2.out hBp).drew)
          have hx0 : (0 : Int) ≤ (x : Int) := by omega
          have hx1 : (x : Int) ≤ (b.length : Int) := by omega
          have hlen1 := encN_length .u8 (mendN b (rs.take k))
          clear hHp hBp z1 z5 hml
          go_wp2_with fail
          rw [← hWp]
          clear hWp r0 r1
          go_region_law (refine step_copy_splice rfl (.tmp 58) (.tmp 60) 24 24 rfl 5 Tryz.underlying24 hsz5 (some ⟨g1, x, none⟩) ua (b.length - x) (cc - x) bs.length uc (by simp [Act.eval, Act.put]; try omega) (by simp [Act.eval, Act.put]) g1 x cur 5 HZ.out (encN .u8 bs) hcl (fun h0 => ⟨rfl, HSrc.out h0⟩) hfit hone w.heap.size w HBd.out z6 ?_; intro w4 hg4 hb4)
          all_goals
            have HF := Lib.hid (show w4.ownsRow w.heap.size 5 1 (.slice (some ⟨g1, 0, none⟩) b.length cc) b.length (encN .u8 (mendN b (rs.take (k + 1)))) from by
              rw [HMN.out, ← lay_splice]
              have := own_splice (by rw [hlen1, hML]) z2 z3 z4 HZ5.out z6 hg4.out (by rw [encN_length]; exact hsum)
              exact this)
            have HB4 := Lib.hid hb4
            clear hg4 hb4
            try simp [Act.put]
            go_wp2
            go_roundw
            case rel => exact ⟨k + 1, by omega, by go_num, HF.out, HB4.out⟩
            case measure => simp [intOf]; omega
        · obtain rfl : k = rs.length := by omega
          rw [List.take_length] at HO
          have hge2 : ¬ ((rs.length : Nat) : Int) < ((rs.length : Nat) : Int) := by omega
          go_wp2_with fail
          go_ret2
          exact ⟨HB2.out, .inr ⟨HOk.out, _, rfl, HO.out⟩⟩
theorem ModAt.below {W W' : World} {B mb : Nat} {m : Img} (h : ModAt W B mb m) (hb : Below W.heap.size W W') : ModAt W' B mb m := by
  obtain ⟨h0, tb, b, vm, uc, vd, uj, ud, un, hm, ht, ⟨c0, c1, c2, c3, c4, c5, c6, c7, c8, c9, c10, c11⟩, hi, ⟨B', hB, hf⟩, hd, hv⟩ := h
  have hl := World.block_lt_of_cell? _ _ hm
  have hl2 := World.block_lt_of_cell? _ _ c0
  exact ⟨h0, tb, b, vm, uc, vd, uj, ud, un, (hb.cell (p := ⟨mb, 0, none⟩) hl).trans hm, ht,
    ⟨(hb.cell (p := ⟨tb, 0, none⟩) hl2).trans c0, (hb.cell (p := ⟨tb, 1, none⟩) hl2).trans c1, (hb.cell (p := ⟨tb, 2, none⟩) hl2).trans c2, (hb.cell (p := ⟨tb, 3, none⟩) hl2).trans c3, (hb.cell (p := ⟨tb, 4, none⟩) hl2).trans c4, (hb.cell (p := ⟨tb, 5, none⟩) hl2).trans c5, (hb.cell (p := ⟨tb, 6, none⟩) hl2).trans c6, (hb.cell (p := ⟨tb, 7, none⟩) hl2).trans c7, (hb.cell (p := ⟨tb, 8, none⟩) hl2).trans c8, (hb.cell (p := ⟨tb, 9, none⟩) hl2).trans c9, (hb.cell (p := ⟨tb, 10, none⟩) hl2).trans c10, (hb.cell (p := ⟨tb, 11, none⟩) hl2).trans c11⟩,
    hi.below hb, ⟨B', hB, hf.below hb⟩, own_below hd hb, own_below hv hb⟩
theorem all_mod (mb tb : Nat) (w : World) (h : w.cell? ⟨mb, 0, none⟩ = some (.pointer (some ⟨tb, 0, none⟩))) :
    Calls Tryz.prog 49 #[.pointer (some ⟨mb, 0, none⟩)] w fun e w' => e = .returned (.pointer (some ⟨tb, 0, none⟩)) ∧ w = w' := by
  go_enter Tryz.func49, Tryz.ntmps49
  go_wp2_with fail
  go_ret
  exact ⟨rfl, rfl⟩
theorem bitsOf_any (mb : Nat) (m : Img) (B : Nat) (w : World) (h : ModAt w B mb m) :
    Calls Tryz.prog 21 #[.pointer (some ⟨mb, 0, none⟩)] w fun e w' => e = .returned (.int .i64 (bitsI m)) ∧ w = w' := by
  obtain ⟨h0, tb, b, vm, uc, vd, uj, ud, un, hm, ht, ⟨c0, c1, c2, c3, c4, c5, c6, c7, c8, c9, c10, c11⟩, hi, ⟨B', hB, hf⟩, hd, hv⟩ := h
  have HA := Lib.hid (all_mod mb tb w hm)
  clear hi hf hd hv
  go_enter Tryz.func21, Tryz.ntmps21
  go_wp2_with fail
  refine HA.out.mono ?_
  rintro e w1 ⟨rfl, rfl⟩
  go_wp2_with fail
  go_ret
  exact ⟨rfl, rfl⟩
def depthAt (D : List Int) (i : Nat) : Int := D.getD i (-1)
set_option maxRecDepth 100000 in
set_option maxHeartbeats 1000000 in
theorem depth_any (xa : Option Addr) (xn xc : Nat) (D : List Int) (i : Nat) (hi : i < 4294967296) (w : World) (B : Nat) (v : Value) (h : w.ownsRow B 3 1 v D.length (encZ D)) :
    Calls Tryz.prog 51 #[.agg #[.slice xa xn xc, v], .int .u32 i] w fun e w' => e = .returned (.int .i64 (depthAt D i)) ∧ Below w.heap.size w w' := by
  obtain ⟨sa, sc, rfl, hnc, hcm, hp⟩ := own_sl h
  have hl : (encZ D).length = D.length := by simp [encZ]
  have hm : D.length ≤ 9223372036854775807 := by unfold maxLen at hcm; omega
  have hu1 : IntKind.u64.wrap ((i : Nat) : Int) = ((i : Nat) : Int) := by rw [IntKind.wrap_u64]; omega
  have hu2 : IntKind.u64.wrap ((D.length : Nat) : Int) = ((D.length : Nat) : Int) := by rw [IntKind.wrap_u64]; omega
  by_cases hlt : i < D.length
  · obtain ⟨g, rfl, hg, hc⟩ := hp (by omega)
    have hci := hc i (by omega)
    have hge : ¬ ((D.length : Int) ≤ (i : Int)) := by omega
    have hki : (i : Int) < (D.length : Int) := by omega
    have hk0 : (0 : Int) ≤ (i : Int) := by omega
    have hz : (encZ D)[i]? = some (.int .i64 (depthAt D i)) := by
      simp [encZ, depthAt, List.getD_eq_getElem?_getD, hlt]
    have hcell := hci.trans hz
    have hcell' := ((Bel.new w (.cells #[.slice xa xn xc, .slice (some ⟨g, 0, none⟩) D.length sc] 97)).cell (p := ⟨g, i, none⟩) hg).trans hcell
    clear hp hc hci hz h
    go_enter Tryz.func51, Tryz.ntmps51
    go_wp2_with fail
    go_ret
    exact ⟨rfl, Bel.new w _⟩
  · have hge : (D.length : Int) ≤ (i : Int) := by omega
    have hz : depthAt D i = -1 := by
      unfold depthAt
      rw [List.getD_eq_getElem?_getD, List.getElem?_eq_none (by omega)]
      rfl
    rw [hz]
    clear hp h
    go_enter Tryz.func51, Tryz.ntmps51
    go_wp2_with fail
    go_ret
    exact ⟨rfl, Bel.new w _⟩
theorem depthOf_any (mb : Nat) (m : Img) (B : Nat) (w : World) (h : ModAt w B mb m) (i : Nat) (hi : i < 4294967296) :
    Calls Tryz.prog 27 #[.pointer (some ⟨mb, 0, none⟩), .int .u32 i] w fun e w' => e = .returned (.int .i64 (depthAt (flowN m.code m.js).1 i)) ∧ Below w.heap.size w w' := by
  obtain ⟨h0, tb, b, vm, uc, vd, uj, ud, un, hm, ht, ⟨c0, c1, c2, c3, c4, c5, c6, c7, c8, c9, c10, c11⟩, hio, ⟨B', hB, hf⟩, hd, hv⟩ := h
  have HA := Lib.hid (all_mod mb tb w hm)
  obtain ⟨a1, n1, rfl, -⟩ := own_sl hio.c
  have HD := Lib.hid (depth_any a1 m.code.length n1 (flowN m.code m.js).1 i hi w B vd hd)
  obtain ⟨a2, n2, rfl, -⟩ := own_sl hd
  generalize (flowN m.code m.js).1 = D at *
  clear hio hf hd hv
  go_enter Tryz.func27, Tryz.ntmps27
  go_wp2_with fail
  refine HA.out.mono ?_
  rintro e w1 ⟨rfl, rfl⟩
  go_wp2_with fail
  refine HD.out.mono ?_
  rintro e w1 ⟨rfl, hb⟩
  have HB := Lib.hid hb
  clear hb
  go_wp2_with fail
  go_ret
  exact ⟨rfl, HB.out⟩
theorem image_any (mb : Nat) (m : Img) (B : Nat) (w : World) (hs : Small m) (h : ModAt w B mb m) (w0 : World) (xc xj xd xn : Value) (hx : ImgAt w0 xc xj xd xn m) :
    Calls Tryz.prog 22 #[.pointer (some ⟨mb, 0, none⟩)] w fun e w' => ∃ uc uj ud un, e = .returned (.agg #[uc, uj, ud, .int .u32 m.zero, .int .u32 m.stack, un]) ∧ ImgOwn w' w.heap.size uc uj ud un m ∧ Below w.heap.size w w' := by
  obtain ⟨h0, tb, b, vm, uc, vd, uj, ud, un, hm, ht, ⟨c0, c1, c2, c3, c4, c5, c6, c7, c8, c9, c10, c11⟩, hi, ⟨B', hB, hf⟩, hd, hv⟩ := h
  have hz := zero28
  have HI := Lib.hid (hi.at hx)
  obtain ⟨a1, n1, rfl, -⟩ := own_sl hi.c
  obtain ⟨a2, n2, rfl, -⟩ := own_sl hi.j
  obtain ⟨a3, n3, rfl, -⟩ := own_sl hi.d
  obtain ⟨a4, n4, rfl, -⟩ := own_sl hi.n
  have hl1 := World.block_lt_of_cell? _ _ hm
  have hl2 := World.block_lt_of_cell? _ _ c0
  clear hi hf hd hv
  obtain ⟨Wa, hWa⟩ : ∃ Wa, Wa = w.alloc (.cells #[.slice none 0 0, .slice none 0 0, .slice none 0 0, .int .u32 0, .int .u32 0, .slice none 0 0] 28) := ⟨_, rfl⟩
  have hba : Below w.heap.size w Wa := by rw [hWa]; exact Bel.new _ _
  have HA := Lib.hid (all_mod mb tb Wa ((hba.cell (p := ⟨mb, 0, none⟩) hl1).trans hm))
  have HCP := Lib.hid (copied_any _ _ _ _ m hs Wa (HI.out.below hba))
  have e4 := (hba.cell (p := ⟨tb, 4, none⟩) hl2).trans c4
  have e5 := (hba.cell (p := ⟨tb, 5, none⟩) hl2).trans c5
  have e6 := (hba.cell (p := ⟨tb, 6, none⟩) hl2).trans c6
  have e7 := (hba.cell (p := ⟨tb, 7, none⟩) hl2).trans c7
  have e8 := (hba.cell (p := ⟨tb, 8, none⟩) hl2).trans c8
  have e9 := (hba.cell (p := ⟨tb, 9, none⟩) hl2).trans c9
  have hha : Wa.heap[w.heap.size]? = some (.cells #[.slice none 0 0, .slice none 0 0, .slice none 0 0, .int .u32 0, .int .u32 0, .slice none 0 0] 28) := by rw [hWa]; exact heap_alloc_new w _
  have hsa : w.heap.size < Wa.heap.size := by rw [hWa]; simp
  have HHa := Lib.hid hha
  have HBa := Lib.hid hba
  clear c0 c1 c2 c3 c4 c5 c6 c7 c8 c9 c10 c11 hm hha hba
  go_enter Tryz.func22, Tryz.ntmps22
  go_wp2_with fail
  rw [← hWa]
  clear hWa
  refine HA.out.mono ?_
  rintro e w1 ⟨rfl, rfl⟩
  go_wp2_with fail
  refine HCP.out.mono ?_
  rintro e w2 ⟨uc, uj, ud, un, rfl, hio, hb2⟩
  obtain ⟨b1, m1, rfl, -⟩ := own_sl hio.c
  obtain ⟨b2, m2, rfl, -⟩ := own_sl hio.j
  obtain ⟨b3, m3, rfl, -⟩ := own_sl hio.d
  obtain ⟨b4, m4, rfl, -⟩ := own_sl hio.n
  have HH2 := Lib.hid ((hb2.block w.heap.size hsa).trans HHa.out)
  have HIO := Lib.hid hio
  have HB2 := Lib.hid hb2
  clear hio hb2
  go_wp2_with (((with_reducible refine wpList_store_row (o := ⟨none, .store 28 (.tmp 2) (.tmp 8), _, _, _, none⟩) rfl 28 _ _ rfl w.heap.size #[.slice b1 m.code.length m1, .slice b2 m.js.length m2, .slice b3 m.data.length m3, .int .u32 m.zero, .int .u32 m.stack, .slice b4 m.lx.length m4] ?_ ?_ 28 _ HH2.out ?_ ?_ ?_ ?_); rfl; rfl; exact info28; rfl; (simp [Value.oneCell'])))
  refine bodyPost_ret (v := .agg #[.slice b1 m.code.length m1, .slice b2 m.js.length m2, .slice b3 m.data.length m3, .int .u32 m.zero, .int .u32 m.stack, .slice b4 m.lx.length m4]) (results_cell_row Tryz.results22 _ _ w.heap.size 28 _ (0, 0) _ rfl (setRow_heap _ _ _ _ _ _ HH2.out) Tryz.underlying28 rfl info28) rfl ⟨_, _, _, _, rfl, ?_, ?_⟩
  · exact ⟨own_downT (own_setRow HIO.out.c hsa) (Nat.le_of_lt hsa), own_downT (own_setRow HIO.out.j hsa) (Nat.le_of_lt hsa), own_downT (own_setRow HIO.out.d hsa) (Nat.le_of_lt hsa), own_downT (own_setRow HIO.out.n hsa) (Nat.le_of_lt hsa)⟩
  · exact (Bel.tr HBa.out HB2.out).trans (below_setRowB _ _ _ (Nat.le_refl _))
theorem cnt_any (mb : Nat) (m : Img) (B : Nat) (w : World) (h : ModAt w B mb m) :
    Calls Tryz.prog 61 #[.pointer (some ⟨mb, 0, none⟩)] w fun e w' => e = .returned (.int .i64 m.code.length) ∧ w = w' := by
  obtain ⟨h0, tb, b, vm, uc, vd, uj, ud, un, hm, ht, ⟨c0, c1, c2, c3, c4, c5, c6, c7, c8, c9, c10, c11⟩, hi, ⟨B', hB, hf⟩, hd, hv⟩ := h
  have HA := Lib.hid (all_mod mb tb w hm)
  obtain ⟨a1, n1, rfl, -⟩ := own_sl hi.c
  clear hi hf hd hv
  go_enter Tryz.func61, Tryz.ntmps61
  go_wp2_with fail
  refine HA.out.mono ?_
  rintro e w1 ⟨rfl, rfl⟩
  go_wp2_with fail
  go_ret
  exact ⟨rfl, rfl⟩
theorem digest_any (mb : Nat) (m : Img) (B : Nat) (w : World) (h : ModAt w B mb m) :
    Calls Tryz.prog 56 #[.pointer (some ⟨mb, 0, none⟩)] w fun e w' => e = .returned (.int .u64 (digN m)) ∧ w = w' := by
  obtain ⟨h0, tb, b, vm, uc, vd, uj, ud, un, hm, ht, ⟨c0, c1, c2, c3, c4, c5, c6, c7, c8, c9, c10, c11⟩, hi, ⟨B', hB, hf⟩, hd, hv⟩ := h
  have HA := Lib.hid (all_mod mb tb w hm)
  clear hi hf hd hv
  go_enter Tryz.func56, Tryz.ntmps56
  go_wp2_with fail
  refine HA.out.mono ?_
  rintro e w1 ⟨rfl, rfl⟩
  go_wp2_with fail
  go_ret
  exact ⟨rfl, rfl⟩
theorem run_build122 (w : World) : (Instr.build 62 #[]).run Tryz.prog w = .ok (.agg #[.int .u8 0, .int .u32 0]) w := by kernel_rfl
theorem zero122 (w : World) : (zeroValue 62).run Tryz.prog w = .ok (.agg #[.int .u8 0, .int .u32 0]) w := by kernel_rfl
def instrV (code : List (Nat × Nat)) (i : Nat) : Value := .agg #[.int .u8 (opAt code i), .int .u32 (argAt code i)]
set_option maxRecDepth 100000 in
set_option maxHeartbeats 1000000 in
theorem at_any (mb : Nat) (m : Img) (B : Nat) (w : World) (h : ModAt w B mb m) (i : Nat) (hi32 : i < 4294967296) (hl16 : m.code.length ≤ 16384) :
    Calls Tryz.prog 25 #[.pointer (some ⟨mb, 0, none⟩), .int .u32 i] w fun e w' => e = .returned (.tuple #[instrV m.code i, .bool (decide (i < m.code.length))]) ∧ Below w.heap.size w w' := by
  have hz := zero122
  have hb122 := run_build122
  obtain ⟨Wa, hWa⟩ : ∃ Wa, Wa = w.alloc (.cells #[.int .u8 0, .int .u32 0] 62) := ⟨_, rfl⟩
  have hba : Below w.heap.size w Wa := by rw [hWa]; exact Bel.new _ _
  obtain ⟨h0, tb, b, vm, uc, vd, uj, ud, un, hm, ht, ⟨c0, c1, c2, c3, c4, c5, c6, c7, c8, c9, c10, c11⟩, hi, ⟨B', hB, hf⟩, hd, hv⟩ := h
  have hl1 := World.block_lt_of_cell? _ _ hm
  have hlt2 := World.block_lt_of_cell? _ _ c0
  have HA := Lib.hid (all_mod mb tb Wa ((hba.cell (p := ⟨mb, 0, none⟩) hl1).trans hm))
  have d2 := (hba.cell (p := ⟨tb, 2, none⟩) hlt2).trans c2
  clear c0 c1 c2 c3 c4 c5 c6 c7 c8 c9 c10 c11 hm
  have hu1 : IntKind.u64.wrap ((i : Nat) : Int) = ((i : Nat) : Int) := by rw [IntKind.wrap_u64]; omega
  have hu2 : IntKind.u64.wrap ((m.code.length : Nat) : Int) = ((m.code.length : Nat) : Int) := by rw [IntKind.wrap_u64]; omega
  obtain ⟨a1, n1, rfl, hnc, hcm, hp⟩ := own_sl hi.c
  have hl2 := encI_length m.code
  unfold instrV
  by_cases hlt : i < m.code.length
  · obtain ⟨g, rfl, hg, hc⟩ := hp (by omega)
    have q0 := ((hba.cell (p := ⟨g, i * 2, none⟩) hg).trans (hc (i * 2) (by omega))).trans (encI_op m.code i hlt)
    have q1 := ((hba.cell (p := ⟨g, i * 2 + 1, none⟩) hg).trans (hc (i * 2 + 1) (by omega))).trans (encI_arg m.code i hlt)
    have hge : ¬ ((m.code.length : Int) ≤ (i : Int)) := by omega
    have hki : (i : Int) < (m.code.length : Int) := by omega
    have hk0 : (0 : Int) ≤ (i : Int) := by omega
    have hd1 : decide (i < m.code.length) = true := decide_eq_true hlt
    rw [hd1]
    unfold opAt argAt
    generalize m.code.getD i (0, 0) = ins at *
    obtain ⟨o, a⟩ := ins
    simp only at q0 q1
    rw [hWa] at q0 q1 d2
    clear hp hc hf hd hv hi hba
    go_enter Tryz.func25, Tryz.ntmps25
    go_wp2_with fail
    rw [← hWa]
    refine HA.out.mono ?_
    rintro e w1 ⟨rfl, rfl⟩
    rw [hWa]
    go_wp2_with fail
    exact bodyPost_ret (v := .tuple #[.agg #[.int .u8 o, .int .u32 a], .bool true]) (by simp [results, Tryz.results25, go_sem]) rfl ⟨rfl, Bel.new _ _⟩
  · have hge : (m.code.length : Int) ≤ (i : Int) := by omega
    have hd1 : decide (i < m.code.length) = false := decide_eq_false hlt
    have hz1 : opAt m.code i = 0 := by unfold opAt; rw [List.getD_eq_getElem?_getD, List.getElem?_eq_none (by omega)]; rfl
    have hz2 : argAt m.code i = 0 := by unfold argAt; rw [List.getD_eq_getElem?_getD, List.getElem?_eq_none (by omega)]; rfl
    rw [hd1, hz1, hz2]
    rw [hWa] at d2
    clear hp hf hd hv hi hba
    go_enter Tryz.func25, Tryz.ntmps25
    go_wp2_with fail
    rw [← hWa]
    refine HA.out.mono ?_
    rintro e w1 ⟨rfl, rfl⟩
    rw [hWa]
    go_wp2_with fail
    exact bodyPost_ret (v := .tuple #[.agg #[.int .u8 0, .int .u32 0], .bool false]) (by simp [results, Tryz.results25, go_sem]) rfl ⟨rfl, Bel.new _ _⟩
def prcN (m : Img) (x : Nat) : Nat × Nat × Nat := if x < m.code.length then (psTo m.code m.code.length).getD ((ofTo m.code m.code.length).getD x 0) (0, 0, 0) else (0, 0, 0)
def needN (m : Img) (x : Nat) : Int := if x < m.code.length then (flowN m.code m.js).2.1.getD ((ofTo m.code m.code.length).getD x 0) 0 else 0
def prcV (p : Nat × Nat × Nat) (n : Int) : Value := .agg #[.int .u32 p.1, .int .u32 p.2.1, .int .u32 p.2.2, .int .i64 n]
theorem info259 : (Tryz.prog.info? 71).map (·.size) = some 4 := by kernel_rfl
theorem size259 (a b c d : Value) : (Tryz.prog.info? 71).map (·.size) = some (#[a, b, c, d] : Array Value).size := info259
set_option maxRecDepth 100000 in
set_option maxHeartbeats 2000000 in
theorem whereproc_any {w : World} {B b : Nat} {vp vo vt vm : Value} {ps : List (Nat × Nat × Nat)} {ofs : List Nat} {us : List Value} {ts : List (List Nat)} {ms : List Int} (h : PAt w B b vp vo vt ps ofs us ts)
    (hv : w.ownsRow 0 3 1 vm ms.length (encZ ms)) (k : Nat) (hk : k < ps.length) (hk2 : k < ms.length) :
    Calls Tryz.prog 92 #[.agg #[.pointer (some ⟨b, 0, none⟩), vm], .int .i64 k] w fun e w' => e = .returned (prcV (ps.getD k (0, 0, 0)) (ms.getD k 0)) ∧ Below w.heap.size w w' := by
  have hz39 := zero39
  obtain ⟨am, nm, rfl, hnc, hcm, hp⟩ := own_sl hv
  obtain ⟨g, rfl, hg, hc⟩ := hp (by omega)
  have hq : w.cell? ⟨g, k, none⟩ = some (.int .i64 (ms.getD k 0)) := (hc k (by simpa [encZ] using hk2)).trans (by simp [encZ, List.getD_eq_getElem?_getD, hk2])
  obtain ⟨Wa, hWa⟩ : ∃ Wa, Wa = (w.alloc (.cells #[.pointer (some ⟨b, 0, none⟩), .slice (some ⟨g, 0, none⟩) ms.length nm] 95)).alloc (.cells #[.int .u32 0, .int .u32 0, .int .u32 0, .int .i64 0] 71) := ⟨_, rfl⟩
  have hba : Below w.heap.size w Wa := by rw [hWa]; exact Bel.al (Bel.new _ _) _
  have hs0 : Wa.heap.size = w.heap.size + 2 := by rw [hWa]; simp
  have HP := Lib.hid (proc_any (h.below hba) (k : Int))
  unfold procN procV at HP
  rw [if_pos ⟨by omega, by omega⟩, Int.toNat_natCast] at HP
  have b1 : Wa.cell? ⟨w.heap.size, 1, none⟩ = some (.slice (some ⟨g, 0, none⟩) ms.length nm) := by rw [hWa]; simp [go_sem]
  have hh0 : Wa.heap[w.heap.size + 1]? = some (.cells #[.int .u32 0, .int .u32 0, .int .u32 0, .int .i64 0] 71) := by
    rw [hWa]
    have := heap_alloc_new (w.alloc (.cells #[.pointer (some ⟨b, 0, none⟩), .slice (some ⟨g, 0, none⟩) ms.length nm] 95)) (.cells #[.int .u32 0, .int .u32 0, .int .u32 0, .int .i64 0] 71)
    simpa using this
  unfold prcV
  generalize ps.getD k (0, 0, 0) = p at *
  obtain ⟨p0, p1, p2⟩ := p
  generalize ms.getD k 0 = q at *
  have hki : (k : Int) < (ms.length : Int) := by omega
  have hk0 : (0 : Int) ≤ (k : Int) := by omega
  have hm : ms.length ≤ 9223372036854775807 := by unfold maxLen at hcm; omega
  have HH0 := Lib.hid hh0
  have HBa := Lib.hid hba
  clear h hv hp hc hh0 hba
  go_enter Tryz.func92, Tryz.ntmps92
  go_wp2_with fail
  rw [← hWa]
  refine HP.out.mono ?_
  rintro e w1 ⟨rfl, hb1⟩
  have d1 := (hb1.cell (p := ⟨w.heap.size, 1, none⟩) (show w.heap.size < Wa.heap.size by omega)).trans b1
  have d2 := ((Bel.tr HBa.out hb1).cell (p := ⟨g, k, none⟩) hg).trans hq
  have hg1 : g < w1.heap.size := by have := hb1.size; omega
  have hg2 : w1.heap.size ≠ g := by omega
  have hz1 : w.heap.size < w1.heap.size := by have := hb1.size; omega
  have hz2 : w.heap.size + 1 < w1.heap.size := by have := hb1.size; omega
  have hz3 : w1.heap.size ≠ w.heap.size := by omega
  have hz4 : w1.heap.size ≠ w.heap.size + 1 := by omega
  have HH1 := Lib.hid ((hb1.block (w.heap.size + 1) (by omega)).trans HH0.out)
  have HB1 := Lib.hid (Bel.tr HBa.out hb1)
  have HH2 := Lib.hid ((Below.heap_alloc w1 (.cells #[.int .u32 p0, .int .u32 p1, .int .u32 p2, .int .i64 q] 71) (w.heap.size + 1) hz2).trans HH1.out)
  have hsz := size259 (.int .u32 p0) (.int .u32 p1) (.int .u32 p2) (.int .i64 q)
  clear hb1 hWa b1 hq HP
  go_wp2_with (((with_reducible refine wpList_store_row (o := ⟨none, .store 71 (.tmp 4) (.tmp 20), _, _, _, none⟩) rfl 71 _ _ rfl (w.heap.size + 1) #[.int .u32 p0, .int .u32 p1, .int .u32 p2, .int .i64 q] ?_ ?_ 71 _ HH2.out ?_ ?_ ?_ ?_); rfl; rfl; exact hsz; rfl; (simp [Value.oneCell'])))
  refine bodyPost_ret (v := .agg #[.int .u32 p0, .int .u32 p1, .int .u32 p2, .int .i64 q]) (results_cell_row Tryz.results92 _ _ (w.heap.size + 1) 71 _ (0, 0) _ rfl (setRow_heap _ _ _ _ _ _ HH2.out) Tryz.underlying71 rfl info259) rfl ⟨rfl, ?_⟩
  exact below_setRow (Bel.al HB1.out _) _ (by omega) _
structure Mo where
  im : Img
  D : List Int
  ms : List Int
  k : Nat
def Mo.code (m : Mo) : List (Nat × Nat) := m.im.code
def Mo.n (m : Mo) : Nat := m.im.code.length
def Mo.ps (m : Mo) : List (Nat × Nat × Nat) := psTo m.im.code m.im.code.length
def Mo.ofs (m : Mo) : List Nat := ofTo m.im.code m.im.code.length
def Mo.size (m : Mo) : Nat := 2 ^ m.k
def Mo.depth (m : Mo) (i : Nat) : Int := if i < m.D.length then m.D.getD i (-1) else -1
def Mo.need (m : Mo) (i : Nat) : Int := if i < m.ofs.length then m.ms.getD (m.ofs.getD i 0) 0 else 0
def Mo.begins (m : Mo) (i : Nat) : Bool := beginsN m.ps m.ofs i
def Mo.legal (m : Mo) (x y : Nat) : Bool := decide (y ∈ nextN m.im.code m.im.js x)
structure Mo.Ok (m : Mo) : Prop where
  f : FindOk m.im.code m.im.js []
  d : FlowOk m.im.code m.im.js m.D m.ms
  s : stackN m.im.stack = true
  k8 : 8 ≤ m.k
  k16 : m.k ≤ 16
  r : roomN m.im ≤ 2 ^ m.k
def Mo.room (m : Mo) (words at_ : Nat) : Bool := decide (0 ≤ m.depth at_) && (decide (m.depth at_ ≤ words) && decide ((words : Int) - m.depth at_ + m.need at_ ≤ 64))
def Mo.top (m : Mo) : Nat := 2 ^ m.k - 64
def Mo.fits (m : Mo) (s : St) : Bool :=
  decide (s.data.length = 2 ^ m.k) && (decide (s.sp % 4 = 0) && (decide (2 ^ m.k - m.im.stack ≤ s.sp) && (decide (s.sp ≤ m.top) && (decide (s.life ≠ 2 → s.value = 0) && (decide (s.life ≠ 3 → s.fault = 0) &&
  (if s.life = 0 then decide (s.pc = 0) && (decide (s.sp = m.top) && decide (s.ops.length = 0))
   else if s.life = 3 then decide (1 ≤ s.fault) && (decide (s.fault ≤ 8) && m.room s.ops.length s.pc)
   else if s.life = 1 then m.room s.ops.length s.pc
   else if s.life = 2 then decide (0 ≤ m.depth s.pc) && (decide (opAt m.im.code s.pc = 4) && decide ((s.ops.length : Int) + m.need s.pc ≤ 64))
   else false))))))
theorem room_iff {m : Mo} {n a : Nat} : m.room n a = true ↔ 0 ≤ m.depth a ∧ m.depth a ≤ n ∧ (n : Int) - m.depth a + m.need a ≤ 64 := by
  simp only [Mo.room, Bool.and_eq_true, decide_eq_true_eq]
section
variable {m : Mo} (h : m.Ok)
include h
theorem Mo.Ok.dl : m.D.length = m.im.code.length := h.d.dl
theorem Mo.Ok.ol : m.ofs.length = m.im.code.length := h.f.tl.ol
theorem Mo.Ok.lt {a : Nat} (h0 : 0 ≤ m.depth a) : a < m.im.code.length := by
  unfold Mo.depth at h0
  split at h0
  · rename_i hh; rw [h.dl] at hh; exact hh
  · omega
theorem Mo.Ok.depth_eq {a : Nat} (ha : a < m.im.code.length) : m.depth a = m.D.getD a (-1) := by
  unfold Mo.depth; rw [if_pos (by rw [h.dl]; exact ha)]
theorem Mo.Ok.need_eq {a : Nat} (ha : a < m.im.code.length) : m.need a = m.ms.getD (m.ofs.getD a 0) 0 := by
  unfold Mo.need; rw [if_pos (by rw [h.ol]; exact ha)]
theorem Mo.Ok.step {a : Nat} (h0 : 0 ≤ m.depth a) : (takesOf (opAt m.im.code a) : Int) ≤ m.depth a ∧ (kindOf (opAt m.im.code a) = 7 → m.depth a = 1) ∧ m.depth a ≤ m.need a ∧
    m.depth a - takesOf (opAt m.im.code a) + givesOf (opAt m.im.code a) ≤ m.need a ∧
    ∀ t ∈ nextN m.im.code m.im.js a, t < m.im.code.length ∧ m.depth t = m.depth a - takesOf (opAt m.im.code a) + givesOf (opAt m.im.code a) ∧ m.need t = m.need a := by
  have ha := h.lt h0
  have hc := h.d.cl a ha (by rw [← h.depth_eq ha]; exact h0)
  obtain ⟨f1, f2, f3⟩ := depFault_zero hc.f
  have m1 := hc.m1
  have m2 := hc.m2
  rw [h.need_eq ha, h.depth_eq ha]
  refine ⟨f1, f3, m1, m2, fun t ht => ?_⟩
  obtain ⟨n1, n2⟩ := h.f.next_of ha ht
  refine ⟨n1, ?_, ?_⟩
  · rw [h.depth_eq n1]; exact hc.nx t ht
  · rw [h.need_eq n1]
    show m.ms.getD ((ofTo m.im.code m.im.code.length).getD t 0) 0 = _
    rw [n2]; rfl
end
theorem fits_iff {m : Mo} {s : St} (h1 : s.life = 1) : m.fits s = true ↔ s.data.length = 2 ^ m.k ∧ s.sp % 4 = 0 ∧ 2 ^ m.k - m.im.stack ≤ s.sp ∧ s.sp ≤ m.top ∧ s.value = 0 ∧ s.fault = 0 ∧ m.room s.ops.length s.pc = true := by
  unfold Mo.fits
  rw [h1, if_neg (by decide), if_neg (by decide), if_pos rfl]
  simp only [Bool.and_eq_true, decide_eq_true_eq]
  constructor
  · rintro ⟨a, b, c, d, e, f, g⟩; exact ⟨a, b, c, d, e (by decide), f (by decide), g⟩
  · rintro ⟨a, b, c, d, e, f, g⟩; exact ⟨a, b, c, d, fun _ => e, fun _ => f, g⟩
section
variable {m : Mo} (h : m.Ok)
include h
theorem Mo.Ok.at_ {s : St} (h1 : s.life = 1) (hf : m.fits s = true) : s.pc < m.im.code.length ∧ isOp (opAt m.im.code s.pc) = true ∧ (takesOf (opAt m.im.code s.pc) : Int) ≤ s.ops.length ∧ s.ops.length ≤ 64 := by
  obtain ⟨_, _, _, _, _, _, r⟩ := (fits_iff h1).1 hf
  obtain ⟨r1, r2, r3⟩ := room_iff.1 r
  obtain ⟨s1, s2, s3, s4, s5⟩ := h.step r1
  exact ⟨h.lt r1, h.f.op _ (h.lt r1), by omega, by omega⟩
theorem Mo.Ok.sizes : 2 ^ 8 ≤ 2 ^ m.k ∧ 2 ^ m.k ≤ 65536 ∧ m.im.stack ≤ 2 ^ m.k ∧ 64 ≤ m.im.stack ∧ m.im.stack % 4 = 0 ∧ 2 ^ m.k % 4 = 0 := by
  have h1 : (2 : Nat) ^ 8 ≤ 2 ^ m.k := Nat.pow_le_pow_right (by decide) h.k8
  have h2 : (2 : Nat) ^ m.k ≤ 2 ^ 16 := Nat.pow_le_pow_right (by decide) h.k16
  have h3 := h.s
  have h4 := h.r
  simp only [stackN, Bool.and_eq_true, decide_eq_true_eq] at h3
  unfold roomN at h4
  have h5 : (2 : Nat) ^ m.k = 4 * 2 ^ (m.k - 2) := by
    have e : m.k = (m.k - 2) + 2 := by have := h.k8; omega
    have := Nat.pow_add 2 (m.k - 2) 2
    rw [← e] at this
    omega
  exact ⟨h1, h2, by omega, h3.2.1, h3.1, by omega⟩
end
section
variable {m : Mo} (h : m.Ok)
include h
end
section
variable {m : Mo} (h : m.Ok)
include h
end
def moOf (m : Img) : Mo := ⟨m, (flowN m.code m.js).1, (flowN m.code m.js).2.1, bitsI m⟩
theorem findOk_nil {code : List (Nat × Nat)} {js ats : List Nat} (h : FindOk code js ats) : FindOk code js [] := ⟨h.he, h.h3, h.hall, h.hg, fun j hj => absurd hj (Nat.not_lt_zero j)⟩
theorem moOk {m : Img} (h : TakeOk m) : (moOf m).Ok := by
  obtain ⟨hc1, hc2, hc3, hc4, hc5, hc6, hc7⟩ := checkI_ok h.k
  obtain ⟨b1, b2, b3⟩ := bitsI_spec (m := m) (by omega)
  exact ⟨findOk_nil h.f, flowN_spec (findOk_nil h.f) h.r, hc4, b1, b2, b3⟩
end Go.Proofs.YtflpbgdghaaiaaaGreat
