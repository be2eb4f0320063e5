import Derived.Test.YtofkamnmgpkehabRefL
import Derived.Test.YtofkamnmgpkehabSameW
import Derived.Test.YtofkamnmgpkehabTgts
import Derived.Test.YtofkamnmgpkehabSearch
import Derived.Test.YtofkamnmgpkehabAllP
import Derived.Test.YtofkamnmgpkehabApartD
/- What was found, and what the document answers: the calls' contracts side by side. -/
namespace Go.Proofs.Ytofkamnmgpkehab
open Go.RowKit
section
variable {code : List (Nat × Nat)} {js ats : List Nat} (h : FindOk code js ats)
include h
theorem FindOk.hof (x : Nat) (hx : x < (ofTo code code.length).length) : (ofTo code code.length).getD x 0 < (psTo code code.length).length := h.tl.lt x (by rw [← h.tl.ol]; exact hx)
theorem FindOk.jl : js.length ≤ 16384 := by
  have h2 := h.hg.le
  rw [h.tl.ol] at h2
  have := encRes_short h.he
  omega
theorem FindOk.rows (j : Nat) : ((aimTo (ofTo code code.length) js (psTo code code.length).length js.length).getD j []).length ≤ 16384 := by
  have h1 := aimTo_row_le (ofTo code code.length) js (psTo code code.length).length js.length j
  have := h.jl
  omega
theorem FindOk.legal_eq (x y : Nat) : (decide (x < (ofTo code code.length).length) && decide (y ∈ (aimTo (ofTo code code.length) js (psTo code code.length).length js.length).getD ((ofTo code code.length).getD x 0) [])) = legalR (ofTo code code.length) js x y := by
  unfold legalR ofN
  by_cases hx : x < (ofTo code code.length).length
  · rw [decide_eq_true hx, Bool.true_and, if_pos hx, decide_eq_true (Int.natCast_nonneg _), Bool.true_and, Bool.eq_iff_iff, Bool.and_eq_true, decide_eq_true_iff, decide_eq_true_iff, decide_eq_true_iff]
    constructor
    · intro hy
      obtain ⟨i, hi, he, ho⟩ := h.tg.of_mem _ _ hy
      have hl := (h.legal hy).1
      refine ⟨mem_some.2 ⟨i, hi, he.symm⟩, ?_⟩
      rw [if_pos (by rw [h.tl.ol]; exact hl), ho]
    · rintro ⟨hm, he⟩
      obtain ⟨i, hi, rfl⟩ := mem_some.1 hm
      obtain ⟨h1, h2, -⟩ := h.jumps i hi
      rw [if_pos (by rw [h.tl.ol]; exact h1)] at he
      have : (ofTo code code.length).getD x 0 = (ofTo code code.length).getD (js.getD i 0) 0 := by omega
      rw [this]; exact h2
  · rw [decide_eq_false hx, Bool.false_and, if_neg hx]
    simp
theorem FindOk.aim_eq (k : Nat) (hk : k ≤ js.length) (j : Nat) : (aimTo (ofTo code code.length) js (psTo code code.length).length k).getD j [] = if j < (psTo code code.length).length then aimR (ofTo code code.length) (js.take k) (j : Int) else [] := by
  induction k generalizing j with
  | zero =>
    show ((List.replicate _ []).getD j []) = _
    rw [List.getD_eq_getElem?_getD, List.getElem?_replicate]
    split <;> simp [aimR]
  | succ k ih =>
    have hx := (h.jumps k (by omega)).1
    have hr := h.hof (js.getD k 0) (by rw [h.tl.ol]; exact hx)
    rw [aimTo_getD _ _ _ _ _ hr, ih (by omega) j]
    have hst : ∀ i : Int, aimR (ofTo code code.length) (js.take (k + 1)) i = aimR (ofTo code code.length) (js.take k) i ++ if ofN (ofTo code code.length) (js.getD k 0) = i then [js.getD k 0] else [] := by
      intro i
      unfold aimR
      rw [take_getD js (by omega), List.filter_append, List.filter_cons]
      simp
    have hof : ofN (ofTo code code.length) (js.getD k 0) = ((ofTo code code.length).getD (js.getD k 0) 0 : Nat) := by
      unfold ofN; rw [if_pos (by rw [h.tl.ol]; exact hx)]
    by_cases e : j = (ofTo code code.length).getD (js.getD k 0) 0
    · subst e
      rw [if_pos rfl, if_pos hr, if_pos hr, hst, if_pos hof]
    · rw [if_neg e]
      split
      · rw [hst, if_neg (by rw [hof]; omega), List.append_nil]
      · rfl
theorem FindOk.tgts_eq (i : Int) : tgtsAt (psTo code code.length).length (aimTo (ofTo code code.length) js (psTo code code.length).length js.length) i = if i < 0 then [] else aimR (ofTo code code.length) js i := by
  unfold tgtsAt
  by_cases h0 : i < 0
  · rw [if_neg (by omega), if_pos h0]
  · obtain ⟨n, rfl⟩ := Int.eq_ofNat_of_zero_le (by omega : 0 ≤ i)
    rw [if_neg h0, Int.toNat_natCast, h.aim_eq js.length (Nat.le_refl _), List.take_length]
    by_cases hn : n < (psTo code code.length).length
    · rw [if_pos ⟨by omega, by omega⟩, if_pos hn]
    · rw [if_neg (by omega)]
      symm
      unfold aimR
      rw [List.filter_eq_nil_iff]
      intro z hz
      obtain ⟨k, hk, rfl⟩ := mem_some.1 hz
      have hx := (h.jumps k hk).1
      have hr := h.hof (js.getD k 0) (by rw [h.tl.ol]; exact hx)
      unfold ofN
      rw [if_pos (by rw [h.tl.ol]; exact hx)]
      simp only [decide_eq_true_eq]
      omega
end
/-- What the walk of answers is told. -/
structure Ready (w : World) (b : Nat) (vc vj : Value) (code : List (Nat × Nat)) (js ats : List Nat) : Prop where
  ok : FindOk code js ats
  hc : Instrs w vc code
  hj : RowU w w.heap.size vj js
  at_ : ∃ B vp vo vt us, PAt w B b vp vo vt (psTo code code.length) (ofTo code code.length) us (aimTo (ofTo code code.length) js (psTo code code.length).length js.length)
section
variable {w : World} {b : Nat} {vc vj : Value} {code : List (Nat × Nat)} {js ats : List Nat} (h : Ready w b vc vj code js ats)
include h
theorem Ready.below {w' : World} (hb : Below w.heap.size w w') : Ready w' b vc vj code js ats :=
  ⟨h.ok, h.hc.below hb, h.hj.calm hb hb.size, by obtain ⟨B, vp, vo, vt, us, hA⟩ := h.at_; exact ⟨B, vp, vo, vt, us, hA.below hb⟩⟩
theorem Ready.count : Calls Try.prog 10 #[.pointer (some ⟨b, 0, none⟩)] w fun e w' => e = .returned (.int .i64 ((psTo code code.length).length : Nat)) ∧ Below w.heap.size w w' := by
  obtain ⟨B, vp, vo, vt, us, hA⟩ := h.at_
  exact count_any hA
theorem Ready.proc (i : Int) : Calls Try.prog 9 #[.pointer (some ⟨b, 0, none⟩), .int .i64 i] w fun e w' => e = .returned (procN (psTo code code.length) i) ∧ Below w.heap.size w w' := by
  obtain ⟨B, vp, vo, vt, us, hA⟩ := h.at_
  exact proc_any hA i
theorem Ready.of (x : Nat) (hx : x < 4294967296) : Calls Try.prog 11 #[.pointer (some ⟨b, 0, none⟩), .int .u32 x] w fun e w' => e = .returned (.int .i64 (ofN (ofTo code code.length) x)) ∧ w' = w := by
  obtain ⟨B, vp, vo, vt, us, hA⟩ := h.at_
  exact (of_any hA x hx).mono fun _ _ h => ⟨h.1, h.2.symm⟩
theorem Ready.begins (x : Nat) (hx : x < 4294967296) : Calls Try.prog 12 #[.pointer (some ⟨b, 0, none⟩), .int .u32 x] w fun e w' => e = .returned (.bool (decide (x < code.length) && (opAt code x == 3))) ∧ Below w.heap.size w w' := by
  obtain ⟨B, vp, vo, vt, us, hA⟩ := h.at_
  have := begins_any hA h.ok.hof x hx
  rwa [h.ok.tl.begins] at this
theorem Ready.legal (x y : Nat) (hx : x < 4294967296) : Calls Try.prog 13 #[.pointer (some ⟨b, 0, none⟩), .int .u32 x, .int .u32 y] w fun e w' => e = .returned (.bool (legalR (ofTo code code.length) js x y)) ∧ w' = w := by
  obtain ⟨B, vp, vo, vt, us, hA⟩ := h.at_
  have := legal_any hA (fun q hq => by rw [aimTo_length]; exact h.ok.hof q hq) h.ok.tg.sorted h.ok.rows x y hx
  rwa [h.ok.legal_eq] at this
theorem Ready.targets (i : Int) : Calls Try.prog 14 #[.pointer (some ⟨b, 0, none⟩), .int .i64 i] w fun e w' => ∃ v, e = .returned v ∧ w'.ownsRow w.heap.size 32 1 v (if i < 0 then [] else aimR (ofTo code code.length) js i).length (encN .u32 (if i < 0 then [] else aimR (ofTo code code.length) js i)) ∧ Below w.heap.size w w' := by
  obtain ⟨B, vp, vo, vt, us, hA⟩ := h.at_
  have := targets_any hA (aimTo_length _ _ _ _) h.ok.rows i
  rwa [h.ok.tgts_eq] at this
theorem Ready.rprocs : Calls Try.prog 23 #[vc] w fun e w' => ∃ u, e = .returned u ∧ w'.ownsRow w.heap.size 39 4 u (psTo code code.length).length (encP (psTo code code.length)) ∧ Below w.heap.size w w' :=
  refprocs_any vc code (encRes_short h.ok.he) h.ok.h3 w h.hc
theorem Ready.rof (x : Nat) (hx : x < 4294967296) : Calls Try.prog 24 #[vc, .int .u32 x] w fun e w' => e = .returned (.int .i64 (ofN (ofTo code code.length) x)) ∧ w' = w :=
  refof_any vc code (encRes_short h.ok.he) h.ok.h3.2 x hx w h.hc
theorem Ready.rlegal (x y : Nat) (hx : x < 4294967296) (hy : y < 4294967296) : Calls Try.prog 25 #[vc, vj, .int .u32 x, .int .u32 y] w fun e w' => e = .returned (.bool (legalR (ofTo code code.length) js x y)) ∧ w' = w :=
  reflegal_any vc vj code js (encRes_short h.ok.he) h.ok.h3.2 x y hx hy w w.heap.size h.hc h.hj
theorem Ready.rtargets (i : Int) : Calls Try.prog 26 #[vc, vj, .int .i64 i] w fun e w' => ∃ v, e = .returned v ∧ w'.ownsRow w.heap.size 32 1 v (aimR (ofTo code code.length) js i).length (encN .u32 (aimR (ofTo code code.length) js i)) ∧ Below w.heap.size w w' :=
  reftargets_any vc vj code js (encRes_short h.ok.he) h.ok.h3.2 i h.ok.jl w h.hc h.hj
end
end Go.Proofs.Ytofkamnmgpkehab
