import Derived.Test.YtfoaibfncjnbdaaLs
/- An instruction of a row. -/
namespace Go.Proofs.Ytfoaibfncjnbdaa
open Go.RowKit
theorem kind_branch {o : Nat} (h : kindOf o = 2) : 13 ≤ o ∧ o ≤ 28 := by
  by_cases h60 : o < 60
  · have : ∀ o < 60, kindOf o = 2 → 13 ≤ o ∧ o ≤ 28 := by decide +kernel
    exact this o h60 h
  · have : rowOf o = ([], 0, 0, 0, 0, 0) := by
      unfold rowOf; rw [List.getD_eq_getElem?_getD, List.getElem?_eq_none (by show 60 ≤ o; omega)]; rfl
    simp [kindOf, this] at h
def LS.both (r : Bool × LS) : Nat × LS := ((if r.1 then 0 else 1), r.2)
def isOne (o : Nat) : Bool := o == 10 || o == 11 || (decide (36 ≤ o) && takesOf o == 1)
def LS.take (s : LS) (o a : Nat) : Nat × LS :=
  if checkN o a ≠ 0 then (1, s) else if kindOf o = 2 then s.two o true else if o = 1 then (0, s) else if o = 8 then LS.both (s.push a)
  else if isOne o = true then LS.both (s.one o) else if 36 ≤ o ∧ takesOf o = 2 then s.two o false else (1, s)
set_option maxRecDepth 100000 in
set_option maxHeartbeats 4000000 in
theorem take_any {w : World} {b n : Nat} {cs : Nat → Nat} (h : LAt w b cs n) (o a : Nat) (ho : o < 256) (ha : a < 4294967296) :
    Calls Try.prog 16 #[.pointer (some ⟨b, 0, none⟩), .agg #[.int .u8 o, .int .u32 a]] w fun e w' => e = .returned (.int .u8 (LS.take ⟨cs, n⟩ o a).1) ∧ LAt w' b (LS.take ⟨cs, n⟩ o a).2.cs (LS.take ⟨cs, n⟩ o a).2.n ∧ Below b w w' := by
  obtain ⟨r, hr⟩ : ∃ r, r = LS.take ⟨cs, n⟩ o a := ⟨_, rfl⟩
  rw [← hr]
  have Hr := Lib.hid hr
  clear hr
  have hz := zero26
  unfold zeroRow at hz
  have h1 := info_any o ho
  unfold rowVal rowCells at h1
  have H1 := Lib.hid h1
  have HC := Lib.hid (fun W => check_any o a ho W)
  have HA := Lib.hid h
  have hcb0 : (w.alloc (.cells #[.int .u8 o, .int .u32 a] 34)).cell? ⟨w.heap.size, 0, none⟩ = some (.int .u8 o) := by simp [go_sem]
  have hcb1 : (w.alloc (.cells #[.int .u8 o, .int .u32 a] 34)).cell? ⟨w.heap.size, 1, none⟩ = some (.int .u32 a) := by simp [go_sem]
  have Hnb := Lib.hid (Bel.new w (.cells #[.int .u8 o, .int .u32 a] 34))
  clear h h1
  go_enter Try.func16, Try.ntmps16
  go_wp2_with fail
  refine (H1.out _).mono ?_
  rintro e w1 ⟨rfl, hb⟩
  have hs1 := Bel.lt hb
  obtain ⟨hc1, hf1⟩ := bcell hb
  simp only [World.size_alloc] at hc1 hf1
  have Hb1 := Lib.hid hb
  clear hb
  go_wp2_with fail
  refine (HC.out _).mono ?_
  rintro e w2 ⟨rfl, hb⟩
  have hs2 := Bel.lt hb
  have q0 : w2.cell? ⟨w.heap.size, 0, none⟩ = some (.int .u8 o) := (hb.cell (p := ⟨w.heap.size, 0, none⟩) (by simp; omega)).trans ((World.cell?_of_block (a := ⟨w.heap.size, 0, none⟩) (Below.heap_alloc w1 _ w.heap.size hs1)).trans ((hc1 _ _ (Nat.lt_succ_self _)).trans hcb0))
  have q1 : w2.cell? ⟨w.heap.size, 1, none⟩ = some (.int .u32 a) := (hb.cell (p := ⟨w.heap.size, 1, none⟩) (by simp; omega)).trans ((World.cell?_of_block (a := ⟨w.heap.size, 1, none⟩) (Below.heap_alloc w1 _ w.heap.size hs1)).trans ((hc1 _ _ (Nat.lt_succ_self _)).trans hcb1))
  have q3 : w2.cell? ⟨w1.heap.size, 3, none⟩ = some (.int .i64 (takesOf o)) := (hb.cell (p := ⟨w1.heap.size, 3, none⟩) (by simp)).trans (by simp [go_sem])
  have q5 : w2.cell? ⟨w1.heap.size, 5, none⟩ = some (.int .u8 (kindOf o)) := (hb.cell (p := ⟨w1.heap.size, 5, none⟩) (by simp)).trans (by simp [go_sem])
  have HB2 := Lib.hid (Bel.tr (Bel.al (Bel.of Hb1.out) _) hb)
  have HA2 := Lib.hid (HA.out.below HB2.out HA.out.blk)
  have HBb := Lib.hid (HB2.out.mono (Nat.le_of_lt HA.out.blk))
  clear hb hc1 hf1 hcb0 hcb1 Hnb hs1 hs2 Hb1 HA
  generalize w.heap.size = ib at *
  generalize w1.heap.size = rb at *
  by_cases hc : checkN o a = 0
  · have hce : ((checkN o a : Int) == 0) = true := by simp; exact hc
    have E := Lib.hid (show r = if kindOf o = 2 then (LS.mk cs n).two o true else if o = 1 then (0, ⟨cs, n⟩) else if o = 8 then LS.both ((LS.mk cs n).push a)
      else if isOne o = true then LS.both ((LS.mk cs n).one o) else if 36 ≤ o ∧ takesOf o = 2 then (LS.mk cs n).two o false else (1, ⟨cs, n⟩) from by rw [Hr.out]; unfold LS.take; rw [if_neg (by simp; exact hc)])
    by_cases hk : kindOf o = 2
    · have hke : ((kindOf o : Int) == 2) = true := by simp; omega
      have e := E.out
      rw [if_pos hk] at e
      have HT := Lib.hid (two_any HA2.out o true (fun _ => kind_branch hk))
      rw [← e] at HT
      clear e E
      go_wp2_with fail
      refine HT.out.mono ?_
      rintro e w3 ⟨rfl, hl, hb3⟩
      have HL := Lib.hid hl
      have HB3 := Lib.hid (HBb.out.trans hb3)
      clear hl hb3
      go_wp2
      go_ret
      exact ⟨rfl, HL.out, HB3.out⟩
    have hke : ((kindOf o : Int) == 2) = false := by simp; omega
    by_cases h1 : o = 1
    · subst h1
      have e := E.out
      rw [if_neg hk, if_pos rfl] at e
      go_wp2_with fail
      go_ret
      exact ⟨by rw [e]; rfl, by rw [e]; exact HA2.out, HBb.out⟩
    have h1e : ((o : Int) == 1) = false := by simp; omega
    by_cases h8 : o = 8
    · subst h8
      have e := E.out
      rw [if_neg hk, if_neg h1, if_pos rfl] at e
      have HT := Lib.hid (push_any HA2.out a ha)
      generalize LS.push ⟨cs, n⟩ a = r2 at e HT
      obtain ⟨d, r2⟩ := r2
      unfold LS.both at e
      simp only at HT e
      have e := Lib.hid e
      go_wp2_with fail
      refine HT.out.mono ?_
      rintro e w3 ⟨rfl, hl, hb3⟩
      have HL := Lib.hid hl
      have HB3 := Lib.hid (HBb.out.trans hb3)
      clear hl hb3
      cases d
      · go_wp2
        go_ret
        exact ⟨by rw [e.out]; rfl, by rw [e.out]; exact HL.out, HB3.out⟩
      · go_wp2
        go_ret
        exact ⟨by rw [e.out]; rfl, by rw [e.out]; exact HL.out, HB3.out⟩
    have h8e : ((o : Int) == 8) = false := by simp; omega
    by_cases hone : isOne o = true
    · have e := E.out
      rw [if_neg hk, if_neg h1, if_neg h8, if_pos hone] at e
      have HT := Lib.hid (one_any HA2.out o)
      generalize LS.one ⟨cs, n⟩ o = r2 at e HT
      obtain ⟨d, r2⟩ := r2
      unfold LS.both at e
      simp only at HT e
      have e := Lib.hid e
      simp only [isOne, Bool.or_eq_true, Bool.and_eq_true, beq_iff_eq, decide_eq_true_eq] at hone
      have hcase : (((o : Int) == 10) = true) ∨ (((o : Int) == 10) = false ∧ ((o : Int) == 11) = true) ∨ (((o : Int) == 10) = false ∧ ((o : Int) == 11) = false ∧ decide ((36 : Int) ≤ (o : Int)) = true ∧ ((takesOf o : Int) == 1) = true) := by
        by_cases a1 : o = 10
        · exact .inl (by simp; omega)
        · by_cases a2 : o = 11
          · exact .inr (.inl ⟨by simp; omega, by simp; omega⟩)
          · exact .inr (.inr ⟨by simp; omega, by simp; omega, by simp; omega, by simp; omega⟩)
      rcases hcase with k10 | ⟨k10, k11⟩ | ⟨k10, k11, k36, kt⟩
      all_goals
        go_wp2_with fail
        refine HT.out.mono ?_
        rintro e w3 ⟨rfl, hl, hb3⟩
        have HL := Lib.hid hl
        have HB3 := Lib.hid (HBb.out.trans hb3)
        clear hl hb3
        cases d
        · go_wp2
          go_ret
          exact ⟨by rw [e.out]; rfl, by rw [e.out]; exact HL.out, HB3.out⟩
        · go_wp2
          go_ret
          exact ⟨by rw [e.out]; rfl, by rw [e.out]; exact HL.out, HB3.out⟩
    by_cases htwo : 36 ≤ o ∧ takesOf o = 2
    · have e := E.out
      rw [if_neg hk, if_neg h1, if_neg h8, if_neg hone, if_pos htwo] at e
      have HT := Lib.hid (two_any HA2.out o false (fun h => by cases h))
      rw [← e] at HT
      clear e E
      have k10 : ((o : Int) == 10) = false := by simp; omega
      have k11 : ((o : Int) == 11) = false := by simp; omega
      have k36 : decide ((36 : Int) ≤ (o : Int)) = true := by simp; omega
      have kt : ((takesOf o : Int) == 1) = false := by simp; omega
      have kt2 : ((takesOf o : Int) == 2) = true := by simp; omega
      go_wp2_with fail
      refine HT.out.mono ?_
      rintro e w3 ⟨rfl, hl, hb3⟩
      have HL := Lib.hid hl
      have HB3 := Lib.hid (HBb.out.trans hb3)
      clear hl hb3
      go_wp2
      go_ret
      exact ⟨rfl, HL.out, HB3.out⟩
    · have e := E.out
      rw [if_neg hk, if_neg h1, if_neg h8, if_neg hone, if_neg htwo] at e
      simp only [isOne, Bool.or_eq_true, Bool.and_eq_true, beq_iff_eq, decide_eq_true_eq, not_or, not_and] at hone htwo
      have k10 : ((o : Int) == 10) = false := by simp; omega
      have k11 : ((o : Int) == 11) = false := by simp; omega
      by_cases h36 : 36 ≤ o
      · have k36 : decide ((36 : Int) ≤ (o : Int)) = true := by simp; omega
        have kt : ((takesOf o : Int) == 1) = false := by have := hone.2 h36; simp; omega
        have kt2 : ((takesOf o : Int) == 2) = false := by have := htwo h36; simp; omega
        go_wp2_with fail
        go_ret
        exact ⟨by rw [e]; rfl, by rw [e]; exact HA2.out, HBb.out⟩
      · have k36 : decide ((36 : Int) ≤ (o : Int)) = false := by simp; omega
        go_wp2_with fail
        go_ret
        exact ⟨by rw [e]; rfl, by rw [e]; exact HA2.out, HBb.out⟩
  · have hce : ((checkN o a : Int) == 0) = false := by simp; exact hc
    have e : r = (1, ⟨cs, n⟩) := by rw [Hr.out]; unfold LS.take; rw [if_pos hc]
    go_wp2_with fail
    go_ret
    exact ⟨by rw [e]; rfl, by rw [e]; exact HA2.out, HBb.out⟩
end Go.Proofs.Ytfoaibfncjnbdaa
