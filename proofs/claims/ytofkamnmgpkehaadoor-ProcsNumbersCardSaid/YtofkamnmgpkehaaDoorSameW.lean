import Derived.Test.YtofkamnmgpkehaaDoorTwo
/- The walk of ProcsSame. -/
namespace Go.Proofs.YtofkamnmgpkehaaDoor
open Go.RowKit
theorem mem_zero (n y : Nat) : mem (List.replicate n 0) y = false := by
  unfold mem
  rw [List.getD_eq_getElem?_getD, List.getElem?_replicate]
  split <;> simp
theorem two_same {W : World} {B1 b1 B2 b2 N1 N2 : Nat} {v1 v2 : Value} {w1 w2 : List Nat} {f : Nat → Bool} (hA : SetAt W B1 b1 v1 N1 w1) (hB : SetAt W B2 b2 v2 N2 w2) (hT : TabAt W)
    (h1 : ∀ y, mem w1 y = f y) (h2 : ∀ y, mem w2 y = f y) (hf : ∀ y, f y = true → y < N2) :
    Calls Tryd.prog 9 #[.pointer (some ⟨b1, 0, none⟩), .pointer (some ⟨b2, 0, none⟩)] W fun e w' => e = .returned (.bool true) ∧ Below W.heap.size W w' := by
  refine same_yesW hA hB hT ?_ ?_
  · rw [sum_of h1 (m := 64 * (w1.length + w2.length)) (by omega), sum_of h2 (m := 64 * (w1.length + w2.length)) (by omega)]
  · intro x hx
    obtain ⟨y, rfl, -, hy⟩ := eW_mem _ _ _ hx
    rw [h1] at hy
    rw [show 64 * 0 + y = y from by omega, h2]
    exact ⟨hf y hy, hy⟩
theorem two_diff {W : World} {B1 b1 B2 b2 N1 N2 : Nat} {v1 v2 : Value} {w1 w2 : List Nat} {f : Nat → Bool} {x : Nat} (hA : SetAt W B1 b1 v1 N1 w1) (hB : SetAt W B2 b2 v2 N2 w2)
    (h1 : ∀ y, mem w1 y = f y) (h2 : ∀ y, mem w2 y = (f y || decide (y = x))) (hx : f x = false) :
    Calls Tryd.prog 9 #[.pointer (some ⟨b1, 0, none⟩), .pointer (some ⟨b2, 0, none⟩)] W fun e w' => e = .returned (.bool false) ∧ Below W.heap.size W w' := by
  refine same_noW (m := (w1.map pop).sum) (n := (w2.map pop).sum) ?_ (fun w' hb => len_any (hA.below hb)) (fun w' hb => len_any (hB.below hb))
  rw [sum_of h1 (m := 64 * (w1.length + w2.length) + x + 1) (by omega), sum_of h2 (m := 64 * (w1.length + w2.length) + x + 1) (by omega), cnt_set _ x f (by omega) hx]
  omega
set_option maxRecDepth 100000 in
set_option maxHeartbeats 4000000 in
theorem procsSame_full (vl vm : Value) (l more : List Nat) (w : World) (hl : RowU w w.heap.size vl l) (hm : RowU w w.heap.size vm more) (hT : TabAt w) :
    Calls Tryd.prog 5 #[vl, vm] w fun e w' => e = .returned (.bool true) ∧ Below w.heap.size w w' := by
  obtain ⟨al, cl, rfl, hlc, hlm, hl32, hlp⟩ := hl
  obtain ⟨am, cm, rfl, hmc, hmm, hm32, hmp⟩ := hm
  have hlL : l.length ≤ 9223372036854775807 := by unfold maxLen at hlm; omega
  have hmL : more.length ≤ 9223372036854775807 := by unfold maxLen at hmm; omega
  have Hlp := Lib.hid hlp
  have Hmp := Lib.hid hmp
  have Hl32 := Lib.hid hl32
  have Hm32 := Lib.hid hm32
  have HT := Lib.hid hT
  clear hlp hmp hl32 hm32 hT hlm hmm
  obtain ⟨n, hn⟩ : ∃ n, n = l.length := ⟨_, rfl⟩
  have HN := Lib.hid hn
  obtain ⟨m, hmn⟩ : ∃ m, m = more.length := ⟨_, rfl⟩
  have HM := Lib.hid hmn
  rw [← hn] at hlc hlL ⊢
  rw [← hmn] at hmc hmL ⊢
  clear hn hmn
  have HS1 := Lib.hid (newset_any 65536 (by decide) w)
  go_enter Tryd.func5, Tryd.ntmps5
  go_wp2_with fail
  refine HS1.out.mono ?_
  rintro e wa ⟨b1, v1, rfl, hs1, hba⟩
  have HS2 := Lib.hid (newset_any 131072 (by decide) wa)
  have Hs1 := Lib.hid hs1
  have Hba := Lib.hid hba
  clear hs1 hba HS1
  go_wp2_with fail
  refine HS2.out.mono ?_
  rintro e wb ⟨b2, v2, rfl, hs2, hbb⟩
  have h1a : b1 < wa.heap.size := World.block_lt_of_cell? _ _ Hs1.out.c0
  have hTS : TwoSets w wb b1 v1 65536 (List.replicate ((65536 + 63) / 64) 0) b2 v2 131072 (List.replicate ((131072 + 63) / 64) 0) :=
    ⟨Hs1.out.below hbb, hs2.low Hba.out.size, fun e => by have := (Hs1.out.ow.lt _ e).2; have := hs2.hb; omega, fun e => by have := (hs2.ow.lt _ e).1; omega,
      fun g e e2 => by have := (Hs1.out.ow.lt _ e).2; have := (hs2.ow.lt _ e2).1; omega, Bel.tr Hba.out hbb⟩
  have HTS := Lib.hid hTS
  clear hs2 hbb hTS Hs1 HS2 Hba h1a
  go_wp2_with fail
  go_loopw [9] (fun i wr => ∃ (k : Nat) (w2 : List Nat), k ≤ m ∧ i = .int .i64 k ∧ TwoSets w wr b1 v1 65536 (List.replicate ((65536 + 63) / 64) 0) b2 v2 131072 w2 ∧ ∀ y, mem w2 y = inT (more.take k) y) (fun i _ => m - (intOf i).toNat)
  case atStart => exact ⟨0, _, by omega, rfl, HTS.out, fun y => by rw [mem_zero]; simp [inT]⟩
  case round =>
    clear HTS
    obtain ⟨k, w2, hk, rfl, hts, hmem⟩ := hrel
    by_cases hlt' : k < m
    · obtain ⟨jb, joff, rfl, hjb, hjc⟩ := Hmp.out (by rw [← HM.out]; omega)
      have hjq := (hts.lo.cell (p := ⟨jb, joff + k, none⟩) hjb).trans (hjc k (by rw [← HM.out]; exact hlt'))
      have hadd := add_any hts.b (more.getD k 0 % 65536) (by omega)
      have hx32 := Hm32.out k
      have hsn := fun y => inT_snoc more k y (by rw [← HM.out]; exact hlt')
      have Hadd := Lib.hid hadd
      have Hts := Lib.hid hts
      have Hmem := Lib.hid hmem
      have Hsn := Lib.hid hsn
      have hki : (k : Int) < (m : Int) := by omega
      have hk0 : (0 : Int) ≤ (k : Int) := by omega
      have hmod : ((more.getD k 0 : Nat) : Int) % 65536 = ((more.getD k 0 % 65536 : Nat) : Int) := by omega
      have hlt65 : more.getD k 0 % 65536 < 131072 := by omega
      clear hadd hts hmem hsn hjc
      generalize more.getD k 0 % 65536 = x at *
      generalize more.getD k 0 = z at *
      go_wp2_with fail
      refine Hadd.out.mono ?_
      rintro e wc ⟨rfl, hg, w2', hs, hme⟩
      have HTS2 := Lib.hid (Hts.out.right hg hs)
      have HM2 := Lib.hid hme
      clear hg hs hme Hadd
      go_wp2
      go_roundw
      case rel => exact ⟨k + 1, w2', by omega, by go_num, HTS2.out, fun y => by rw [HM2.out, Hsn.out, Hmem.out, decide_eq_true hlt65, Bool.true_and]⟩
      case measure => simp [intOf]; omega
    · obtain rfl : m = k := by omega
      have hmem2 : ∀ y, mem w2 y = inT more y := fun y => by rw [hmem y, List.take_of_length_le (by rw [← HM.out]; exact Nat.le_refl _)]
      have Hmem := Lib.hid hmem2
      have Hts := Lib.hid hts
      clear hmem hmem2 hts hk hlt'
      go_wp2_with fail
      go_loopw [10] (fun i wr => ∃ (k : Nat) (w1 : List Nat), k ≤ n ∧ i = .int .i64 k ∧ TwoSets w wr b1 v1 65536 w1 b2 v2 131072 w2 ∧ ∀ y, mem w1 y = inT (l.take k) y) (fun i _ => n - (intOf i).toNat)
      case atStart => exact ⟨0, _, by omega, rfl, Hts.out, fun y => by rw [mem_zero]; simp [inT]⟩
      case round =>
        clear Hts
        obtain ⟨k, w1, hk, rfl, hts, hmem⟩ := hrel
        by_cases hlt' : k < n
        · obtain ⟨jb, joff, rfl, hjb, hjc⟩ := Hlp.out (by rw [← HN.out]; omega)
          have hjq := (hts.lo.cell (p := ⟨jb, joff + k, none⟩) hjb).trans (hjc k (by rw [← HN.out]; exact hlt'))
          have hadd := add_any hts.a (l.getD k 0 % 65536) (by omega)
          have hx32 := Hl32.out k
          have hsn := fun y => inT_snoc l k y (by rw [← HN.out]; exact hlt')
          have Hadd := Lib.hid hadd
          have Hts := Lib.hid hts
          have Hmem1 := Lib.hid hmem
          have Hsn := Lib.hid hsn
          have hki : (k : Int) < (n : Int) := by omega
          have hk0 : (0 : Int) ≤ (k : Int) := by omega
          have hmod : ((l.getD k 0 : Nat) : Int) % 65536 = ((l.getD k 0 % 65536 : Nat) : Int) := by omega
          have hlt65 : l.getD k 0 % 65536 < 65536 := by omega
          clear hadd hts hmem hsn hjc
          generalize l.getD k 0 % 65536 = x at *
          generalize l.getD k 0 = z at *
          go_wp2_with fail
          refine Hadd.out.mono ?_
          rintro e wc ⟨rfl, hg, w2', hs, hme⟩
          have HTS2 := Lib.hid (Hts.out.left hg hs)
          have HM2 := Lib.hid hme
          clear hg hs hme Hadd
          go_wp2
          go_roundw
          case rel => exact ⟨k + 1, w2', by omega, by go_num, HTS2.out, fun y => by rw [HM2.out, Hsn.out, Hmem1.out, decide_eq_true hlt65, Bool.true_and]⟩
          case measure => simp [intOf]; omega
        · obtain rfl : n = k := by omega
          have hmem2 : ∀ y, mem w1 y = inT l y := fun y => by rw [hmem y, List.take_of_length_le (by rw [← HN.out]; exact Nat.le_refl _)]
          have Hmem1 := Lib.hid hmem2
          have Hts := Lib.hid hts
          clear hmem hmem2 hts hk hlt'
          go_wp2_with fail
          go_loopw [11] (fun i wr => ∃ (k : Nat) (w2 : List Nat), k ≤ m ∧ i = .int .i64 k ∧ TwoSets w wr b1 v1 65536 w1 b2 v2 131072 w2 ∧ ∀ y, mem w2 y = (inT more y && !inT (more.take k) y)) (fun i _ => m - (intOf i).toNat)
          case atStart => exact ⟨0, _, by omega, rfl, Hts.out, fun y => by rw [Hmem.out y]; simp [inT]⟩
          case round =>
            clear Hts Hmem
            obtain ⟨k, w2, hk, rfl, hts, hmem⟩ := hrel
            by_cases hlt' : k < m
            · obtain ⟨jb, joff, rfl, hjb, hjc⟩ := Hmp.out (by rw [← HM.out]; omega)
              have hjq := (hts.lo.cell (p := ⟨jb, joff + k, none⟩) hjb).trans (hjc k (by rw [← HM.out]; exact hlt'))
              have hadd := drop_any hts.b (more.getD k 0 % 65536) (by omega)
              have hx32 := Hm32.out k
              have hsn := fun y => inT_snoc more k y (by rw [← HM.out]; exact hlt')
              have Hadd := Lib.hid hadd
              have Hts := Lib.hid hts
              have Hmem := Lib.hid hmem
              have Hsn := Lib.hid hsn
              have hki : (k : Int) < (m : Int) := by omega
              have hk0 : (0 : Int) ≤ (k : Int) := by omega
              have hmod : ((more.getD k 0 : Nat) : Int) % 65536 = ((more.getD k 0 % 65536 : Nat) : Int) := by omega
              have hlt65 : more.getD k 0 % 65536 < 131072 := by omega
              clear hadd hts hmem hsn hjc
              generalize more.getD k 0 % 65536 = x at *
              generalize more.getD k 0 = z at *
              go_wp2_with fail
              refine Hadd.out.mono ?_
              rintro e wc ⟨rfl, hg, w2', hs, hme⟩
              have HTS2 := Lib.hid (Hts.out.right hg hs)
              have HM2 := Lib.hid hme
              clear hg hs hme Hadd
              go_wp2
              go_roundw
              case rel => exact ⟨k + 1, w2', by omega, by go_num, HTS2.out, fun y => by rw [HM2.out, Hsn.out, Hmem.out, decide_eq_true hlt65, Bool.true_and, Bool.not_or, Bool.and_assoc]⟩
              case measure => simp [intOf]; omega
            · obtain rfl : m = k := by omega
              have hmem2 : ∀ y, mem w2 y = false := fun y => by rw [hmem y, List.take_of_length_le (by rw [← HM.out]; exact Nat.le_refl _), Bool.and_not_self]
              have Hmem := Lib.hid hmem2
              have Hts := Lib.hid hts
              clear hmem hmem2 hts hk hlt'
              go_wp2_with fail
              go_loopw [12] (fun i wr => ∃ (k : Nat) (w2 : List Nat), k ≤ n ∧ i = .int .i64 ((k : Int) - 1) ∧ TwoSets w wr b1 v1 65536 w1 b2 v2 131072 w2 ∧ ∀ y, mem w2 y = inT (l.drop k) y) (fun i _ => (intOf i + 1).toNat)
              case atStart => exact ⟨n, _, by omega, by go_num, Hts.out, fun y => by rw [Hmem.out y, List.drop_of_length_le (by rw [← HN.out]; exact Nat.le_refl _)]; rfl⟩
              case round =>
                clear Hts Hmem
                obtain ⟨k, w2, hk, rfl, hts, hmem⟩ := hrel
                cases k with
                | succ k =>
                  have hlt' : k < n := by omega
                  obtain ⟨jb, joff, rfl, hjb, hjc⟩ := Hlp.out (by rw [← HN.out]; omega)
                  have hjq := (hts.lo.cell (p := ⟨jb, joff + k, none⟩) hjb).trans (hjc k (by rw [← HN.out]; exact hlt'))
                  have hadd := add_any hts.b (l.getD k 0 % 65536) (by omega)
                  have hx32 := Hl32.out k
                  have hsn := fun y => inT_drop l k y (by rw [← HN.out]; exact hlt')
                  have Hadd := Lib.hid hadd
                  have Hts := Lib.hid hts
                  have Hmem := Lib.hid hmem
                  have Hsn := Lib.hid hsn
                  have hki : (k : Int) < (n : Int) := by omega
                  have hk0 : (0 : Int) ≤ (k : Int) := by omega
                  have hke : ((k + 1 : Nat) : Int) - 1 = (k : Int) := by omega
                  have hmod : ((l.getD k 0 : Nat) : Int) % 65536 = ((l.getD k 0 % 65536 : Nat) : Int) := by omega
                  have hlt65 : l.getD k 0 % 65536 < 131072 := by omega
                  rw [hke]
                  clear hadd hts hmem hsn hjc
                  generalize l.getD k 0 % 65536 = x at *
                  generalize l.getD k 0 = z at *
                  go_wp2_with fail
                  refine Hadd.out.mono ?_
                  rintro e wc ⟨rfl, hg, w2', hs, hme⟩
                  have HTS2 := Lib.hid (Hts.out.right hg hs)
                  have HM2 := Lib.hid hme
                  clear hg hs hme Hadd
                  go_wp2
                  go_roundw
                  case rel => exact ⟨k, w2', by omega, by go_num, HTS2.out, fun y => by rw [HM2.out, Hsn.out, Hmem.out, decide_eq_true hlt65, Bool.true_and]⟩
                  case measure => simp [intOf]
                | zero =>
                  have hmem2 : ∀ y, mem w2 y = inT l y := fun y => by rw [hmem y, List.drop_zero]
                  have Hmem := Lib.hid hmem2
                  have Hts := Lib.hid hts
                  clear hmem hmem2 hts hk
                  have hf1 : ∀ y, inT l y = true → y < 65536 := fun y h => inT_lt h
                  have HF := Lib.hid hf1
                  have HC1 := Lib.hid (two_same Hts.out.a Hts.out.b (HT.out.below Hts.out.lo) Hmem1.out Hmem.out (fun y h => by have := HF.out y h; omega))
                  clear hf1
                  go_wp2_with fail
                  refine HC1.out.mono ?_
                  rintro e wc1 ⟨rfl, hb⟩
                  have HT1 := Lib.hid (Hts.out.below hb)
                  clear hb Hts HC1
                  have HC2 := Lib.hid (two_same HT1.out.b HT1.out.a (HT.out.below HT1.out.lo) Hmem.out Hmem1.out HF.out)
                  go_wp2_with fail
                  refine HC2.out.mono ?_
                  rintro e wc2 ⟨rfl, hb⟩
                  have HT2 := Lib.hid (HT1.out.below hb)
                  clear hb HT1 HC2
                  have hs1 := sum_of Hmem1.out (m := 64 * (w1.length + w2.length)) (by omega)
                  have hs2 := sum_of Hmem.out (m := 64 * (w1.length + w2.length)) (by omega)
                  have hsn : cnt (64 * (w1.length + w2.length)) (inT l) ≤ n := by
                    have := cnt_inT (64 * (w1.length + w2.length)) l n
                    rwa [List.take_of_length_le (by rw [← HN.out]; exact Nat.le_refl _)] at this
                  have hL1 := len_any HT2.out.a
                  have hL2 := len_any HT2.out.b
                  rw [hs1] at hL1
                  rw [hs2] at hL2
                  generalize cnt (64 * (w1.length + w2.length)) (inT l) = c at *
                  have HL1 := Lib.hid hL1
                  have HL2 := Lib.hid hL2
                  clear hL1 hL2 hs1 hs2
                  have hcc : ((c : Int) != (c : Int)) = false := by simp
                  have hcn : decide ((n : Int) < (c : Int)) = false := decide_eq_false (by omega)
                  go_wp2_with fail
                  refine HL1.out.mono ?_
                  rintro e wc3 ⟨rfl, rfl⟩
                  go_wp2_with fail
                  refine HL2.out.mono ?_
                  rintro e wc4 ⟨rfl, rfl⟩
                  go_wp2_with fail
                  refine HL1.out.mono ?_
                  rintro e wc5 ⟨rfl, rfl⟩
                  go_wp2_with fail
                  have hinm := fun k (hk : k < n) => inT_mem l k (by rw [← HN.out]; exact hk)
                  have HIM := Lib.hid hinm
                  have hcn2 : decide (n < c) = false := decide_eq_false (by omega)
                  simp only [hcn2]
                  clear hinm HL1 HL2 hcc hcn hcn2 hsn
                  go_loopw [4, 13] (fun r i wr => ∃ (k : Nat), k ≤ n ∧ r = .bool false ∧ i = .int .i64 k ∧ TwoSets w wr b1 v1 65536 w1 b2 v2 131072 w2) (fun _ i _ => n - (intOf i).toNat)
                  case atStart => exact ⟨0, by omega, rfl, rfl, HT2.out⟩
                  case round =>
                    clear HT2
                    obtain ⟨k, hk, rfl, rfl, hts⟩ := hrel
                    by_cases hlt' : k < n
                    · obtain ⟨jb, joff, rfl, hjb, hjc⟩ := Hlp.out (by rw [← HN.out]; omega)
                      have hjq := (hts.lo.cell (p := ⟨jb, joff + k, none⟩) hjb).trans (hjc k (by rw [← HN.out]; exact hlt'))
                      have hhas := has_any hts.a (l.getD k 0 % 65536) (by omega)
                      have hx32 := Hl32.out k
                      have hyes := HIM.out k hlt'
                      have hki : (k : Int) < (n : Int) := by omega
                      have hk0 : (0 : Int) ≤ (k : Int) := by omega
                      have hmod : ((l.getD k 0 : Nat) : Int) % 65536 = ((l.getD k 0 % 65536 : Nat) : Int) := by omega
                      have hlt65 : l.getD k 0 % 65536 < 65536 := by omega
                      rw [Hmem1.out, hyes, decide_eq_true hlt65] at hhas
                      have Hhas := Lib.hid hhas
                      have Hts := Lib.hid hts
                      clear hhas hts hyes hjc
                      generalize l.getD k 0 % 65536 = x at *
                      generalize l.getD k 0 = z at *
                      go_wp2_with fail
                      refine Hhas.out.mono ?_
                      rintro e wc6 ⟨rfl, rfl⟩
                      go_wp2
                      go_roundw
                      case rel => exact ⟨k + 1, by omega, rfl, by go_num, Hts.out⟩
                      case measure => simp [intOf]; omega
                    · obtain rfl : n = k := by omega
                      have hadd := add_any hts.b 65536 (by omega)
                      have hno : inT l 65536 = false := by
                        cases h : inT l 65536
                        · rfl
                        · exact absurd (HF.out _ h) (by omega)
                      rw [Hmem.out, hno] at hadd
                      have Hadd := Lib.hid hadd
                      have Hts := Lib.hid hts
                      have Hno := Lib.hid hno
                      clear hadd hts hno hk hlt'
                      go_wp2_with fail
                      refine Hadd.out.mono ?_
                      rintro e wc6 ⟨rfl, hg, w2', hs, hme⟩
                      have HT3 := Lib.hid (Hts.out.right hg hs)
                      have HD := Lib.hid (two_diff HT3.out.a HT3.out.b Hmem1.out (x := 65536) (fun y => by rw [hme, Hmem.out]; rfl) Hno.out)
                      clear hg hs hme Hadd Hts
                      go_wp2_with fail
                      refine HD.out.mono ?_
                      rintro e wc7 ⟨rfl, hb⟩
                      have HT4 := Lib.hid (HT3.out.below hb)
                      have hadd := add_any HT4.out.a 65536 (by omega)
                      rw [show decide (65536 < 65536) = false from rfl] at hadd
                      have Hadd := Lib.hid hadd
                      clear hb HT3 HD hadd
                      go_wp2_with fail
                      refine Hadd.out.mono ?_
                      rintro e wc8 ⟨rfl, hg, w1', hs, -⟩
                      have HT5 := Lib.hid (HT4.out.left hg hs)
                      clear hg hs
                      go_wp2_with fail
                      go_ret
                      exact ⟨rfl, HT5.out.lo⟩
end Go.Proofs.YtofkamnmgpkehaaDoor
