import Derived.Test.YtofkamnmgpkehaaDoorIntG
import Derived.Test.YtofkamnmgpkehaaDoorSetsW
/- The walk of ProcsNumbers. -/
namespace Go.Proofs.YtofkamnmgpkehaaDoor.I
open Go.RowKit
attribute [local go_sem] Oper.semAt_some
structure Four (w W : World) (b1 : Nat) (v1 : Value) (N1 b2 : Nat) (v2 : Value) (N2 : Nat) (vl vm : Value) (l m : List Nat) : Prop where
  two : ∃ w1 w2, TwoSets w W b1 v1 N1 w1 b2 v2 N2 w2 ∧ IsB N1 w1 l ∧ IsB N2 w2 m
  rl : W.ownsRow w.heap.size 3 1 vl l.length (encN .i64 l)
  rm : W.ownsRow w.heap.size 3 1 vm m.length (encN .i64 m)
  a1 : ∀ g, vl.ownBlock = some g → v1.ownBlock ≠ some g ∧ v2.ownBlock ≠ some g
  a2 : ∀ g, vm.ownBlock = some g → v1.ownBlock ≠ some g ∧ v2.ownBlock ≠ some g
theorem Four.lo {w W : World} {b1 N1 b2 N2 : Nat} {v1 v2 vl vm : Value} {l m : List Nat} (h : Four w W b1 v1 N1 b2 v2 N2 vl vm l m) : Below w.heap.size w W := by
  obtain ⟨_, _, h, -⟩ := h.two
  exact h.lo
theorem Four.below {w W W' : World} {b1 N1 b2 N2 : Nat} {v1 v2 vl vm : Value} {l m : List Nat} (h : Four w W b1 v1 N1 b2 v2 N2 vl vm l m) (hb : Below W.heap.size W W') : Four w W' b1 v1 N1 b2 v2 N2 vl vm l m := by
  obtain ⟨⟨w1, w2, ht, i1, i2⟩, rl, rm, a1, a2⟩ := h
  exact ⟨⟨w1, w2, ht.below hb, i1, i2⟩, own_below rl hb, own_below rm hb, a1, a2⟩
theorem Four.left {w W W' : World} {b1 N1 b2 N2 : Nat} {v1 v2 vl vm vl' : Value} {l m l' ws' : List Nat} (h : Four w W b1 v1 N1 b2 v2 N2 vl vm l m) (hg : W.grownBy W' v1.ownBlock) (hs : SetAt W' w.heap.size b1 v1 N1 ws') (hi : IsB N1 ws' l')
    (hr : W'.ownsRow 0 3 1 vl' l'.length (encN .i64 l')) (hf : ∀ g, vl'.ownBlock = some g → vl.ownBlock = some g ∨ W.heap.size ≤ g) : Four w W' b1 v1 N1 b2 v2 N2 vl' vm l' m := by
  obtain ⟨⟨w1, w2, ht, i1, i2⟩, rl, rm, a1, a2⟩ := h
  refine ⟨⟨ws', w2, ht.left hg hs, hi, i2⟩, own_from hr (fun g e => ?_), own_grown rm hg (fun g e => (a2 g e).1), fun g e => ?_, a2⟩
  · rcases hf g e with h' | h'
    · exact (rl.lt g h').1
    · exact Nat.le_trans ht.lo.size h'
  · rcases hf g e with h' | h'
    · exact a1 g h'
    · exact ⟨fun e1 => by have := (ht.a.ow.lt g e1).2; omega, fun e1 => by have := (ht.b.ow.lt g e1).2; omega⟩
theorem Four.right {w W W' : World} {b1 N1 b2 N2 : Nat} {v1 v2 vl vm vm' : Value} {l m m' ws' : List Nat} (h : Four w W b1 v1 N1 b2 v2 N2 vl vm l m) (hg : W.grownBy W' v2.ownBlock) (hs : SetAt W' w.heap.size b2 v2 N2 ws') (hi : IsB N2 ws' m')
    (hr : W'.ownsRow 0 3 1 vm' m'.length (encN .i64 m')) (hf : ∀ g, vm'.ownBlock = some g → vm.ownBlock = some g ∨ W.heap.size ≤ g) : Four w W' b1 v1 N1 b2 v2 N2 vl vm' l m' := by
  obtain ⟨⟨w1, w2, ht, i1, i2⟩, rl, rm, a1, a2⟩ := h
  refine ⟨⟨w1, ws', ht.right hg hs, i1, hi⟩, own_grown rl hg (fun g e => (a1 g e).2), own_from hr (fun g e => ?_), a1, fun g e => ?_⟩
  · rcases hf g e with h' | h'
    · exact (rm.lt g h').1
    · exact Nat.le_trans ht.lo.size h'
  · rcases hf g e with h' | h'
    · exact a2 g h'
    · exact ⟨fun e1 => by have := (ht.a.ow.lt g e1).2; omega, fun e1 => by have := (ht.b.ow.lt g e1).2; omega⟩
/-- A script that came in, and its numbers are int64's. -/
def StepsI (w : World) (B : Nat) (v : Value) (s : List (Int × Int × Int)) : Prop := StepsU w B v s ∧ ∀ k, (s.getD k (0, 0, 0)).2.2 < 9223372036854775808
set_option maxRecDepth 100000 in
set_option maxHeartbeats 4000000 in
/-- The walk of ProcsNumbers. -/
theorem procsNumbers_full (x y : Int) (vs : Value) (s : List (Int × Int × Int)) (w : World) (hs : StepsI w w.heap.size vs s) (hT : TabAt w) :
    Calls Tryd.prog 4 #[.int .i64 x, .int .i64 y, vs] w fun e w' => e = .returned (.bool true) ∧ Below w.heap.size w w' := by
  obtain ⟨⟨asl, cs, rfl, hsc, hsm, hsp⟩, hX⟩ := hs
  have HX := Lib.hid hX
  have hsL : s.length ≤ 9223372036854775807 := by unfold maxLen at hsm; omega
  have Hsp := Lib.hid hsp
  have HT := Lib.hid hT
  have h0w : 0 < w.heap.size := Nat.lt_of_le_of_lt (Nat.zero_le _) (World.block_lt_of_cell? _ _ (hT 0 (by omega)))
  obtain ⟨n, hn⟩ : ∃ n, n = s.length := ⟨_, rfl⟩
  have HN := Lib.hid hn
  rw [← hn] at hsc hsL ⊢
  clear hn hsp hsm hT
  have HPa := Lib.hid (pick_any x 1048577 (by omega) (by omega) w)
  have HPb := Lib.hid (pick_any y 70 (by omega) (by omega) w)
  go_enter Tryd.func4, Tryd.ntmps4
  go_wp2_with fail
  refine HPa.out.mono ?_
  rintro e wp ⟨⟨N1, hN1, rfl⟩, hwp⟩
  have hwp' := hwp.symm
  subst hwp'
  clear hwp HPa
  go_wp2_with fail
  refine HPb.out.mono ?_
  rintro e wp ⟨⟨N2, hN2, rfl⟩, hwp⟩
  have hwp' := hwp.symm
  subst hwp'
  clear hwp HPb
  have hN1 : N1 ≤ 1048576 := by omega
  have hN2 : N2 ≤ 1048576 := by omega
  have HS1 := Lib.hid (newset_any N1 hN1 w)
  have ha0 : (0 : Int) ≤ (N1 : Int) := by omega
  have ha1 : (N1 : Int) ≤ 1048576 := by omega
  have hc0 : (0 : Int) ≤ (N2 : Int) := by omega
  have hc1 : (N2 : Int) ≤ 1048576 := by omega
  go_wp2_with fail
  refine HS1.out.mono ?_
  rintro e wa ⟨b1, v1, rfl, hs1, hba⟩
  have HS2 := Lib.hid (newset_any N2 hN2 wa)
  have Hs1 := Lib.hid hs1
  have Hba := Lib.hid hba
  clear hs1 hba HS1
  go_wp2_with fail
  refine HS2.out.mono ?_
  rintro e wb ⟨b2, v2, rfl, hs2, hbb⟩
  have h1a : b1 < wa.heap.size := World.block_lt_of_cell? _ _ Hs1.out.c0
  have hTS : TwoSets w wb b1 v1 N1 (List.replicate ((N1 + 63) / 64) 0) b2 v2 N2 (List.replicate ((N2 + 63) / 64) 0) :=
    ⟨Hs1.out.below hbb, hs2.low Hba.out.size, fun e => by have := (Hs1.out.ow.lt _ e).2; have := hs2.hb; omega, fun e => by have := (hs2.ow.lt _ e).1; omega,
      fun g e e2 => by have := (Hs1.out.ow.lt _ e).2; have := (hs2.ow.lt _ e2).1; omega, Bel.tr Hba.out hbb⟩
  have HF := Lib.hid (show Four w wb b1 v1 N1 b2 v2 N2 (.slice none 0 0) (.slice none 0 0) [] [] from ⟨⟨_, _, hTS, ⟨is_nil _, fun x hx => by cases hx⟩, ⟨is_nil _, fun x hx => by cases hx⟩⟩, World.ownsRow_nil _ _ _ _, World.ownsRow_nil _ _ _ _, (fun g e => by cases e), (fun g e => by cases e)⟩)
  clear hs2 hbb hTS Hs1 HS2 Hba h1a
  go_wp2_with fail
  go_loopw [6, 11, 12, 13] (fun r vl vm i wr => ∃ (k : Nat) (l m : List Nat), k ≤ n ∧ r = .bool false ∧ i = .int .i64 k ∧ Four w wr b1 v1 N1 b2 v2 N2 vl vm l m) (fun _ _ _ i _ => n - (intOf i).toNat)
  case atStart => exact ⟨0, [], [], by omega, rfl, rfl, HF.out⟩
  case round =>
    clear HF
    obtain ⟨k, l, m, hk, rfl, rfl, hf⟩ := hrel
    by_cases hlt : k < n
    · obtain ⟨sb, soff, rfl, hsb, hsc3⟩ := Hsp.out (by rw [← HN.out]; omega)
      obtain ⟨q0, q1, q2⟩ := hsc3 k (by rw [← HN.out]; exact hlt)
      have hXk := HX.out k
      have hq0 := (hf.lo.cell (p := ⟨sb, soff + k * 3, none⟩) hsb).trans q0
      have hq1 := (hf.lo.cell (p := ⟨sb, soff + k * 3 + 1, none⟩) hsb).trans q1
      have hq2 := (hf.lo.cell (p := ⟨sb, soff + k * 3 + 2, none⟩) hsb).trans q2
      clear q0 q1 q2 hsc3
      generalize s.getD k (0, 0, 0) = st at *
      obtain ⟨On, Kind, X⟩ := st
      simp only at hq0 hq1 hq2 hXk
      have hki : (k : Int) < (n : Int) := by omega
      have hk0 : (0 : Int) ≤ (k : Int) := by omega
      have HF2 := Lib.hid (hf.below (Bel.new wr (.cells #[.int .i64 On, .int .i64 Kind, .int .i64 X] 30)))
      clear hf
      by_cases hKn : Kind < 0
      · have hd1 : decide (Kind < 0) = true := decide_eq_true hKn
        have HSW := Lib.hid (samewords_any u11 u12 l m _ (Reads.own HF2.out.rl Nat.one_pos) (Reads.own HF2.out.rm Nat.one_pos))
        go_wp2_with fail
        refine HSW.out.mono ?_
        rintro e w3 ⟨rfl, hb3⟩
        have HF3 := Lib.hid (HF2.out.below hb3)
        clear hb3 HSW HF2
        obtain ⟨w1, w2, ht, i1, i2⟩ := HF3.out.two
        have HS3 := Lib.hid (same_any ht.a ht.b (HT.out.below ht.lo) i1 i2)
        clear ht i1 i2
        go_wp2_with fail
        refine HS3.out.mono ?_
        rintro e w4 ⟨rfl, hb4⟩
        have HF4 := Lib.hid (HF3.out.below hb4)
        clear hb4 HS3 HF3
        obtain ⟨w1, w2, ht, i1, i2⟩ := HF4.out.two
        have hs4 := same_any ht.b ht.a (HT.out.below ht.lo) i2 i1
        rw [show decide (m = l) = decide (l = m) from decide_eq_decide.2 eq_comm] at hs4
        have HS4 := Lib.hid hs4
        have hbb : (decide (l = m) == decide (l = m)) = true := by simp
        clear ht i1 i2 hs4
        generalize decide (l = m) = d at *
        go_wp2_with fail
        refine HS4.out.mono ?_
        rintro e w5 ⟨rfl, hb5⟩
        have HF5 := Lib.hid (HF4.out.below hb5)
        clear hb5 HS4 HF4
        go_wp2
        go_roundw
        case rel => exact ⟨k + 1, l, m, by omega, rfl, by go_num, HF5.out⟩
        case measure => simp [intOf]; omega
      · by_cases hKp : 4 < Kind
        · have hd1 : decide (Kind < 0) = false := decide_eq_false hKn
          have hd2 : decide (4 < Kind) = true := decide_eq_true hKp
          have HSW := Lib.hid (samewords_any u11 u12 l m _ (Reads.own HF2.out.rl Nat.one_pos) (Reads.own HF2.out.rm Nat.one_pos))
          go_wp2_with fail
          refine HSW.out.mono ?_
          rintro e w3 ⟨rfl, hb3⟩
          have HF3 := Lib.hid (HF2.out.below hb3)
          clear hb3 HSW HF2
          obtain ⟨w1, w2, ht, i1, i2⟩ := HF3.out.two
          have HS3 := Lib.hid (same_any ht.a ht.b (HT.out.below ht.lo) i1 i2)
          clear ht i1 i2
          go_wp2_with fail
          refine HS3.out.mono ?_
          rintro e w4 ⟨rfl, hb4⟩
          have HF4 := Lib.hid (HF3.out.below hb4)
          clear hb4 HS3 HF3
          obtain ⟨w1, w2, ht, i1, i2⟩ := HF4.out.two
          have hs4 := same_any ht.b ht.a (HT.out.below ht.lo) i2 i1
          rw [show decide (m = l) = decide (l = m) from decide_eq_decide.2 eq_comm] at hs4
          have HS4 := Lib.hid hs4
          have hbb : (decide (l = m) == decide (l = m)) = true := by simp
          clear ht i1 i2 hs4
          generalize decide (l = m) = d at *
          go_wp2_with fail
          refine HS4.out.mono ?_
          rintro e w5 ⟨rfl, hb5⟩
          have HF5 := Lib.hid (HF4.out.below hb5)
          clear hb5 HS4 HF4
          go_wp2
          go_roundw
          case rel => exact ⟨k + 1, l, m, by omega, rfl, by go_num, HF5.out⟩
          case measure => simp [intOf]; omega
        · have hd1 : decide (Kind < 0) = false := decide_eq_false hKn
          have hd2 : decide (4 < Kind) = false := decide_eq_false hKp
          have HP := Lib.hid (pick_any On 2 (by omega) (by omega) (wr.alloc (.cells #[.int .i64 On, .int .i64 Kind, .int .i64 X] 30)))
          go_wp2_with fail
          refine HP.out.mono ?_
          rintro e wp ⟨⟨p, hp, rfl⟩, hwp⟩
          have hwp' := hwp.symm
          subst hwp'
          clear hwp HP
          rcases (show p = 0 ∨ p = 1 by omega) with rfl | rfl
          · obtain ⟨w1, w2, ht, i1, i2⟩ := HF2.out.two
            have HSt := Lib.hid (step_any ht.a (HT.out.below ht.lo) i1 u11 (own_base HF2.out.rl) (fun g e => (HF2.out.a1 g e).1) On Kind X hXk (by omega) (by omega))
            clear ht i1 i2
            go_wp2_with fail
            refine HSt.out.mono ?_
            rintro e w3 ⟨v', l', ws', rfl, hg3, hs3, hi3, hr3, hf3⟩
            have HF3 := Lib.hid (HF2.out.left hg3 hs3 hi3 hr3 hf3)
            clear hg3 hs3 hi3 hr3 hf3 HSt HF2
            go_wp2
            go_roundw
            case rel => exact ⟨k + 1, l', m, by omega, rfl, by go_num, HF3.out⟩
            case measure => simp [intOf]; omega
          · obtain ⟨w1, w2, ht, i1, i2⟩ := HF2.out.two
            have HSt := Lib.hid (step_any ht.b (HT.out.below ht.lo) i2 u12 (own_base HF2.out.rm) (fun g e => (HF2.out.a2 g e).2) On Kind X hXk (by omega) (by omega))
            clear ht i1 i2
            go_wp2_with fail
            refine HSt.out.mono ?_
            rintro e w3 ⟨v', l', ws', rfl, hg3, hs3, hi3, hr3, hf3⟩
            have HF3 := Lib.hid (HF2.out.right hg3 hs3 hi3 hr3 hf3)
            clear hg3 hs3 hi3 hr3 hf3 HSt HF2
            go_wp2
            go_roundw
            case rel => exact ⟨k + 1, l, l', by omega, rfl, by go_num, HF3.out⟩
            case measure => simp [intOf]; omega
    · obtain rfl : n = k := by omega
      obtain ⟨al, cl, rfl, -, -, -⟩ := own_sl hf.rl
      obtain ⟨am, cm, rfl, -, -, -⟩ := own_sl hf.rm
      obtain ⟨w1, w2, ht, i1, i2⟩ := hf.two
      have HA2 := Lib.hid (allwords_any ht.a (HT.out.below ht.lo) i1 _ (Reads.own hf.rl Nat.one_pos) (l.length : Int))
      have Hf := Lib.hid hf
      clear ht i1 i2 hf
      go_wp2_with fail
      refine HA2.out.mono ?_
      rintro e w3 ⟨rfl, hb3⟩
      have HF3 := Lib.hid (Hf.out.below hb3)
      clear hb3 HA2 Hf
      obtain ⟨w1, w2, ht, i1, i2⟩ := HF3.out.two
      have HA3 := Lib.hid (allwords_any ht.b (HT.out.below ht.lo) i2 _ (Reads.own HF3.out.rm Nat.one_pos) (m.length : Int))
      clear ht i1 i2
      go_wp2_with fail
      refine HA3.out.mono ?_
      rintro e w4 ⟨rfl, hb4⟩
      have HF4 := Lib.hid (HF3.out.below hb4)
      clear hb4 HA3 HF3
      go_wp2_with fail
      go_ret
      exact ⟨by simp, HF4.out.lo⟩
end Go.Proofs.YtofkamnmgpkehaaDoor.I
