import Derived.Test.YtflpbgdghaaiaaaGreatS7
import Derived.Deep.RegionHeld3
import Derived.Test.YtflpbgdghaaiaaaGreatS2
import Derived.Test.YtflpbgdghaaiaaaGreatS3
import Derived.Test.YtflpbgdghaaiaaaGreatS1
import Derived.Test.YtflpbgdghaaiaaaGreatS4
import Derived.Test.YtflpbgdghaaiaaaGreatS6
import Derived.Test.YtflpbgdghaaiaaaGreatS5
import Derived.Laws.BitsAllLaws
namespace Go.Proofs.YtflpbgdghaaiaaaGreat
open Go.RowKit
set_option maxRecDepth 100000 in
set_option maxHeartbeats 1000000 in
theorem refbegin_any (v : Value) (code : List (Nat × Nat)) (i : Nat) (hi : i < code.length) (w : World) (hv : Instrs w v code) :
    Calls Tryz.prog 117 #[v, .int .i64 i] w fun e w' => (∃ b : Nat, e = .returned (.int .i64 b) ∧ IsBegin code i b) ∧ w' = w := by
  obtain ⟨a, cap, rfl, hlc, hcm, hnil, hp⟩ := hv.opened
  have hlm : code.length ≤ 9223372036854775807 := by unfold maxLen at hcm; omega
  obtain ⟨b, off, rfl, hbl, hc⟩ := hp (by omega)
  have Hc := Lib.hid hc
  clear hp hnil hv hc hcm
  go_enter Tryz.func117, Tryz.ntmps117
  go_wp2
  go_loopw [1] (fun x wr => ∃ k : Nat, k ≤ i ∧ x = .int .i64 k ∧ (∀ j, k < j → j ≤ i → opAt code j ≠ 3) ∧ wr = w) (fun x _ => (intOf x).toNat)
  case atStart => exact ⟨i, Nat.le_refl _, rfl, fun j h1 h2 => by omega, rfl⟩
  case round =>
    obtain ⟨k, hk, rfl, hno, rfl⟩ := hrel
    have hk1 : k < code.length := by omega
    have hq : wr.cell? ⟨b, off + k * 2, none⟩ = some (.int .u8 (opAt code k)) := (Hc.out k hk1).1
    have hk0 : (0 : Int) ≤ (k : Int) := by omega
    have hki : (k : Int) < (code.length : Int) := by omega
    have Hno := Lib.hid hno
    clear hno
    by_cases h3 : opAt code k = 3
    · rw [h3] at hq
      go_wp2
      go_ret
      exact ⟨⟨k, rfl, hk, .inl h3, Hno.out⟩, rfl⟩
    · have hne : ((opAt code k : Int) != 3) = true := bne_iff_ne.2 (by omega)
      by_cases hz : k = 0
      · subst hz
        have d0 : decide ((0 : Int) < ((0 : Nat) : Int)) = false := decide_eq_false (by omega)
        rw [Nat.zero_mul, Nat.add_zero] at hq
        generalize opAt code 0 = o at *
        go_wp2
        go_ret
        exact ⟨⟨0, rfl, hk, .inr rfl, Hno.out⟩, rfl⟩
      · have d0 : decide ((0 : Int) < (k : Int)) = true := decide_eq_true (by omega)
        have Hn2 := Lib.hid (show ∀ j, k - 1 < j → j ≤ i → opAt code j ≠ 3 from fun j h1 h2 => by
          rcases Nat.lt_or_ge k j with c | c
          · exact Hno.out j c h2
          · have : j = k := by omega
            rw [this]; exact h3)
        obtain ⟨m, rfl⟩ : ∃ m, k = m + 1 := ⟨k - 1, by omega⟩
        generalize opAt code (m + 1) = o at hq hne h3
        go_wp2
        go_roundw
        case rel => exact ⟨m, by omega, by go_num, Hn2.out, trivial⟩
        case measure => simp [intOf]
set_option maxRecDepth 100000 in
set_option maxHeartbeats 1000000 in
theorem refend_any (v : Value) (code : List (Nat × Nat)) (i : Nat) (hi : i < code.length) (w : World) (hv : Instrs w v code) :
    Calls Tryz.prog 90 #[v, .int .i64 i] w fun e w' => (∃ b : Nat, e = .returned (.int .i64 b) ∧ IsEnd code i b) ∧ w' = w := by
  obtain ⟨a, cap, rfl, hlc, hcm, hnil, hp⟩ := hv.opened
  have hlm : code.length ≤ 9223372036854775807 := by unfold maxLen at hcm; omega
  obtain ⟨b, off, rfl, hbl, hc⟩ := hp (by omega)
  have Hc := Lib.hid hc
  clear hp hnil hv hc hcm
  go_enter Tryz.func90, Tryz.ntmps90
  go_wp2
  go_loopw [5] (fun x wr => ∃ k : Nat, i < k ∧ k ≤ code.length ∧ x = .int .i64 k ∧ (∀ j, i < j → j < k → opAt code j ≠ 3) ∧ wr = w) (fun x _ => code.length - (intOf x).toNat)
  case atStart => exact ⟨i + 1, by omega, by omega, by go_num, fun j h1 h2 => by omega, rfl⟩
  case round =>
    obtain ⟨k, hik, hk, rfl, hno, rfl⟩ := hrel
    have Hno := Lib.hid hno
    clear hno
    by_cases hlt : k < code.length
    · have hq : wr.cell? ⟨b, off + k * 2, none⟩ = some (.int .u8 (opAt code k)) := (Hc.out k hlt).1
      have hk0 : (0 : Int) ≤ (k : Int) := by omega
      have hki : (k : Int) < (code.length : Int) := by omega
      by_cases h3 : opAt code k = 3
      · rw [h3] at hq
        go_wp2
        go_ret
        exact ⟨⟨k, rfl, hik, hk, .inr h3, Hno.out⟩, rfl⟩
      · have hne : ((opAt code k : Int) != 3) = true := bne_iff_ne.2 (by omega)
        have Hn2 := Lib.hid (show ∀ j, i < j → j < k + 1 → opAt code j ≠ 3 from fun j h1 h2 => by
          rcases Nat.lt_or_ge j k with c | c
          · exact Hno.out j h1 c
          · have : j = k := by omega
            rw [this]; exact h3)
        generalize opAt code k = o at hq hne h3
        go_wp2
        go_roundw
        case rel => exact ⟨k + 1, by omega, by omega, by go_num, Hn2.out, trivial⟩
        case measure => simp [intOf]; omega
    · obtain rfl : k = code.length := by omega
      go_wp2
      go_ret
      exact ⟨⟨code.length, rfl, hik, hk, .inl rfl, Hno.out⟩, rfl⟩
set_option maxRecDepth 100000 in
set_option maxHeartbeats 1000000 in
theorem refinside_any (v : Value) (code : List (Nat × Nat)) (hl : code.length ≤ 16384) (x : Nat) (hx : x < 4294967296) (w : World) (hv : Instrs w v code) :
    Calls Tryz.prog 88 #[v, .int .u32 x] w fun e w' => e = .returned (.bool (decide (x < code.length) && (opAt code x != 3))) ∧ w' = w := by
  obtain ⟨a, cap, rfl, hlc, hcm, hnil, hp⟩ := hv.opened
  have Hp := Lib.hid hp
  clear hp hnil hv hcm
  have hw1 : IntKind.u64.wrap (x : Int) = (x : Int) := by rw [IntKind.wrap_u64]; omega
  have hw2 : IntKind.u64.wrap (code.length : Int) = (code.length : Int) := by rw [IntKind.wrap_u64]; omega
  have hw3 : IntKind.i64.wrap (x : Int) = (x : Int) := IntWalk.i64_in _ (by omega)
  by_cases hlt : x < code.length
  · obtain ⟨b, off, rfl, hbl, hc⟩ := Hp.out (by omega)
    have hq : w.cell? ⟨b, off + x * 2, none⟩ = some (.int .u8 (opAt code x)) := (hc x hlt).1
    have hk0 : (0 : Int) ≤ (x : Int) := by omega
    have hki : (x : Int) < (code.length : Int) := by omega
    have hq3 : ((opAt code x : Int) != 3) = (opAt code x != 3) := by
      rw [Bool.eq_iff_iff, bne_iff_ne, bne_iff_ne]; omega
    rw [decide_eq_true hlt, Bool.true_and]
    clear hc
    generalize opAt code x = o at *
    go_enter Tryz.func88, Tryz.ntmps88
    go_wp2
    go_ret
    exact ⟨rfl, rfl⟩
  · have hd : decide ((x : Int) < (code.length : Int)) = false := decide_eq_false (by omega)
    rw [decide_eq_false hlt]
    go_enter Tryz.func88, Tryz.ntmps88
    go_wp2
    go_ret
    exact ⟨by simp, rfl⟩
def enters (code : List (Nat × Nat)) : Nat → Nat
  | 0 => 0
  | k + 1 => enters code k + if opAt code k = 3 then 1 else 0
theorem enters_ps (code : List (Nat × Nat)) (k : Nat) : enters code k = (psTo code k).length := by
  induction k with
  | zero => rfl
  | succ k ih =>
    show enters code k + _ = (endAt _ _).length
    rw [endAt_length, ih]
    unfold opAt
    split
    · simp
    · rfl
theorem ofTo_at (code : List (Nat × Nat)) (n x : Nat) (hx : x < n) : (ofTo code n).getD x 0 = (psTo code (x + 1)).length - 1 := by
  induction n with
  | zero => omega
  | succ n ih =>
    show (ofTo code n ++ [_]).getD x 0 = _
    rw [getD_snoc, ofTo_length]
    by_cases h : x < n
    · rw [if_pos h, ih h]
    · have : x = n := by omega
      rw [if_neg h, if_pos this, this]
theorem enters_le (code : List (Nat × Nat)) (k : Nat) : enters code k ≤ k := by rw [enters_ps]; exact psTo_le code k
set_option maxRecDepth 100000 in
set_option maxHeartbeats 1000000 in
theorem refof_any (v : Value) (code : List (Nat × Nat)) (hl : code.length ≤ 16384) (h3 : (code.getD 0 (0, 0)).1 = 3) (x : Nat) (hx : x < 4294967296) (w : World) (hv : Instrs w v code) :
    Calls Tryz.prog 139 #[v, .int .u32 x] w fun e w' => e = .returned (.int .i64 (ofN (ofTo code code.length) x)) ∧ w' = w := by
  obtain ⟨a, cap, rfl, hlc, hcm, hnil, hp⟩ := hv.opened
  have Hp := Lib.hid hp
  clear hp hnil hv hcm
  have hw1 : IntKind.u64.wrap (x : Int) = (x : Int) := by rw [IntKind.wrap_u64]; omega
  have hw2 : IntKind.u64.wrap (code.length : Int) = (code.length : Int) := by rw [IntKind.wrap_u64]; omega
  have hw3 : IntKind.i64.wrap (x : Int) = (x : Int) := IntWalk.i64_in _ (by omega)
  unfold ofN
  rw [ofTo_length]
  by_cases hlt : x < code.length
  · obtain ⟨b, off, rfl, hbl, hc⟩ := Hp.out (by omega)
    have Hc := Lib.hid hc
    have hd : decide ((code.length : Int) ≤ (x : Int)) = false := decide_eq_false (by omega)
    have hxi : (x : Int) < (code.length : Int) := by omega
    have HE := Lib.hid (show ((ofTo code code.length).getD x 0 : Int) = (enters code (x + 1) : Int) - 1 by
      rw [ofTo_at code _ x hlt, enters_ps]
      have := psTo_pos h3 x
      omega)
    rw [if_pos hlt]
    clear hc
    generalize ((ofTo code code.length).getD x 0 : Int) = R at *
    go_enter Tryz.func139, Tryz.ntmps139
    go_wp2
    go_loopw [5, 6] (fun n i wr => ∃ k : Nat, k ≤ x + 1 ∧ i = .int .i64 k ∧ n = .int .i64 ((enters code k : Int) - 1) ∧ wr = w) (fun _ i _ => x + 1 - (intOf i).toNat)
    case atStart => exact ⟨0, by omega, rfl, rfl, rfl⟩
    case round =>
      obtain ⟨k, hk, rfl, rfl, rfl⟩ := hrel
      by_cases hkx : k ≤ x
      · have hq : wr.cell? ⟨b, off + k * 2, none⟩ = some (.int .u8 (opAt code k)) := (Hc.out k (by omega)).1
        have hk0 : (0 : Int) ≤ (k : Int) := by omega
        have hki : (k : Int) < (code.length : Int) := by omega
        have hkx2 : (k : Int) ≤ (x : Int) := by omega
        have hle := enters_le code k
        have hs : enters code (k + 1) = enters code k + if opAt code k = 3 then 1 else 0 := rfl
        by_cases h3 : opAt code k = 3
        · rw [if_pos h3] at hs
          rw [h3] at hq
          have Hs := Lib.hid hs
          clear hs
          generalize enters code k = ek at *
          go_wp2
          go_roundw
          case rel => exact ⟨k + 1, by omega, by go_num, by rw [Hs.out]; go_num, trivial⟩
          case measure => simp [intOf]; omega
        · rw [if_neg h3] at hs
          have hne : ((opAt code k : Int) == 3) = false := beq_eq_false_iff_ne.2 (by omega)
          have Hs := Lib.hid hs
          clear hs
          generalize opAt code k = o at hq hne h3
          generalize enters code k = ek at *
          go_wp2
          go_roundw
          case rel => exact ⟨k + 1, by omega, by go_num, by rw [Hs.out]; go_num, trivial⟩
          case measure => simp [intOf]; omega
      · obtain rfl : k = x + 1 := by omega
        have hd2 : decide (((x + 1 : Nat) : Int) ≤ (x : Int)) = false := decide_eq_false (by omega)
        generalize enters code (x + 1) = E at *
        go_wp2
        go_ret
        exact ⟨by rw [HE.out]; rfl, rfl⟩
  · have hd : decide ((code.length : Int) ≤ (x : Int)) = true := decide_eq_true (by omega)
    rw [if_neg hlt]
    go_enter Tryz.func139, Tryz.ntmps139
    go_wp2
    go_ret
    exact ⟨rfl, rfl⟩
set_option maxRecDepth 100000 in
set_option maxHeartbeats 4000000 in
theorem refinstr_any (v : Value) (code : List (Nat × Nat)) (hl : code.length ≤ 16384) (i : Nat) (hi : i < code.length) (w : World) (hv : Instrs w v code) :
    Calls Tryz.prog 87 #[v, .int .i64 i] w fun e w' => (∃ b t : Nat, e = .returned (.int .i64 (refFault code i b t)) ∧ IsBegin code i b ∧ IsEnd code b t) ∧ Below w.heap.size w w' := by
  have hlt := hv.lt i
  have hz := zero26
  unfold zeroRow at hz
  obtain ⟨a, cap, rfl, hlc, hcm, hnil, hp⟩ := hv.opened
  obtain ⟨b, off, rfl, hbl, hc⟩ := hp (by omega)
  have Hc := Lib.hid hc
  have Hbl := Lib.hid hbl
  have hx0 := hc i hi
  have hk0 : (0 : Int) ≤ (i : Int) := by omega
  have hki : (i : Int) < (code.length : Int) := by omega
  have HV := Lib.hid hv
  obtain ⟨x, hx⟩ : ∃ x, x = code.getD i (0, 0) := ⟨_, rfl⟩
  have Hx := Lib.hid hx
  rw [← hx] at hlt hx0
  obtain ⟨o, y⟩ := x
  simp only at hlt hx0
  obtain ⟨q0, q1⟩ := hx0
  have h1 := refinfo_any o hlt.1
  unfold rowVal rowCells at h1
  have hk6 : o = 3 → kindOf o = 6 := fun h => by rw [h]; decide +kernel
  have hk7 : o = 4 → kindOf o = 7 := fun h => by rw [h]; decide +kernel
  generalize hf1 : wordOf o = f1 at *
  generalize hf2 : widthOf o = f2 at *
  generalize hf3 : mostOf o = f3 at *
  generalize hf4 : takesOf o = f4 at *
  generalize hf5 : givesOf o = f5 at *
  generalize hK : kindOf o = K at *
  have HK := Lib.hid hK
  have HK6 := Lib.hid hk6
  have HK7 := Lib.hid hk7
  have H1 := Lib.hid h1
  have Hlt2 := Lib.hid hlt
  clear h1 hc hp hnil hcm hv hlt hbl hx hf1 hf2 hf3 hf4 hf5 hK hk6 hk7
  go_enter Tryz.func87, Tryz.ntmps87
  go_wp2_with fail
  refine (H1.out _).mono ?_
  rintro e w1 ⟨rfl, hb1⟩
  have hs1 := Bel.lt hb1
  have hcb0 : w1.cell? ⟨w.heap.size, 0, none⟩ = some (.int .u8 o) := (hb1.cell (p := ⟨w.heap.size, 0, none⟩) (by simp)).trans (by simp [go_sem])
  have hcb1 : w1.cell? ⟨w.heap.size, 1, none⟩ = some (.int .u32 y) := (hb1.cell (p := ⟨w.heap.size, 1, none⟩) (by simp)).trans (by simp [go_sem])
  have hbw := Bel.of hb1
  have HV1 := Lib.hid (HV.out.below hbw)
  have HVx := Lib.hid (fun (C : Array Value) => HV1.out.below (Bel.new w1 (.cells C 189)))
  have C0 : ∀ C, (w1.alloc (.cells C 189)).cell? ⟨w.heap.size, 0, none⟩ = some (.int .u8 o) := fun C => (World.cell?_of_block (a := ⟨w.heap.size, 0, none⟩) (Below.heap_alloc w1 _ w.heap.size hs1)).trans hcb0
  have C1 : ∀ C, (w1.alloc (.cells C 189)).cell? ⟨w.heap.size, 1, none⟩ = some (.int .u32 y) := fun C => (World.cell?_of_block (a := ⟨w.heap.size, 1, none⟩) (Below.heap_alloc w1 _ w.heap.size hs1)).trans hcb1
  have Hbel := Lib.hid (fun (C : Array Value) => Bel.al hbw (.cells C 189))
  have Hbk := Lib.hid hbw
  clear hb1 hcb0 hcb1 hbw HV
  go_wp2_with fail
  refine (refbegin_any _ code i hi _ (HVx.out _)).mono ?_
  rintro e w2 ⟨⟨bg, rfl, hbeg⟩, hw2⟩
  have hw2' := hw2.symm
  subst hw2'
  clear hw2
  have hbl2 : bg < code.length := Nat.lt_of_le_of_lt hbeg.1 hi
  go_wp2_with fail
  refine (refend_any _ code bg hbl2 _ (HVx.out _)).mono ?_
  rintro e w2 ⟨⟨t, rfl, hend⟩, hw2⟩
  have hw2' := hw2.symm
  subst hw2'
  clear hw2
  have hq := ((Bel.al Hbk.out (.cells #[.string ⟨(f1).toArray⟩, .int .i64 (f2), .int .u32 (f3), .int .i64 (f4), .int .i64 (f5), .int .u8 K] 189)).cell (p := ⟨b, off + bg * 2 + 1, none⟩) Hbl.out).trans (Hc.out bg hbl2).2
  have c0 := C0 #[.string ⟨(f1).toArray⟩, .int .i64 (f2), .int .u32 (f3), .int .i64 (f4), .int .i64 (f5), .int .u8 K]
  have c1 := C1 #[.string ⟨(f1).toArray⟩, .int .i64 (f2), .int .u32 (f3), .int .i64 (f4), .int .i64 (f5), .int .u8 K]
  have c5 : (w1.alloc (.cells #[.string ⟨(f1).toArray⟩, .int .i64 (f2), .int .u32 (f3), .int .i64 (f4), .int .i64 (f5), .int .u8 K] 189)).cell? ⟨w1.heap.size, 5, none⟩ = some (.int .u8 K) := by simp [go_sem]
  have HB := Lib.hid (Hbel.out #[.string ⟨(f1).toArray⟩, .int .i64 (f2), .int .u32 (f3), .int .i64 (f4), .int .i64 (f5), .int .u8 K])
  have HR := Lib.hid (show refFault code i bg t = if o = 3 ∧ (y = 0 ∨ y % 4 ≠ 0 ∨ 4096 < y) then 131 else if o = 4 ∧ y ≠ (code.getD bg (0, 0)).2 then 131
    else if (K = 3 ∨ K = 2) ∧ (y ≤ bg ∨ t ≤ y) then 132 else if i + 1 = t ∧ K ≠ 3 ∧ K ≠ 4 ∧ K ≠ 7 ∧ K ≠ 8 then 133 else 0 from by
      unfold refFault opAt; rw [← Hx.out, ← HK.out])
  have HBG := Lib.hid (show IsBegin code i bg ∧ IsEnd code bg t from ⟨hbeg, hend⟩)
  have hy := Hlt2.out.2
  have ht1 : t ≤ 16384 := by have := hend.2.1; omega
  have htb : bg < t := hend.1
  have hK6 := HK6.out
  have hK7 := HK7.out
  clear hbeg hend q0 q1 C0 C1 HVx HV1 Hbel Hbk Hlt2 H1 Hc Hx HK HK6 HK7
  have hit : i ≤ 16384 := by omega
  have hkb0 : (0 : Int) ≤ (bg : Int) := by omega
  have hkb1 : (bg : Int) < (code.length : Int) := by omega
  clear hbl2
  generalize (code.getD bg (0, 0)).2 = yb at *
  generalize w1.alloc (.cells #[.string ⟨(f1).toArray⟩, .int .i64 (f2), .int .u32 (f3), .int .i64 (f4), .int .i64 (f5), .int .u8 K] 189) = W2 at *
  have m1 : IntKind.u64.wrap (y : Int) = (y : Int) := by rw [IntKind.wrap_u64]; omega
  have m2 : IntKind.u64.wrap (bg : Int) = (bg : Int) := by rw [IntKind.wrap_u64]; omega
  have m3 : IntKind.u64.wrap (t : Int) = (t : Int) := by rw [IntKind.wrap_u64]; omega
  have m4 : IntKind.i64.wrap ((t : Int) - 1) = (t : Int) - 1 := IntWalk.i64_in _ (by omega)
  by_cases c1 : o = 3
  · have e3 : ((o : Int) == 3) = true := by simp; omega
    have e4 : ((o : Int) == 4) = false := by simp; omega
    have hk6 := hK6 c1
    have g3 : ((K : Int) == 3) = false := by simp; omega
    have g2 : ((K : Int) == 2) = false := by simp; omega
    by_cases a1 : y = 0
    · have y0 : ((y : Int) == 0) = true := by simp; omega
      have hr : refFault code i bg t = 131 := by
        rw [HR.out]
        repeat' split
        all_goals first | rfl | (exfalso; omega)
      have Hr := Lib.hid hr
      clear hr
      try clear hK6
      try clear hK7
      try clear k7
      try clear hk6
      try clear hk7
      try clear c4
      try clear a3
      try clear a2
      try clear a1
      try clear c2
      try clear c1
      go_wp2_with fail
      go_ret
      exact ⟨⟨bg, t, by rw [Hr.out]; rfl, HBG.out⟩, HB.out⟩
    · have y0 : ((y : Int) == 0) = false := by simp; omega
      by_cases a2 : y % 4 ≠ 0
      · have y1 : ((y : Int) % 4 != 0) = true := by simp; omega
        have hr : refFault code i bg t = 131 := by
          rw [HR.out]
          repeat' split
          all_goals first | rfl | (exfalso; omega)
        have Hr := Lib.hid hr
        clear hr
        try clear hK6
        try clear hK7
        try clear k7
        try clear hk6
        try clear hk7
        try clear c4
        try clear a3
        try clear a2
        try clear a1
        try clear c2
        try clear c1
        go_wp2_with fail
        go_ret
        exact ⟨⟨bg, t, by rw [Hr.out]; rfl, HBG.out⟩, HB.out⟩
      · have y1 : ((y : Int) % 4 != 0) = false := by simp; omega
        by_cases a3 : 4096 < y
        · have y2 : decide ((4096 : Int) < (y : Int)) = true := decide_eq_true (by omega)
          have hr : refFault code i bg t = 131 := by
            rw [HR.out]
            repeat' split
            all_goals first | rfl | (exfalso; omega)
          have Hr := Lib.hid hr
          clear hr
          try clear hK6
          try clear hK7
          try clear k7
          try clear hk6
          try clear hk7
          try clear c4
          try clear a3
          try clear a2
          try clear a1
          try clear c2
          try clear c1
          go_wp2_with fail
          go_ret
          exact ⟨⟨bg, t, by rw [Hr.out]; rfl, HBG.out⟩, HB.out⟩
        · have y2 : decide ((4096 : Int) < (y : Int)) = false := decide_eq_false (by omega)
          by_cases c4 : i + 1 = t
          · have d4 : ((i : Int) == (t : Int) - 1) = true := by simp; omega
            have b3 : ((K : Int) != 3) = true := by simp; omega
            have b4 : ((K : Int) != 4) = true := by simp; omega
            have b7 : ((K : Int) != 7) = true := by simp; omega
            have b8 : ((K : Int) != 8) = true := by simp; omega
            have hr : refFault code i bg t = 133 := by
              rw [HR.out]
              repeat' split
              all_goals first | rfl | (exfalso; omega)
            have Hr := Lib.hid hr
            clear hr
            try clear hK6
            try clear hK7
            try clear k7
            try clear hk6
            try clear hk7
            try clear c4
            try clear a3
            try clear a2
            try clear a1
            try clear c2
            try clear c1
            go_wp2_with fail
            go_quiet (fail)
            go_wp2_with fail
            go_ret
            exact ⟨⟨bg, t, by rw [Hr.out]; rfl, HBG.out⟩, below_drewN HB.out _⟩
          · have d4 : ((i : Int) == (t : Int) - 1) = false := by simp; omega
            have hr : refFault code i bg t = 0 := by
              rw [HR.out]
              repeat' split
              all_goals first | rfl | (exfalso; omega)
            have Hr := Lib.hid hr
            clear hr
            try clear hK6
            try clear hK7
            try clear k7
            try clear hk6
            try clear hk7
            try clear c4
            try clear a3
            try clear a2
            try clear a1
            try clear c2
            try clear c1
            go_wp2_with fail
            go_quiet (fail)
            go_wp2_with fail
            go_ret
            exact ⟨⟨bg, t, by rw [Hr.out]; rfl, HBG.out⟩, below_drewN HB.out _⟩
  · have e3 : ((o : Int) == 3) = false := by simp; omega
    by_cases c2 : o = 4
    · have e4 : ((o : Int) == 4) = true := by simp; omega
      have hk7 := hK7 c2
      have g3 : ((K : Int) == 3) = false := by simp; omega
      have g2 : ((K : Int) == 2) = false := by simp; omega
      by_cases a1 : y = yb
      · have z1 : ((y : Int) != (yb : Int)) = false := by simp; omega
        by_cases c4 : i + 1 = t
        · have d4 : ((i : Int) == (t : Int) - 1) = true := by simp; omega
          have b3 : ((K : Int) != 3) = true := by simp; omega
          have b4 : ((K : Int) != 4) = true := by simp; omega
          by_cases k7 : K = 7
          · have b7 : ((K : Int) != 7) = false := by simp; omega
            have hr : refFault code i bg t = 0 := by
              rw [HR.out]
              repeat' split
              all_goals first | rfl | (exfalso; omega)
            have Hr := Lib.hid hr
            clear hr
            try clear hK6
            try clear hK7
            try clear k7
            try clear hk6
            try clear hk7
            try clear c4
            try clear a3
            try clear a2
            try clear a1
            try clear c2
            try clear c1
            go_wp2_with fail
            go_quiet (fail)
            go_wp2_with fail
            go_ret
            exact ⟨⟨bg, t, by rw [Hr.out]; rfl, HBG.out⟩, below_drewN HB.out _⟩
          · exact absurd hk7 k7
        · have d4 : ((i : Int) == (t : Int) - 1) = false := by simp; omega
          have hr : refFault code i bg t = 0 := by
            rw [HR.out]
            repeat' split
            all_goals first | rfl | (exfalso; omega)
          have Hr := Lib.hid hr
          clear hr
          try clear hK6
          try clear hK7
          try clear k7
          try clear hk6
          try clear hk7
          try clear c4
          try clear a3
          try clear a2
          try clear a1
          try clear c2
          try clear c1
          go_wp2_with fail
          go_quiet (fail)
          go_wp2_with fail
          go_ret
          exact ⟨⟨bg, t, by rw [Hr.out]; rfl, HBG.out⟩, below_drewN HB.out _⟩
      · have z1 : ((y : Int) != (yb : Int)) = true := by simp; omega
        have hr : refFault code i bg t = 131 := by
          rw [HR.out]
          repeat' split
          all_goals first | rfl | (exfalso; omega)
        have Hr := Lib.hid hr
        clear hr
        try clear hK6
        try clear hK7
        try clear k7
        try clear hk6
        try clear hk7
        try clear c4
        try clear a3
        try clear a2
        try clear a1
        try clear c2
        try clear c1
        go_wp2_with fail
        go_quiet (fail)
        go_wp2_with fail
        go_ret
        exact ⟨⟨bg, t, by rw [Hr.out]; rfl, HBG.out⟩, below_drewN HB.out _⟩
    · have e4 : ((o : Int) == 4) = false := by simp; omega
      by_cases kk3 : K = 3
      · have g3 : ((K : Int) == 3) = true := by simp; omega
        by_cases r1 : y ≤ bg
        · have l1 : decide ((y : Int) ≤ (bg : Int)) = true := decide_eq_true (by omega)
          have hr : refFault code i bg t = 132 := by
            rw [HR.out]
            repeat' split
            all_goals first | rfl | (exfalso; omega)
          have Hr := Lib.hid hr
          clear hr
          try clear hK6
          try clear hK7
          try clear k7
          try clear hk6
          try clear hk7
          try clear c4
          try clear a3
          try clear a2
          try clear a1
          try clear c2
          try clear c1
          go_wp2_with fail
          go_quiet (fail)
          go_wp2_with fail
          go_ret
          exact ⟨⟨bg, t, by rw [Hr.out]; rfl, HBG.out⟩, below_drewN HB.out _⟩
        · have l1 : decide ((y : Int) ≤ (bg : Int)) = false := decide_eq_false (by omega)
          by_cases r2 : t ≤ y
          · have l2 : decide ((t : Int) ≤ (y : Int)) = true := decide_eq_true (by omega)
            have hr : refFault code i bg t = 132 := by
              rw [HR.out]
              repeat' split
              all_goals first | rfl | (exfalso; omega)
            have Hr := Lib.hid hr
            clear hr
            try clear hK6
            try clear hK7
            try clear k7
            try clear hk6
            try clear hk7
            try clear c4
            try clear a3
            try clear a2
            try clear a1
            try clear c2
            try clear c1
            go_wp2_with fail
            go_quiet (fail)
            go_wp2_with fail
            go_ret
            exact ⟨⟨bg, t, by rw [Hr.out]; rfl, HBG.out⟩, below_drewN HB.out _⟩
          · have l2 : decide ((t : Int) ≤ (y : Int)) = false := decide_eq_false (by omega)
            by_cases c4 : i + 1 = t
            · have d4 : ((i : Int) == (t : Int) - 1) = true := by simp; omega
              by_cases k3 : K = 3
              · have b3 : ((K : Int) != 3) = false := by simp; omega
                have hr : refFault code i bg t = 0 := by
                  rw [HR.out]
                  repeat' split
                  all_goals first | rfl | (exfalso; omega)
                have Hr := Lib.hid hr
                clear hr
                try clear hK6
                try clear hK7
                try clear k7
                try clear hk6
                try clear hk7
                try clear c4
                try clear a3
                try clear a2
                try clear a1
                try clear c2
                try clear c1
                go_wp2_with fail
                go_quiet (fail)
                go_wp2_with fail
                go_ret
                exact ⟨⟨bg, t, by rw [Hr.out]; rfl, HBG.out⟩, below_drewN HB.out _⟩
              · exact absurd kk3 k3
            · have d4 : ((i : Int) == (t : Int) - 1) = false := by simp; omega
              have hr : refFault code i bg t = 0 := by
                rw [HR.out]
                repeat' split
                all_goals first | rfl | (exfalso; omega)
              have Hr := Lib.hid hr
              clear hr
              try clear hK6
              try clear hK7
              try clear k7
              try clear hk6
              try clear hk7
              try clear c4
              try clear a3
              try clear a2
              try clear a1
              try clear c2
              try clear c1
              go_wp2_with fail
              go_quiet (fail)
              go_wp2_with fail
              go_ret
              exact ⟨⟨bg, t, by rw [Hr.out]; rfl, HBG.out⟩, below_drewN HB.out _⟩
      · have g3 : ((K : Int) == 3) = false := by simp; omega
        by_cases kk2 : K = 2
        · have g2 : ((K : Int) == 2) = true := by simp; omega
          by_cases r1 : y ≤ bg
          · have l1 : decide ((y : Int) ≤ (bg : Int)) = true := decide_eq_true (by omega)
            have hr : refFault code i bg t = 132 := by
              rw [HR.out]
              repeat' split
              all_goals first | rfl | (exfalso; omega)
            have Hr := Lib.hid hr
            clear hr
            try clear hK6
            try clear hK7
            try clear k7
            try clear hk6
            try clear hk7
            try clear c4
            try clear a3
            try clear a2
            try clear a1
            try clear c2
            try clear c1
            go_wp2_with fail
            go_quiet (fail)
            go_wp2_with fail
            go_ret
            exact ⟨⟨bg, t, by rw [Hr.out]; rfl, HBG.out⟩, below_drewN HB.out _⟩
          · have l1 : decide ((y : Int) ≤ (bg : Int)) = false := decide_eq_false (by omega)
            by_cases r2 : t ≤ y
            · have l2 : decide ((t : Int) ≤ (y : Int)) = true := decide_eq_true (by omega)
              have hr : refFault code i bg t = 132 := by
                rw [HR.out]
                repeat' split
                all_goals first | rfl | (exfalso; omega)
              have Hr := Lib.hid hr
              clear hr
              try clear hK6
              try clear hK7
              try clear k7
              try clear hk6
              try clear hk7
              try clear c4
              try clear a3
              try clear a2
              try clear a1
              try clear c2
              try clear c1
              go_wp2_with fail
              go_quiet (fail)
              go_wp2_with fail
              go_ret
              exact ⟨⟨bg, t, by rw [Hr.out]; rfl, HBG.out⟩, below_drewN HB.out _⟩
            · have l2 : decide ((t : Int) ≤ (y : Int)) = false := decide_eq_false (by omega)
              by_cases c4 : i + 1 = t
              · have d4 : ((i : Int) == (t : Int) - 1) = true := by simp; omega
                have b3 : ((K : Int) != 3) = true := by simp; omega
                have b4 : ((K : Int) != 4) = true := by simp; omega
                have b7 : ((K : Int) != 7) = true := by simp; omega
                have b8 : ((K : Int) != 8) = true := by simp; omega
                have hr : refFault code i bg t = 133 := by
                  rw [HR.out]
                  repeat' split
                  all_goals first | rfl | (exfalso; omega)
                have Hr := Lib.hid hr
                clear hr
                try clear hK6
                try clear hK7
                try clear k7
                try clear hk6
                try clear hk7
                try clear c4
                try clear a3
                try clear a2
                try clear a1
                try clear c2
                try clear c1
                go_wp2_with fail
                go_quiet (fail)
                go_wp2_with fail
                go_ret
                exact ⟨⟨bg, t, by rw [Hr.out]; rfl, HBG.out⟩, below_drewN HB.out _⟩
              · have d4 : ((i : Int) == (t : Int) - 1) = false := by simp; omega
                have hr : refFault code i bg t = 0 := by
                  rw [HR.out]
                  repeat' split
                  all_goals first | rfl | (exfalso; omega)
                have Hr := Lib.hid hr
                clear hr
                try clear hK6
                try clear hK7
                try clear k7
                try clear hk6
                try clear hk7
                try clear c4
                try clear a3
                try clear a2
                try clear a1
                try clear c2
                try clear c1
                go_wp2_with fail
                go_quiet (fail)
                go_wp2_with fail
                go_ret
                exact ⟨⟨bg, t, by rw [Hr.out]; rfl, HBG.out⟩, below_drewN HB.out _⟩
        · have g2 : ((K : Int) == 2) = false := by simp; omega
          by_cases c4 : i + 1 = t
          · have d4 : ((i : Int) == (t : Int) - 1) = true := by simp; omega
            have b3 : ((K : Int) != 3) = true := by simp; omega
            by_cases k4 : K = 4
            · have b4 : ((K : Int) != 4) = false := by simp; omega
              have hr : refFault code i bg t = 0 := by
                rw [HR.out]
                repeat' split
                all_goals first | rfl | (exfalso; omega)
              have Hr := Lib.hid hr
              clear hr
              try clear hK6
              try clear hK7
              try clear k7
              try clear hk6
              try clear hk7
              try clear c4
              try clear a3
              try clear a2
              try clear a1
              try clear c2
              try clear c1
              go_wp2_with fail
              go_quiet (fail)
              go_wp2_with fail
              go_ret
              exact ⟨⟨bg, t, by rw [Hr.out]; rfl, HBG.out⟩, below_drewN HB.out _⟩
            · have b4 : ((K : Int) != 4) = true := by simp; omega
              by_cases k7 : K = 7
              · have b7 : ((K : Int) != 7) = false := by simp; omega
                have hr : refFault code i bg t = 0 := by
                  rw [HR.out]
                  repeat' split
                  all_goals first | rfl | (exfalso; omega)
                have Hr := Lib.hid hr
                clear hr
                try clear hK6
                try clear hK7
                try clear k7
                try clear hk6
                try clear hk7
                try clear c4
                try clear a3
                try clear a2
                try clear a1
                try clear c2
                try clear c1
                go_wp2_with fail
                go_quiet (fail)
                go_wp2_with fail
                go_ret
                exact ⟨⟨bg, t, by rw [Hr.out]; rfl, HBG.out⟩, below_drewN HB.out _⟩
              · have b7 : ((K : Int) != 7) = true := by simp; omega
                by_cases k8 : K = 8
                · have b8 : ((K : Int) != 8) = false := by simp; omega
                  have hr : refFault code i bg t = 0 := by
                    rw [HR.out]
                    repeat' split
                    all_goals first | rfl | (exfalso; omega)
                  have Hr := Lib.hid hr
                  clear hr
                  try clear hK6
                  try clear hK7
                  try clear k7
                  try clear hk6
                  try clear hk7
                  try clear c4
                  try clear a3
                  try clear a2
                  try clear a1
                  try clear c2
                  try clear c1
                  go_wp2_with fail
                  go_quiet (fail)
                  go_wp2_with fail
                  go_ret
                  exact ⟨⟨bg, t, by rw [Hr.out]; rfl, HBG.out⟩, below_drewN HB.out _⟩
                · have b8 : ((K : Int) != 8) = true := by simp; omega
                  have hr : refFault code i bg t = 133 := by
                    rw [HR.out]
                    repeat' split
                    all_goals first | rfl | (exfalso; omega)
                  have Hr := Lib.hid hr
                  clear hr
                  try clear hK6
                  try clear hK7
                  try clear k7
                  try clear hk6
                  try clear hk7
                  try clear c4
                  try clear a3
                  try clear a2
                  try clear a1
                  try clear c2
                  try clear c1
                  go_wp2_with fail
                  go_quiet (fail)
                  go_wp2_with fail
                  go_ret
                  exact ⟨⟨bg, t, by rw [Hr.out]; rfl, HBG.out⟩, below_drewN HB.out _⟩
          · have d4 : ((i : Int) == (t : Int) - 1) = false := by simp; omega
            have hr : refFault code i bg t = 0 := by
              rw [HR.out]
              repeat' split
              all_goals first | rfl | (exfalso; omega)
            have Hr := Lib.hid hr
            clear hr
            try clear hK6
            try clear hK7
            try clear k7
            try clear hk6
            try clear hk7
            try clear c4
            try clear a3
            try clear a2
            try clear a1
            try clear c2
            try clear c1
            go_wp2_with fail
            go_quiet (fail)
            go_wp2_with fail
            go_ret
            exact ⟨⟨bg, t, by rw [Hr.out]; rfl, HBG.out⟩, below_drewN HB.out _⟩
theorem refinstr_at (v : Value) (code : List (Nat × Nat)) (i : Nat) (hi : i < code.length) (w : World) (hv : Instrs w v code) (he : (encRes code).2.2 = 0) (h3 : Firsts code) :
    Calls Tryz.prog 87 #[v, .int .i64 i] w fun e w' => e = .returned (.int .i64 (faultAt code i)) ∧ Below w.heap.size w w' := by
  refine (refinstr_any v code (encRes_short he) i hi w hv).mono ?_
  rintro e w' ⟨⟨b, t, rfl, hb, ht⟩, bel⟩
  have hT := tiles (code := code) h3.2 code.length
  have e1 := hT.begin_eq h3.2 hi hb
  rw [e1] at ht
  have e2 := hT.end_eq (hT.lt i hi) ht
  refine ⟨?_, bel⟩
  rw [e1, e2, refFault_eq hT hi (isOp_ok (encRes_all he i hi))]
theorem aimOk_eq {code : List (Nat × Nat)} (h3 : Firsts code) (js : List Nat) (i : Nat) :
    aimOk (psTo code code.length) (ofTo code code.length) js i = ((decide (i = 0) || decide (js.getD (i - 1) 0 < js.getD i 0)) && (decide (js.getD i 0 < code.length) && (opAt code (js.getD i 0) != 3))) := by
  have hT := tiles (code := code) h3.2 code.length
  unfold aimOk
  rw [hT.ol]
  by_cases h : js.getD i 0 < code.length
  · rw [hT.inside h]
  · rw [decide_eq_false h]; simp
def RefPost (code : List (Nat × Nat)) (js ats : List Nat) (w : World) (e : Ending) (w' : World) : Prop :=
  Below w.heap.size w w' ∧ ((∃ i c : Nat, e = .returned (.tuple #[.int .i64 i, .int .i64 c]) ∧ FindBad code js ats i c) ∨
    (e = .returned (.tuple #[.int .i64 0, .int .i64 0]) ∧ FindOk code js ats))
set_option maxRecDepth 100000 in
set_option maxHeartbeats 4000000 in
theorem reffind_any {w : World} (vc vj vn : Value) (code : List (Nat × Nat)) (js ats : List Nat) (hc : Instrs w vc code) (hj : RowU w w.heap.size vj js) (hn : NamesU w w.heap.size vn ats) :
    Calls Tryz.prog 44 #[vc, vj, vn] w (RefPost code js ats w) := by
  have henc := refencode_any vc code w hc
  obtain ⟨a, cap, hvc, hlc, hcm, hnil, hp⟩ := hc.opened
  have hlm : code.length ≤ 9223372036854775807 := by unfold maxLen at hcm; omega
  have Henc := Lib.hid henc
  have Hc := Lib.hid hc
  have Hj := Lib.hid hj
  have Hn := Lib.hid hn
  have Hp := Lib.hid hp
  clear hp hnil hj hn hc henc
  subst hvc
  go_enter Tryz.func44, Tryz.ntmps44
  go_wp2_with fail
  refine Henc.out.mono ?_
  rintro e w1 ⟨ve, rfl, hown, hgr, hnil⟩
  have Hb1 := Lib.hid (show Below w.heap.size w w1 from hgr.bel)
  clear hown hgr hnil Henc
  by_cases h0 : (encRes code).2.2 = 0
  · have He := Lib.hid h0
    rw [h0]
    generalize (encRes code).2.1 = ei
    clear h0
    by_cases h1 : code.length = 0
    · have HB := Lib.hid (show FindBad code js ats 0 130 from .first He.out (fun h => by have := h.1; omega))
      have hz : (code.length : Int) = 0 := by omega
      go_wp2
      exact bodyPost_ret (v := .tuple #[.int .i64 ((0 : Nat) : Int), .int .i64 ((130 : Nat) : Int)]) (by simp [results, Tryz.results44, go_sem]) rfl ⟨Hb1.out, .inl ⟨_, _, rfl, HB.out⟩⟩
    · obtain ⟨cb, coff, rfl, hcb, hcc⟩ := Hp.out (by omega)
      have hlen : (code.length : Int) ≠ 0 := by omega
      have hlen2 : (0 : Int) < (code.length : Int) := by omega
      have hq0 := (Hb1.out.cell (p := ⟨cb, coff + 0 * 2, none⟩) hcb).trans (hcc 0 (by omega)).1
      rw [Nat.zero_mul, Nat.add_zero] at hq0
      by_cases h3 : (code.getD 0 (0, 0)).1 = 3
      · have H3 := Lib.hid (show Firsts code from ⟨by omega, h3⟩)
        rw [h3] at hq0
        have Hcc := Lib.hid hcc
        have HC1 := Lib.hid (Hc.out.below Hb1.out)
        have Hs := Lib.hid (encRes_short He.out)
        clear hcc h3 Hc
        go_wp2_with fail
        obtain ⟨n, hnn⟩ : ∃ n, n = code.length := ⟨_, rfl⟩
        have HN := Lib.hid hnn
        rw [← hnn] at hlc hlm hlen hlen2 h1 HC1 ⊢
        clear hnn hq0
        go_loopw [10, 11] (fun e i wr => ∃ (k : Nat), k ≤ n ∧ e = .int .i64 0 ∧ i = .int .i64 k ∧ Below w1.heap.size w1 wr ∧ ∀ j, j < k → faultAt code j = 0) (fun _ i _ => n - (intOf i).toNat)
        case atStart => exact ⟨0, by omega, rfl, rfl, Below.refl _ _, fun j h => absurd h (Nat.not_lt_zero j)⟩
        case round =>
          obtain ⟨k, hk, rfl, rfl, hbw, hgd⟩ := hrel
          by_cases hlt' : k < n
          · have Hfa := Lib.hid (refinstr_at _ code k (by rw [← HN.out]; exact hlt') wr (HC1.out.below hbw) He.out H3.out)
            have Hbw := Lib.hid hbw
            have Hgd := Lib.hid hgd
            have hki : (k : Int) < (n : Int) := by omega
            clear hbw hgd
            obtain ⟨f, hf⟩ : ∃ f, f = faultAt code k := ⟨_, rfl⟩
            have Hf := Lib.hid hf
            rw [← hf] at Hfa
            clear hf
            go_wp2_with fail
            refine Hfa.out.mono ?_
            rintro e w2 ⟨rfl, hb2⟩
            have Hb2 := Lib.hid (Bel.tr Hbw.out hb2)
            clear hb2 Hfa
            by_cases hf0 : f = 0
            · subst hf0
              go_wp2
              go_roundw
              case rel => exact ⟨k + 1, by omega, rfl, by go_num, Hb2.out, fun j hj => by
                by_cases e : j = k
                · rw [e]; exact Hf.out.symm
                · exact Hgd.out j (by omega)⟩
              case measure => simp [intOf]; omega
            · have hd : ((f : Int) == 0) = false := by simp; omega
              have hd2 : ((f : Int) != 0) = true := by simp; omega
              have HB := Lib.hid (show FindBad code js ats k f from by
                rw [Hf.out]; exact .fault He.out H3.out k (by rw [← HN.out]; exact hlt') Hgd.out (by rw [← Hf.out]; exact hf0))
              go_wp2
              exact bodyPost_ret (v := .tuple #[.int .i64 k, .int .i64 f]) (by simp [results, Tryz.results44, go_sem]) rfl ⟨Hb1.out.trans (Hb2.out.mono Hb1.out.size), .inl ⟨_, _, rfl, HB.out⟩⟩
          · obtain rfl : n = k := by omega
            have Hall := Lib.hid (show ∀ j, j < code.length → faultAt code j = 0 from fun j hj => hgd j (by rw [HN.out]; exact hj))
            have Hbw := Lib.hid (Hb1.out.trans (hbw.mono Hb1.out.size))
            have HC2 := Lib.hid (HC1.out.below hbw)
            obtain ⟨aj, capj, rfl, hjc, hjm, hjl, hjp⟩ := Hj.out
            have Hjp := Lib.hid hjp
            have Hjl := Lib.hid hjl
            have hjm2 : js.length ≤ 9223372036854775807 := by unfold maxLen at hjm; omega
            obtain ⟨nj, hnj⟩ : ∃ nj, nj = js.length := ⟨_, rfl⟩
            have HNJ := Lib.hid hnj
            rw [← hnj] at hjc hjm2 ⊢
            clear hgd hbw hjp hjl hnj HC1 Hj hjm
            obtain ⟨w2, hw2⟩ : ∃ w2, w2 = wr := ⟨_, rfl⟩
            subst hw2
            go_wp2_with fail
            go_loopw [12] (fun i wr => ∃ (q : Nat), q ≤ nj ∧ i = .int .i64 q ∧ Below w2.heap.size w2 wr ∧ GoodTo (psTo code code.length) (ofTo code code.length) js q) (fun i _ => nj - (intOf i).toNat)
            case atStart => exact ⟨0, by omega, rfl, Below.refl _ _, GoodTo.zero _ _ _⟩
            case round =>
              obtain ⟨q, hq, rfl, hbq, hgd⟩ := hrel
              by_cases hlt2 : q < nj
              · obtain ⟨jb, joff, rfl, hjb, hjc2⟩ := Hjp.out (by rw [← HNJ.out]; omega)
                have hcal := fun (k : Nat) (hk : k < nj) => (hbq.cell (p := ⟨jb, joff + k, none⟩) (Nat.lt_of_lt_of_le hjb Hbw.out.size)).trans ((Hbw.out.cell (p := ⟨jb, joff + k, none⟩) hjb).trans (hjc2 k (by rw [← HNJ.out]; exact hk)))
                have hcur := hcal q hlt2
                have Hins := Lib.hid (fun m => refinside_any _ code Hs.out (js.getD q 0) (Hjl.out q) (wr.drewN m) (HC2.out.below (below_drewN hbq m)))
                have Hok := Lib.hid (aimOk_eq H3.out js q)
                have Hbq := Lib.hid hbq
                have Hgd := Lib.hid hgd
                have hqi : (q : Int) < (nj : Int) := by omega
                have hq0 : (0 : Int) ≤ (q : Int) := by omega
                have hbad := fun (h : aimOk (psTo code code.length) (ofTo code code.length) js q = false) => FindBad.jump (ats := ats) He.out H3.out Hall.out q (by rw [← HNJ.out]; exact hlt2) hgd h
                have Hbad := Lib.hid hbad
                clear hbq hgd hjc2 hbad
                generalize hins : (decide (js.getD q 0 < code.length) && (opAt code (js.getD q 0) != 3)) = ins at *
                have Hgo := Lib.hid (show ∀ m, aimOk (psTo code code.length) (ofTo code code.length) js q = true → ∃ (q' : Nat), q' ≤ nj ∧ (Value.int .i64 ((q : Int) + 1)) = .int .i64 q' ∧ Below w2.heap.size w2 (wr.drewN m) ∧ GoodTo (psTo code code.length) (ofTo code code.length) js q' from
                  fun m h => ⟨q + 1, by omega, by go_num, below_drewN Hbq.out m, GoodTo.succ Hgd.out h⟩)
                have Hno := Lib.hid (show ∀ m, aimOk (psTo code code.length) (ofTo code code.length) js q = false → RefPost code js ats w (.returned (.tuple #[.int .i64 q, .int .i64 134])) (wr.drewN m) from
                  fun m h => ⟨Hbw.out.trans ((below_drewN Hbq.out m).mono Hbw.out.size), .inl ⟨q, 134, rfl, Hbad.out h⟩⟩)
                clear hins
                by_cases hz : q = 0
                · subst hz
                  have d0 : decide ((0 : Int) < ((0 : Nat) : Int)) = false := decide_eq_false (by omega)
                  have hcur' := hcur
                  rw [Nat.add_zero] at hcur'
                  clear hcur
                  have Hok2 := Lib.hid (show aimOk (psTo code code.length) (ofTo code code.length) js 0 = ins by rw [Hok.out]; simp)
                  clear hcal Hok Hjl
                  generalize js.getD 0 0 = x at *
                  go_wp2_with fail
                  go_quiet (first | (go_at_call 88; with_reducible refine Calls.quiet_of_same (Hins.out _)))
                  cases ins with
                  | true =>
                    go_wp2
                    go_roundw
                    case rel => exact Hgo.out _ Hok2.out
                    case measure => simp [intOf]; omega
                  | false =>
                    go_wp2
                    exact bodyPost_ret (v := .tuple #[.int .i64 ((0 : Nat) : Int), .int .i64 ((134 : Nat) : Int)]) (by simp [results, Tryz.results44, go_sem]) rfl (Hno.out _ Hok2.out)
                · have d0 : decide (0 < q) = true := decide_eq_true (by omega)
                  obtain ⟨r, hr⟩ : ∃ r, q = r + 1 := ⟨q - 1, by omega⟩
                  have hpre := hcal r (by omega)
                  have m1 : IntKind.i64.wrap ((q : Int) - 1) = (r : Int) := by rw [IntWalk.i64_in _ (by omega)]; omega
                  have r0 : (0 : Int) ≤ (r : Int) := by omega
                  have r1 : (r : Int) < (nj : Int) := by omega
                  have Hok2 := Lib.hid (show aimOk (psTo code code.length) (ofTo code code.length) js q = (decide (js.getD r 0 < js.getD q 0) && ins) by rw [Hok.out, hr]; simp)
                  have hrq : r < nj := by omega
                  clear hcal Hok Hjl hz hr
                  generalize hx : js.getD q 0 = x at *
                  generalize hy : js.getD r 0 = y at *
                  by_cases hxy : x ≤ y
                  · have d1 : decide (x ≤ y) = true := decide_eq_true (by omega)
                    have Hok3 := Lib.hid (show aimOk (psTo code code.length) (ofTo code code.length) js q = false by rw [Hok2.out, decide_eq_false (by omega), Bool.false_and])
                    clear hxy Hins hx hy
                    go_wp2_with fail
                    go_quiet (fail)
                    go_wp2
                    exact bodyPost_ret (v := .tuple #[.int .i64 (q : Int), .int .i64 ((134 : Nat) : Int)]) (by simp [results, Tryz.results44, go_sem]) rfl (Hno.out _ Hok3.out)
                  · have d1 : decide (x ≤ y) = false := decide_eq_false (by omega)
                    have Hok3 := Lib.hid (show aimOk (psTo code code.length) (ofTo code code.length) js q = ins by rw [Hok2.out, decide_eq_true (by omega), Bool.true_and])
                    clear hxy hx hy
                    go_wp2_with fail
                    go_quiet (first | (go_at_call 88; with_reducible refine Calls.quiet_of_same (Hins.out _)))
                    cases ins with
                    | true =>
                      go_wp2
                      go_roundw
                      case rel => exact Hgo.out _ Hok3.out
                      case measure => simp [intOf]; omega
                    | false =>
                      go_wp2
                      exact bodyPost_ret (v := .tuple #[.int .i64 (q : Int), .int .i64 ((134 : Nat) : Int)]) (by simp [results, Tryz.results44, go_sem]) rfl (Hno.out _ Hok3.out)
              · obtain rfl : nj = q := by omega
                have Hg := Lib.hid (show GoodTo (psTo code code.length) (ofTo code code.length) js js.length from by rw [← HNJ.out]; exact hgd)
                have Hbx := Lib.hid (Hbw.out.trans (hbq.mono Hbw.out.size))
                have HC3 := Lib.hid (HC2.out.below hbq)
                obtain ⟨w3, hw3⟩ : ∃ w3, w3 = wr := ⟨_, rfl⟩
                subst hw3
                obtain ⟨an, capn, rfl, hnc, hncm, hnl, hnp⟩ := Hn.out
                have hnm : ats.length ≤ 9223372036854775807 := by unfold maxLen at hncm; omega
                have Hnp := Lib.hid hnp
                have Hnl := Lib.hid hnl
                clear hnp hnl
                obtain ⟨m, hmm⟩ : ∃ m, m = ats.length := ⟨_, rfl⟩
                have HM := Lib.hid hmm
                rw [← hmm] at hnc hnm ⊢
                clear hmm hbq hgd HC2 Hn hncm
                go_wp2_with fail
                go_loopw [13, 14] (fun i z wr => ∃ (k : Nat), k ≤ m ∧ i = .int .i64 k ∧ Below w3.heap.size w3 wr ∧ ∀ j, j < k → beginsN (psTo code code.length) (ofTo code code.length) (ats.getD j 0) = true) (fun i _ _ => m - (intOf i).toNat)
                case atStart => exact ⟨0, by omega, rfl, Below.refl _ _, fun j h => absurd h (Nat.not_lt_zero j)⟩
                case round =>
                  obtain ⟨k, hk, rfl, hbw, hgd⟩ := hrel
                  by_cases hlt2 : k < m
                  · obtain ⟨nb, noff, rfl, hnb, hnc2⟩ := Hnp.out (by rw [← HM.out]; omega)
                    obtain ⟨sn, hs1, hs2⟩ := hnc2 k (by rw [← HM.out]; exact hlt2)
                    have hq2 := (hbw.cell (p := ⟨nb, noff + k * 2 + 1, none⟩) (Nat.lt_of_lt_of_le hnb Hbx.out.size)).trans ((Hbx.out.cell (p := ⟨nb, noff + k * 2 + 1, none⟩) hnb).trans hs2)
                    have hxl := Hnl.out k
                    have hx1 : IntKind.u64.wrap ((ats.getD k 0 : Nat) : Int) = ((ats.getD k 0 : Nat) : Int) := by rw [IntKind.wrap_u64]; omega
                    have hx2 : IntKind.i64.wrap ((ats.getD k 0 : Nat) : Int) = ((ats.getD k 0 : Nat) : Int) := IntWalk.i64_in _ (by omega)
                    have hx0 : (0 : Int) ≤ ((ats.getD k 0 : Nat) : Int) := by omega
                    have hnl : IntKind.u64.wrap (code.length : Int) = (code.length : Int) := by rw [IntKind.wrap_u64]; have := Hs.out; omega
                    have hki : (k : Int) < (m : Int) := by omega
                    have hk0 : (0 : Int) ≤ (k : Int) := by omega
                    rw [HN.out.symm] at hnl
                    have Hbg := Lib.hid ((tiles (code := code) H3.out.2 code.length).begins (ats.getD k 0))
                    have Hbw := Lib.hid (hbw)
                    have Hgd := Lib.hid hgd
                    have Hcl := Lib.hid (fun (x : Nat) (hx : x < code.length) => (hbw.cell (p := ⟨cb, coff + x * 2, none⟩) (Nat.lt_of_lt_of_le hcb Hbx.out.size)).trans ((Hbx.out.cell (p := ⟨cb, coff + x * 2, none⟩) hcb).trans (Hcc.out x hx).1))
                    have Hno := Lib.hid (show beginsN (psTo code code.length) (ofTo code code.length) (ats.getD k 0) = false → RefPost code js ats w (.returned (.tuple #[.int .i64 k, .int .i64 135])) wr from
                      fun h => ⟨Hbx.out.trans (hbw.mono Hbx.out.size), .inl ⟨k, 135, rfl, .name He.out H3.out Hall.out Hg.out k (by rw [← HM.out]; exact hlt2) hgd h⟩⟩)
                    have Hgo := Lib.hid (show beginsN (psTo code code.length) (ofTo code code.length) (ats.getD k 0) = true → ∃ (k' : Nat), k' ≤ m ∧ (Value.int .i64 ((k : Int) + 1)) = .int .i64 k' ∧ Below w3.heap.size w3 wr ∧ ∀ j, j < k' → beginsN (psTo code code.length) (ofTo code code.length) (ats.getD j 0) = true from
                      fun h => ⟨k + 1, by omega, by go_num, hbw, fun j hj => by
                        by_cases e : j = k
                        · rw [e]; exact h
                        · exact hgd j (by omega)⟩)
                    clear hbw hgd hnc2 hs1 hs2
                    generalize ats.getD k 0 = x at *
                    have hN := HN.out
                    by_cases hxl2 : x < code.length
                    · have hq := Hcl.out x hxl2
                      have d1 : decide ((n : Int) ≤ (x : Int)) = false := decide_eq_false (by omega)
                      have hxn : (x : Int) < (n : Int) := by omega
                      have Hbg2 := Lib.hid (show beginsN (psTo code code.length) (ofTo code code.length) x = (opAt code x == 3) from by rw [Hbg.out, decide_eq_true hxl2, Bool.true_and])
                      have hop : (code.getD x (0, 0)).1 = opAt code x := rfl
                      rw [hop] at hq
                      clear hN Hcl Hbg hop Hnp
                      by_cases h3 : opAt code x = 3
                      · have Hy := Lib.hid (Hgo.out (by rw [Hbg2.out, h3]; rfl))
                        rw [h3] at hq
                        clear Hgo Hno Hbg2 h3
                        go_wp2_with fail
                        go_roundw
                        case rel => exact Hy.out
                        case measure => simp [intOf]; omega
                      · have Hy := Lib.hid (Hno.out (by rw [Hbg2.out]; exact beq_eq_false_iff_ne.2 h3))
                        have d2 : ((opAt code x : Int) != 3) = true := bne_iff_ne.2 (by omega)
                        clear Hgo Hno Hbg2
                        generalize opAt code x = o at *
                        go_wp2_with fail
                        exact bodyPost_ret (v := .tuple #[.int .i64 k, .int .i64 ((135 : Nat) : Int)]) (by simp [results, Tryz.results44, go_sem]) rfl Hy.out
                    · have d1 : decide ((n : Int) ≤ (x : Int)) = true := decide_eq_true (by omega)
                      have d2 : decide (n ≤ x) = true := decide_eq_true (by omega)
                      have Hy := Lib.hid (Hno.out (by rw [Hbg.out, decide_eq_false hxl2, Bool.false_and]))
                      clear hN Hcl Hbg Hnp Hgo Hno
                      go_wp2_with fail
                      exact bodyPost_ret (v := .tuple #[.int .i64 k, .int .i64 ((135 : Nat) : Int)]) (by simp [results, Tryz.results44, go_sem]) rfl Hy.out
                  · obtain rfl : k = m := by omega
                    have Hx := Lib.hid (show RefPost code js ats w (.returned (.tuple #[.int .i64 0, .int .i64 0])) wr from
                      ⟨Hbx.out.trans (hbw.mono Hbx.out.size), .inr ⟨rfl, He.out, H3.out, Hall.out, Hg.out, fun j hj => hgd j (by rw [HM.out]; exact hj)⟩⟩)
                    clear hbw hgd
                    go_wp2
                    exact bodyPost_ret (v := .tuple #[.int .i64 0, .int .i64 0]) (by simp [results, Tryz.results44, go_sem]) rfl Hx.out
      · have HB := Lib.hid (show FindBad code js ats 0 130 from .first He.out (fun h => h3 h.2))
        generalize (code.getD 0 (0, 0)).1 = o at *
        have hd : ((o : Int) == 3) = false := by simp; omega
        have hd2 : ((o : Int) != 3) = true := by simp; omega
        clear hcc
        go_wp2
        exact bodyPost_ret (v := .tuple #[.int .i64 ((0 : Nat) : Int), .int .i64 ((130 : Nat) : Int)]) (by simp [results, Tryz.results44, go_sem]) rfl ⟨Hb1.out, .inl ⟨_, _, rfl, HB.out⟩⟩
  · have HB := Lib.hid (show FindBad code js ats (encRes code).2.1 (encRes code).2.2 from .enc h0)
    generalize (encRes code).2.1 = ei at *
    generalize (encRes code).2.2 = ec at *
    have hd : ((ec : Int) == 0) = false := by simp; omega
    go_wp2
    exact bodyPost_ret (v := .tuple #[.int .i64 ei, .int .i64 ec]) (by simp [results, Tryz.results44, go_sem]) rfl ⟨Hb1.out, .inl ⟨_, _, rfl, HB.out⟩⟩
theorem run_build39_3 (x y z : Int) (w : World) : (Instr.build 71 #[(0, .int .u32 x), (1, .int .u32 y), (2, .int .u32 z)]).run Tryz.prog w = .ok (.agg #[.int .u32 x, .int .u32 y, .int .u32 z, .int .i64 0]) w := by kernel_rfl
theorem enter_row {code : List (Nat × Nat)} (h3 : Firsts code) {k t : Nat} (hk : k < code.length) (ho : opAt code k = 3) (ht : IsEnd code k t) :
    enters code k < (psTo code code.length).length ∧ (psTo code code.length).getD (enters code k) (0, 0, 0) = (k, t, (code.getD k (0, 0)).2) := by
  have hT := tiles (code := code) h3.2 code.length
  have hr := hT.lt k hk
  have he := (hT.en k hk).1 ho
  have hx : (ofTo code code.length).getD k 0 = enters code k := by
    rw [ofTo_at code _ k hk, ← enters_ps]
    show enters code k + _ - 1 = _
    rw [if_pos ho]; omega
  rw [hx] at he hr
  have h2 := hT.end_eq hr (e := t) (by rw [he]; exact ht)
  have hf := hT.fr _ hr
  rw [he] at hf
  refine ⟨hr, ?_⟩
  generalize (psTo code code.length).getD (enters code k) (0, 0, 0) = p at *
  obtain ⟨a, b, c⟩ := p
  simp only at he h2 hf
  rw [he, ← h2, hf]
theorem enters_all {code : List (Nat × Nat)} : (psTo code code.length).take (enters code code.length) = psTo code code.length := by
  rw [enters_ps]; exact List.take_length
theorem take_row {P : List (Nat × Nat × Nat)} {n : Nat} {p : Nat × Nat × Nat} (hn : n < P.length) (hp : P.getD n (0, 0, 0) = p) : P.take (n + 1) = P.take n ++ [p] := by
  rw [List.take_add_one, List.getElem?_eq_getElem hn, ← hp, List.getD_eq_getElem?_getD, List.getElem?_eq_getElem hn]; rfl
set_option maxRecDepth 100000 in
set_option maxHeartbeats 4000000 in
theorem refprocs_any (v : Value) (code : List (Nat × Nat)) (hl : code.length ≤ 16384) (h3 : Firsts code) (w : World) (hv : Instrs w v code) :
    Calls Tryz.prog 48 #[v] w fun e w' => ∃ u, e = .returned u ∧ w'.ownsRow w.heap.size 71 4 u (psTo code code.length).length (encP (psTo code code.length)) ∧ Below w.heap.size w w' := by
  have hlt := hv.lt
  obtain ⟨i0, hi, hz0, hz1, hz2⟩ := info_parts info39
  have hb39 := run_build39_3
  have hb64 := run_buildSlice64
  obtain ⟨a, cap, rfl, hlc, hcm, hnil, hp⟩ := hv.opened
  obtain ⟨b, off, rfl, hbl, hc⟩ := hp h3.1
  have Hc := Lib.hid hc
  have Hlt := Lib.hid hlt
  have HV := Lib.hid hv
  have hlm : code.length ≤ 9223372036854775807 := by omega
  have hP0 := enters_le code code.length
  have Hend := Lib.hid (fun (k : Nat) (hk : k < code.length) (W : World) (hb : Below w.heap.size w W) => refend_any _ code k hk W (hv.below hb))
  clear hp hnil hv hlt hc hcm
  go_enter Tryz.func48, Tryz.ntmps48
  go_wp2_with fail
  go_loopw [3, 4] (fun s i wr => ∃ (k : Nat) (u : Value), k ≤ code.length ∧ u = s ∧ i = .int .i64 k ∧ wr.ownsRow w.heap.size 71 4 u (enters code k) (encP ((psTo code code.length).take (enters code k))) ∧ Below w.heap.size w wr) (fun _ i _ => code.length - (intOf i).toNat)
  case atStart => exact ⟨0, .slice none 0 0, by omega, rfl, rfl, World.ownsRow_nil _ _ _ _, Below.refl _ _⟩
  case round =>
    obtain ⟨k, u, hk, rfl, rfl, ho, hb⟩ := hrel
    by_cases hlt' : k < code.length
    · obtain ⟨hc1, hc2⟩ := Hc.out k hlt'
      have hq1 := (hb.cell (p := ⟨b, off + k * 2, none⟩) hbl).trans hc1
      have hq2 := (hb.cell (p := ⟨b, off + k * 2 + 1, none⟩) hbl).trans hc2
      have hop : (code.getD k (0, 0)).1 = opAt code k := rfl
      rw [hop] at hq1
      have hla := (Hlt.out k).2
      have hki : (k : Int) < (code.length : Int) := by omega
      have hk0 : (0 : Int) ≤ (k : Int) := by omega
      have Ho := Lib.hid ho
      have Hb := Lib.hid hb
      clear ho hb hc1 hc2 hop
      by_cases ho3 : opAt code k = 3
      · rw [ho3] at hq1
        have Hrow := Lib.hid (fun t (ht : IsEnd code k t) => enter_row h3 hlt' ho3 ht)
        have hen : enters code (k + 1) = enters code k + 1 := by show enters code k + _ = _; rw [if_pos ho3]
        have Hen := Lib.hid hen
        have hek := enters_le code k
        have hkm : IntKind.u32.wrap (k : Int) = (k : Int) := u32_wrap k (by omega)
        have hb63 : enters code k + 1 ≤ maxLen := by unfold maxLen; omega
        have hb47 : (enters code k + 1) * 24 ≤ 140737488355328 := by omega
        clear hen
        generalize hn : enters code k = n at *
        generalize (code.getD k (0, 0)).2 = x at *
        have Hn := Lib.hid hn
        clear hn ho3
        have Hend2 := Lib.hid (Hend.out k hlt')
        have Keep := Lib.hid (show ∀ W W' : World, Below W.heap.size W W' → (W.cell? ⟨b, off + k * 2 + 1, none⟩ = some (.int .u32 x) ∧ Below w.heap.size w W ∧ w.heap.size ≤ W.heap.size) → (W'.cell? ⟨b, off + k * 2 + 1, none⟩ = some (.int .u32 x) ∧ Below w.heap.size w W' ∧ w.heap.size ≤ W'.heap.size) from
          fun W W' hbw ⟨e1, e2, e3⟩ => ⟨(hbw.cell (p := ⟨b, off + k * 2 + 1, none⟩) (Nat.lt_of_lt_of_le hbl e3)).trans e1, Bel.tr e2 hbw, Nat.le_trans e3 hbw.size⟩)
        have H00 := Lib.hid (show (wr.drew.cell? ⟨b, off + k * 2 + 1, none⟩ = some (.int .u32 x) ∧ Below w.heap.size w wr.drew ∧ w.heap.size ≤ wr.drew.heap.size) from ⟨hq2, Hb.out.drew, Hb.out.size⟩)
        go_wp2_with fail
        clear hq1 hq2
        have KeepA := Lib.hid (show ∀ (W W' : World) (v' : Value), Grew W W' u v' → (W.cell? ⟨b, off + k * 2 + 1, none⟩ = some (.int .u32 x) ∧ Below w.heap.size w W ∧ w.heap.size ≤ W.heap.size) → (W'.cell? ⟨b, off + k * 2 + 1, none⟩ = some (.int .u32 x) ∧ Below w.heap.size w W' ∧ w.heap.size ≤ W'.heap.size) from
          fun W W' v' hg ⟨e1, e2, e3⟩ => by
            have hB : Below w.heap.size w W' := e2.grown hg.1 e3 (fun g e => (Ho.out.lt g e).1)
            exact ⟨(hB.cell (p := ⟨b, off + k * 2 + 1, none⟩) hbl).trans ((e2.cell (p := ⟨b, off + k * 2 + 1, none⟩) hbl).symm.trans e1), hB, hB.size⟩)
        go_region_held3 (fun w' => w'.cell? ⟨b, off + k * 2 + 1, none⟩ = some (.int .u32 x) ∧ Below w.heap.size w w' ∧ w.heap.size ≤ w'.heap.size)
          (first | assumption | exact KeepA.out _ _ _ hg3 (by assumption) | exact Keep.out _ _ (Bel.new _ _) (by assumption) | exact H00.out)
          (first | (refine step_append_grew rfl (.tmp 17) (.tmp 30) 110 rfl 71 i0 (.agg #[.int .u32 0, .int .u32 0, .int .u32 0, .int .i64 0]) 4 24 Tryz.underlying110 hi hz0 hz1 hz2 rfl (by decide) _ _ _ rfl (own_base (own_below Ho.out (Bel.dr (Bel.new _ _)))) ⟨_, 0, none⟩ 1 1 [_, _, _, _] rfl rfl (news_new _ #[_, _, _, _] 71) ?_ ?_ ?_ ?_; exact four_cells _ _ _; exact hb63; exact hb47; intro v3 w3 hr3 hg3 hn3) | (go_at_call 90; refine (Hend2.out _ ?_).mono ?_; exact (by assumption : _ ∧ Below w.heap.size w _ ∧ _).2.1; rintro e w' ⟨⟨t, rfl, ht⟩, hw'⟩; subst hw'; have htm : IntKind.u32.wrap (t : Int) = (t : Int) := u32_wrap t (by have := ht.2.1; omega)))
        have HB := Lib.hid (by assumption : w3.cell? ⟨b, off + k * 2 + 1, none⟩ = some (.int .u32 x) ∧ Below w.heap.size w w3 ∧ w.heap.size ≤ w3.heap.size).2.1
        obtain ⟨hr1, hr2⟩ := Hrow.out t ht
        have Hx := Lib.hid (show w3.ownsRow w.heap.size 71 4 v3 (enters code (k + 1)) (encP ((psTo code code.length).take (enters code (k + 1)))) from by
          rw [Hen.out, take_row hr1 hr2, encP_append]
          exact own_from hr3 (fun g e => by
            rcases hg3.2 g e with h' | h'
            · exact (Ho.out.lt g h').1
            · have := Hb.out.size
              simp at h'
              omega))
        clear hr3 hg3 hn3 hr1 hr2
        go_wp2_with fail
        go_roundw
        case rel => exact ⟨k + 1, v3, by omega, rfl, by go_num, Hx.out, HB.out⟩
        case measure => simp [intOf]; omega
      · have hne : ((opAt code k : Int) == 3) = false := by simp; omega
        have hen : enters code (k + 1) = enters code k := by show enters code k + _ = _; rw [if_neg ho3]; rfl
        have Hx := Lib.hid (show wr.ownsRow w.heap.size 71 4 u (enters code (k + 1)) (encP ((psTo code code.length).take (enters code (k + 1)))) from by rw [hen]; exact Ho.out)
        clear hen ho3 hq2
        generalize opAt code k = o at *
        go_wp2_with fail
        go_roundw
        case rel => exact ⟨k + 1, u, by omega, rfl, by go_num, Hx.out, Hb.out⟩
        case measure => simp [intOf]; omega
    · obtain rfl : k = code.length := by omega
      have Hx := Lib.hid (show wr.ownsRow w.heap.size 71 4 u (psTo code code.length).length (encP (psTo code code.length)) from by
        have := ho
        rw [enters_all, enters_ps] at this
        exact this)
      clear ho
      go_wp2_with fail
      exact bodyPost_ret (v := u) (by simp [results, Tryz.results48, go_sem]) rfl ⟨_, rfl, Hx.out, hb⟩
theorem mem_some {js : List Nat} {y : Nat} : y ∈ js ↔ ∃ j, j < js.length ∧ js.getD j 0 = y := by
  rw [List.mem_iff_getElem]
  constructor
  · rintro ⟨i, hi, h⟩
    exact ⟨i, hi, by rw [List.getD_eq_getElem?_getD, List.getElem?_eq_getElem hi]; exact h⟩
  · rintro ⟨i, hi, h⟩
    rw [List.getD_eq_getElem?_getD, List.getElem?_eq_getElem hi] at h
    exact ⟨i, hi, h⟩
def aimR (O js : List Nat) (i : Int) : List Nat := js.filter fun j => decide (ofN O j = i)
theorem take_getD (js : List Nat) {k : Nat} (hk : k < js.length) : js.take (k + 1) = js.take k ++ [js.getD k 0] := by
  rw [List.take_add_one, List.getElem?_eq_getElem hk, List.getD_eq_getElem?_getD, List.getElem?_eq_getElem hk]; rfl
theorem aimR_le (O js : List Nat) (i : Int) (k : Nat) : (aimR O (js.take k) i).length ≤ k := by
  refine Nat.le_trans (List.length_filter_le _ _) ?_
  rw [List.length_take]; omega
theorem run_bs23_r (x : Int) (w : World) : (Instr.buildSlice 23 1 #[(0, .int .u32 x)]).run Tryz.prog w = .ok (.slice (some ⟨w.heap.size, 0, none⟩) 1 1) (w.alloc (.cells #[.int .u32 x] 25)) := by kernel_rfl
set_option maxRecDepth 100000 in
set_option maxHeartbeats 1000000 in
theorem reftargets_any (v vj : Value) (code : List (Nat × Nat)) (js : List Nat) (hl : code.length ≤ 16384) (h3 : (code.getD 0 (0, 0)).1 = 3) (q : Int) (hjs : js.length ≤ 16384) (w : World) (hv : Instrs w v code) (hj : RowU w w.heap.size vj js) :
    Calls Tryz.prog 138 #[v, vj, .int .i64 q] w fun e w' => ∃ u, e = .returned u ∧ w'.ownsRow w.heap.size 25 1 u (aimR (ofTo code code.length) js q).length (encN .u32 (aimR (ofTo code code.length) js q)) ∧ Below w.heap.size w w' := by
  obtain ⟨i0, hi, hz0, hz1, hz2⟩ := info_parts info32
  have hb23 := run_bs23_r
  have Ho := Lib.hid (fun (z : Nat) (hz : z < 4294967296) (W : World) (hb : Below w.heap.size w W) => refof_any v code hl h3 z hz W (hv.below hb))
  obtain ⟨aj, capj, rfl, hjc, hjm, hjl, hjp⟩ := hj
  have hjm2 : js.length ≤ 9223372036854775807 := by omega
  have Hjp := Lib.hid hjp
  have Hjl := Lib.hid hjl
  clear hjp hjl hjm hv h3 hl
  generalize ofTo code code.length = O at *
  obtain ⟨n, hn⟩ : ∃ n, n = js.length := ⟨_, rfl⟩
  have HN := Lib.hid hn
  have Hfull := Lib.hid (show js.take n = js from by rw [hn]; exact List.take_length)
  rw [← hn] at hjc hjm2 hjs ⊢
  clear hn
  go_enter Tryz.func138, Tryz.ntmps138
  go_wp2_with fail
  go_loopw [7, 8] (fun s i wr => ∃ (k : Nat) (u : Value), k ≤ n ∧ u = s ∧ i = .int .i64 k ∧ wr.ownsRow w.heap.size 25 1 u (aimR O (js.take k) q).length (encN .u32 (aimR O (js.take k) q)) ∧ Below w.heap.size w wr) (fun _ i _ => n - (intOf i).toNat)
  case atStart => exact ⟨0, .slice none 0 0, by omega, rfl, rfl, World.ownsRow_nil _ _ _ _, Below.refl _ _⟩
  case round =>
    obtain ⟨k, u, hk, rfl, rfl, ho, hb⟩ := hrel
    by_cases hlt : k < n
    · obtain ⟨jb, joff, rfl, hjb, hjc2⟩ := Hjp.out (by rw [← HN.out]; omega)
      have hq := (hb.cell (p := ⟨jb, joff + k, none⟩) hjb).trans (hjc2 k (by rw [← HN.out]; exact hlt))
      have hki : (k : Int) < (n : Int) := by omega
      have hk0 : (0 : Int) ≤ (k : Int) := by omega
      have hst := take_getD js (k := k) (by rw [← HN.out]; exact hlt)
      have Hst := Lib.hid (show aimR O (js.take (k + 1)) q = aimR O (js.take k) q ++ if ofN O (js.getD k 0) = q then [js.getD k 0] else [] from by
        unfold aimR
        rw [hst, List.filter_append, List.filter_cons]
        simp)
      have Hle := aimR_le O js q k
      have Hoz := Lib.hid (Ho.out (js.getD k 0) (Hjl.out k) wr hb)
      have Hown := Lib.hid ho
      have Hb := Lib.hid hb
      clear hst ho hjc2 hb
      generalize hxx : aimR O (js.take k) q = xs at *
      have hb63 : xs.length + 1 ≤ maxLen := by unfold maxLen; omega
      have hb47 : (xs.length + 1) * 4 ≤ 140737488355328 := by omega
      clear hxx
      by_cases hz : ofN O (js.getD k 0) = q
      · have Hst2 := Lib.hid (show aimR O (js.take (k + 1)) q = xs ++ [js.getD k 0] from by rw [Hst.out, if_pos hz])
        rw [hz] at Hoz
        clear hz Hst
        generalize js.getD k 0 = z at *
        go_wp2_with fail
        refine Hoz.out.mono ?_
        rintro e w2 ⟨rfl, hw2⟩
        subst hw2
        have hr := own_base Hown.out
        go_wp2_with ((with_reducible refine wpList_append1 (o := ⟨some 29, .call { callee := .builtin .append, args := #[.tmp 23, .tmp 28], argTypes := #[23, 23] }, _, _, _, none⟩) rfl _ _ 23 rfl 25 i0 (.int .u32 0) 1 4 Tryz.underlying23 hi hz0 hz1 hz2 ?_ ?_ _ _ _ hr _ _ ?_ ?_ ?_ ?_ ?_ ?_ ?_); rfl; decide; rfl; rfl; rfl; (simp [Value.oneCell']); exact hb63; exact hb47; intro g5 c5 w5 o5 g5' hl5)
        have Hx := Lib.hid (show w5.ownsRow w.heap.size 25 1 (.slice (some ⟨g5, 0, none⟩) (xs.length + 1) c5) (aimR O (js.take (k + 1)) q).length (encN .u32 (aimR O (js.take (k + 1)) q)) ∧ Below w.heap.size w w5 from by
          refine ⟨?_, Hb.out.grown g5'.1 Hb.out.size (fun g e => (Hown.out.lt g e).1)⟩
          rw [Hst2.out, List.length_append, encN_append]
          refine own_from o5 (fun g e => ?_)
          rcases g5'.2 g e with h' | h'
          · exact (Hown.out.lt g h').1
          · exact Nat.le_trans Hb.out.size h')
        clear hr o5 g5'
        go_roundw
        case rel => exact ⟨k + 1, _, by omega, rfl, by go_num, Hx.out⟩
        case measure => simp [intOf]; omega
      · have hd : (ofN O (js.getD k 0) == q) = false := beq_eq_false_iff_ne.2 hz
        have Hx := Lib.hid (show wr.ownsRow w.heap.size 25 1 u (aimR O (js.take (k + 1)) q).length (encN .u32 (aimR O (js.take (k + 1)) q)) ∧ Below w.heap.size w wr from by
          rw [Hst.out, if_neg hz, List.append_nil]
          exact ⟨Hown.out, Hb.out⟩)
        clear hz Hst Hown
        generalize ofN O (js.getD k 0) = p at *
        generalize js.getD k 0 = z at *
        go_wp2_with fail
        refine Hoz.out.mono ?_
        rintro e w2 ⟨rfl, hw2⟩
        subst hw2
        go_wp2_with fail
        go_roundw
        case rel => exact ⟨k + 1, u, by omega, rfl, by go_num, Hx.out⟩
        case measure => simp [intOf]; omega
    · obtain rfl : n = k := by omega
      have Hx := Lib.hid (show wr.ownsRow w.heap.size 25 1 u (aimR O js q).length (encN .u32 (aimR O js q)) ∧ Below w.heap.size w wr from by
        rw [Hfull.out] at ho
        exact ⟨ho, hb⟩)
      clear ho hb
      go_wp2_with fail
      exact bodyPost_ret (v := u) (by simp [results, Tryz.results138, go_sem]) rfl ⟨_, rfl, Hx.out⟩
section
variable {code : List (Nat × Nat)} {js ats : List Nat} (h : FindOk code js ats)
include h
theorem FindOk.hofA (x : Nat) (hx : x < (ofTo code code.length).length) : (ofTo code code.length).getD x 0 < (psTo code code.length).length := h.tl.lt x (by rw [← h.tl.ol]; exact hx)
theorem FindOk.aim_eq (k : Nat) (hk : k ≤ js.length) (j : Nat) : (aimTo (ofTo code code.length) js (psTo code code.length).length k).getD j [] = if j < (psTo code code.length).length then aimR (ofTo code code.length) (js.take k) (j : Int) else [] := by
  induction k generalizing j with
  | zero =>
    show ((List.replicate _ []).getD j []) = _
    rw [List.getD_eq_getElem?_getD, List.getElem?_replicate]
    split <;> simp [aimR]
  | succ k ih =>
    have hx := (h.jumps k (by omega)).1
    have hr := h.hofA (js.getD k 0) (by rw [h.tl.ol]; exact hx)
    rw [aimTo_getD _ _ _ _ _ hr, ih (by omega) j]
    have hst : ∀ i : Int, aimR (ofTo code code.length) (js.take (k + 1)) i = aimR (ofTo code code.length) (js.take k) i ++ if ofN (ofTo code code.length) (js.getD k 0) = i then [js.getD k 0] else [] := by
      intro i
      unfold aimR
      rw [take_getD js (by omega), List.filter_append, List.filter_cons]
      simp
    have hofA : ofN (ofTo code code.length) (js.getD k 0) = ((ofTo code code.length).getD (js.getD k 0) 0 : Nat) := by
      unfold ofN; rw [if_pos (by rw [h.tl.ol]; exact hx)]
    by_cases e : j = (ofTo code code.length).getD (js.getD k 0) 0
    · subst e
      rw [if_pos rfl, if_pos hr, if_pos hr, hst, if_pos hofA]
    · rw [if_neg e]
      split
      · rw [hst, if_neg (by rw [hofA]; omega), List.append_nil]
      · rfl
theorem FindOk.tgts_eq (i : Int) : tgtsAt (psTo code code.length).length (aimTo (ofTo code code.length) js (psTo code code.length).length js.length) i = if i < 0 then [] else aimR (ofTo code code.length) js i := by
  unfold tgtsAt
  by_cases h0 : i < 0
  · rw [if_neg (by omega), if_pos h0]
  · obtain ⟨n, rfl⟩ := Int.eq_ofNat_of_zero_le (by omega : 0 ≤ i)
    rw [if_neg h0, Int.toNat_natCast, h.aim_eq js.length (Nat.le_refl _), List.take_length]
    by_cases hn : n < (psTo code code.length).length
    · rw [if_pos ⟨by omega, by omega⟩, if_pos hn]
    · rw [if_neg (by omega)]
      symm
      unfold aimR
      rw [List.filter_eq_nil_iff]
      intro z hz
      obtain ⟨k, hk, rfl⟩ := mem_some.1 hz
      have hx := (h.jumps k hk).1
      have hr := h.hofA (js.getD k 0) (by rw [h.tl.ol]; exact hx)
      unfold ofN
      rw [if_pos (by rw [h.tl.ol]; exact hx)]
      simp only [decide_eq_true_eq]
      omega
end
set_option linter.unusedVariables false
def NxPost (code : List (Nat × Nat)) (js : List Nat) (i : Nat) (w : World) (e : Ending) (w' : World) : Prop :=
  ∃ u, e = .returned u ∧ w'.ownsRow w.heap.size 25 1 u (nextN code js i).length (encN .u32 (nextN code js i)) ∧ Below w.heap.size w w'
theorem own_lit1 (w W : World) (x B : Nat) (hB : W.heap.size = B) (hb : Below w.heap.size w W) : (W.alloc (.cells #[.int .u32 x] 25)).ownsRow w.heap.size 25 1 (.slice (some ⟨B, 0, none⟩) 1 1) [x].length (encN .u32 [x]) := by
  subst hB
  exact World.ownsRow_lit W #[.int .u32 x] 1 hb.size (by unfold maxLen; omega) rfl
theorem own_lit2 (w W : World) (x y B : Nat) (hB : W.heap.size = B) (hb : Below w.heap.size w W) : (W.alloc (.cells #[.int .u32 x, .int .u32 y] 25)).ownsRow w.heap.size 25 1 (.slice (some ⟨B, 0, none⟩) 2 2) [x, y].length (encN .u32 [x, y]) := by
  subst hB
  exact World.ownsRow_lit W #[.int .u32 x, .int .u32 y] 2 hb.size (by unfold maxLen; omega) rfl
set_option maxRecDepth 100000 in
set_option maxHeartbeats 4000000 in
theorem refnext_any (vc vj : Value) (code : List (Nat × Nat)) (js : List Nat) (hf : FindOk code js []) (hcl : code.length ≤ 16384) (i : Nat) (hi : i < code.length) (w : World) (hc : Instrs w vc code) (hj : RowU w w.heap.size vj js) :
    Calls Tryz.prog 118 #[vc, vj, .int .i64 i] w (NxPost code js i w) := by
  have hb1 := run_bs23_1
  have hb2 := run_bs23_2
  have HJ := Lib.hid hj
  have HC := Lib.hid hc
  have HF := Lib.hid hf
  have hlt := hc.lt i
  obtain ⟨ac, cc, rfl, -, -, -, hpc⟩ := hc.opened
  obtain ⟨b, off, rfl, hbl, hcc⟩ := hpc (by omega)
  obtain ⟨q0, q1⟩ := hcc i hi
  obtain ⟨aj, cj, rfl, -⟩ := hj
  have hn0 : nextN code js i = nextN code js i := rfl
  conv at hn0 => rhs; unfold nextN
  have HN := Lib.hid hn0
  clear hn0
  have HT := Lib.hid (fun q => hf.tgts_eq q)
  have HO := Lib.hid (fun (W : World) (hW : Below w.heap.size w W) => refof_any _ code hcl hf.h3.2 i (by omega) W (HC.out.below hW))
  have HG := Lib.hid (fun (q : Int) (W : World) (hW : Below w.heap.size w W) => reftargets_any _ _ code js hcl hf.h3.2 q hf.jl W (HC.out.below hW) (HJ.out.calm hW hW.size))
  have hii : (i : Int) < (code.length : Int) := by omega
  have hi0 : (0 : Int) ≤ (i : Int) := by omega
  have hw1 : IntKind.u32.wrap ((i : Int) + 1) = ((i + 1 : Nat) : Int) := by rw [IntKind.wrap_u32]; omega
  have hw2 : IntKind.u32.wrap (i : Int) = (i : Int) := by rw [IntKind.wrap_u32]; omega
  have Hdef : Hid (∀ K, kindOf (opAt code i) = K → ¬ (K = 1 ∨ K = 6 ∨ K = 5) → K ≠ 2 → K ≠ 3 → K ≠ 4 → nextN code js i = []) := Lib.hid (fun K e g1 g2 g3 g4 => by rw [HN.out, if_neg (by rw [e]; exact g1), if_neg (by rw [e]; exact g2), if_neg (by rw [e]; exact g3), if_neg (by rw [e]; exact g4)])
  have H1 : Hid (∀ K, kindOf (opAt code i) = K → (K = 1 ∨ K = 6 ∨ K = 5) → nextN code js i = [i + 1]) := Lib.hid (fun K e g => by rw [HN.out, if_pos (by rw [e]; exact g)])
  have H2 : Hid (kindOf (opAt code i) = 2 → nextN code js i = if i + 1 = argAt code i then [i + 1] else [min (i + 1) (argAt code i), max (i + 1) (argAt code i)]) := Lib.hid (fun e => by rw [HN.out, if_neg (by omega), if_pos e])
  have H3 : Hid (kindOf (opAt code i) = 3 → nextN code js i = [argAt code i]) := Lib.hid (fun e => by rw [HN.out, if_neg (by omega), if_neg (by omega), if_pos e])
  have H4 : Hid (kindOf (opAt code i) = 4 → nextN code js i = tgtsAt (psTo code code.length).length (aimTo (ofTo code code.length) js (psTo code code.length).length js.length) (ofN (ofTo code code.length) i)) := Lib.hid (fun e => by rw [HN.out, if_neg (by omega), if_neg (by omega), if_neg (by omega), if_pos e])
  unfold opAt argAt at *
  clear hpc hcc hc hf HN
  generalize code.getD i (0, 0) = ins at *
  obtain ⟨o, a⟩ := ins
  simp only at q0 q1 hlt
  obtain ⟨ho, ha⟩ := hlt
  have HI := Lib.hid (fun W => refinfo_any o ho W)
  unfold rowVal rowCells at HI
  obtain ⟨K, hKo⟩ : ∃ K, kindOf o = K := ⟨_, rfl⟩
  have hK8 : K ≤ 8 := by rw [← hKo]; exact kind_lt o
  have HK := Lib.hid hKo
  rw [hKo] at HI
  generalize wordOf o = wd at *
  generalize widthOf o = wi at *
  generalize mostOf o = mo at *
  generalize takesOf o = ta at *
  generalize givesOf o = gi at *
  generalize isOp o = io at *
  clear hKo
  go_enter Tryz.func118, Tryz.ntmps118
  go_wp2_with fail
  refine (HI.out _).mono ?_
  rintro e w1 ⟨rfl, hb⟩
  obtain ⟨W2, hW2⟩ : ∃ W2, W2 = w1.alloc (.cells #[.string ⟨wd.toArray⟩, .int .i64 wi, .int .u32 mo, .int .i64 ta, .int .i64 gi, .int .u8 K] 189) := ⟨_, rfl⟩
  have hB2 : Below w.heap.size w W2 := by rw [hW2]; exact Bel.al hb _
  have q2 := cell_new5 w1 (.string ⟨wd.toArray⟩) (.int .i64 wi) (.int .u32 mo) (.int .i64 ta) (.int .i64 gi) (.int .u8 K) 189
  have p1 := (hB2.cell (p := ⟨b, off + i * 2 + 1, none⟩) hbl).trans q1
  have p1' : (w1.alloc (.cells #[.string ⟨wd.toArray⟩, .int .i64 wi, .int .u32 mo, .int .i64 ta, .int .i64 gi, .int .u8 K] 189)).cell? ⟨b, off + i * 2 + 1, none⟩ = some (.int .u32 a) := by rw [← hW2]; exact p1
  have p2 := (hb.cell (p := ⟨b, off + i * 2 + 1, none⟩) hbl).trans q1
  have hb1l : b < w1.heap.size := Nat.lt_of_lt_of_le hbl hb.size
  have HB2 := Lib.hid hB2
  have HOW := Lib.hid (HO.out W2 hB2)
  rw [hW2] at HOW HB2
  have HGW := Lib.hid (fun q => HG.out q _ HB2.out)
  have hK : K = 0 ∨ K = 1 ∨ K = 2 ∨ K = 3 ∨ K = 4 ∨ K = 5 ∨ K = 6 ∨ K = 7 ∨ K = 8 := by omega
  clear hb hB2 hW2 HI HO HG p1
  rcases hK with rfl | rfl | rfl | rfl | rfl | rfl | rfl | rfl | rfl
  · go_wp2_with fail
    go_ret
    exact ⟨_, rfl, by rw [Hdef.out 0 HK.out (by omega) (by omega) (by omega) (by omega)]; exact World.ownsRow_nil _ _ _ _, HB2.out⟩
  · go_wp2_with fail
    go_ret
    exact ⟨_, rfl, by rw [H1.out 1 HK.out (by omega)]; exact own_lit1 w _ (i + 1) _ (by simp) HB2.out, Bel.al HB2.out _⟩
  · rcases Nat.lt_trichotomy (i + 1) a with h | h | h
    · have h' : (i : Int) + 1 < (a : Int) := by omega
      have HE := Lib.hid (show nextN code js i = [i + 1, a] from by rw [H2.out HK.out, if_neg (by omega), Nat.min_eq_left (by omega), Nat.max_eq_right (by omega)])
      go_wp2_with fail
      go_ret
      exact ⟨_, rfl, by rw [HE.out]; exact own_lit2 w _ (i + 1) a _ (by simp) HB2.out, Bel.al HB2.out _⟩
    · have HE := Lib.hid (show nextN code js i = [i + 1] from by rw [H2.out HK.out, if_pos h])
      subst h
      go_wp2_with fail
      go_ret
      exact ⟨_, rfl, by rw [HE.out]; exact own_lit1 w _ (i + 1) _ (by simp) HB2.out, Bel.al HB2.out _⟩
    · have h' : (a : Int) < (i : Int) + 1 := by omega
      have HE := Lib.hid (show nextN code js i = [a, i + 1] from by rw [H2.out HK.out, if_neg (by omega), Nat.min_eq_right (by omega), Nat.max_eq_left (by omega)])
      go_wp2_with fail
      go_ret
      exact ⟨_, rfl, by rw [HE.out]; exact own_lit2 w _ a (i + 1) _ (by simp) HB2.out, Bel.al HB2.out _⟩
  · go_wp2_with fail
    go_ret
    exact ⟨_, rfl, by rw [H3.out HK.out]; exact own_lit1 w _ a _ (by simp) HB2.out, Bel.al HB2.out _⟩
  · go_wp2_with fail
    refine HOW.out.mono ?_
    rintro e w3 ⟨rfl, rfl⟩
    go_wp2_with fail
    refine (HGW.out _).mono ?_
    rintro e w4 ⟨u, rfl, ho4, hb4⟩
    have HX : Hid (w4.ownsRow w.heap.size 25 1 u (nextN code js i).length (encN .u32 (nextN code js i)) ∧ Below w.heap.size w w4) := Lib.hid (by
      refine ⟨?_, Bel.tr HB2.out hb4⟩
      rw [H4.out HK.out, HT.out]
      have hn : ¬ ofN (ofTo code code.length) i < 0 := by
        unfold ofN; rw [if_pos (by rw [HF.out.tl.ol]; exact hi)]; omega
      rw [if_neg hn]
      exact own_downT ho4 HB2.out.size)
    clear ho4 hb4
    obtain ⟨au, cu, hu, -⟩ := own_sl HX.out.1
    subst hu
    go_wp2_with fail
    go_ret
    exact ⟨_, rfl, HX.out.1, HX.out.2⟩
  · go_wp2_with fail
    go_ret
    exact ⟨_, rfl, by rw [H1.out 5 HK.out (by omega)]; exact own_lit1 w _ (i + 1) _ (by simp) HB2.out, Bel.al HB2.out _⟩
  · go_wp2_with fail
    go_ret
    exact ⟨_, rfl, by rw [H1.out 6 HK.out (by omega)]; exact own_lit1 w _ (i + 1) _ (by simp) HB2.out, Bel.al HB2.out _⟩
  · go_wp2_with fail
    go_ret
    exact ⟨_, rfl, by rw [Hdef.out 7 HK.out (by omega) (by omega) (by omega) (by omega)]; exact World.ownsRow_nil _ _ _ _, HB2.out⟩
  · go_wp2_with fail
    go_ret
    exact ⟨_, rfl, by rw [Hdef.out 8 HK.out (by omega) (by omega) (by omega) (by omega)]; exact World.ownsRow_nil _ _ _ _, HB2.out⟩
def encT (L : List Bool) : List Value := L.map .bool
theorem encT_length (L : List Bool) : (encT L).length = L.length := by simp [encT]
theorem encT_set (L : List Bool) (i : Nat) (b : Bool) : (encT L).set i (.bool b) = encT (L.set i b) := by simp [encT, List.map_set]
theorem made_bools (n : Nat) : (madeCells (Value.bool false).cells (n * 1)).toList = encT (List.replicate n false) := by
  rw [Nat.mul_one, encT, List.map_replicate]
  exact toList_madeCells_one (.bool false) n
theorem info4 : (Tryz.prog.info? 4).map (fun i => (i.zero, i.size, i.bytes)) = some (some (.bool false), 1, 1) := by kernel_rfl
theorem own_tcell {W : World} {B g n c : Nat} {L : List Bool} (h : W.ownsRow B 4 1 (.slice (some ⟨g, 0, none⟩) n c) n (encT L)) (j : Nat) (hj : j < n) : W.cell? ⟨g, j, none⟩ = some (.bool (L.getD j false)) := by
  have hl := h.1
  rw [encT_length] at hl
  obtain ⟨_, _, e9, _, _, hp9⟩ := own_sl h
  cases e9
  obtain ⟨g9, e9, hg9l, hc9⟩ := hp9 (by omega)
  cases e9
  refine (hc9 j (by rw [encT_length]; omega)).trans ?_
  have hjl : j < L.length := by omega
  simp [encT, List.getD_eq_getElem?_getD, hjl]
attribute [local go_sem ↓ high] run_mx3
def trueV : Value → Bool
  | .bool b => b
  | _ => false
def trues (L : List Bool) : Nat := (L.filter id).length
theorem trueV_enc (L : List Bool) : ((encT L).filter trueV).length = trues L := by
  unfold trues encT
  induction L with
  | nil => rfl
  | cons x L ih => cases x <;> simp [List.filter_cons, trueV, ih]
theorem trues_set_false {L : List Bool} {i : Nat} (h : L.getD i false = true) : trues (L.set i false) + 1 = trues L := by
  induction L generalizing i with
  | nil => simp at h
  | cons x L ih =>
    cases i with
    | zero =>
      have hx : x = true := by simpa using h
      subst hx
      simp [trues]
    | succ i =>
      have := ih (i := i) (by simpa [List.getD] using h)
      unfold trues at this ⊢
      simp only [List.set_cons_succ, List.filter_cons]
      split <;> first | (simp only [List.length_cons]; omega) | omega
theorem trues_set_true (L : List Bool) (i : Nat) : trues (L.set i true) ≤ trues L + 1 := by
  induction L generalizing i with
  | nil => simp [trues]
  | cons x L ih =>
    cases i with
    | zero => cases x <;> simp [trues]
    | succ i =>
      have := ih i
      unfold trues at this ⊢
      simp only [List.set_cons_succ, List.filter_cons]
      split <;> first | (simp only [List.length_cons]; omega) | omega
def muslB (W : World) (q g n : Nat) : Nat :=
  (match W.heap[q]? with | some (.cells cs _ _) => ((cs.toList.take n).filter trueV).length | _ => 0) + (match W.heap[g]? with | some (.cells cs _ _) => ((cs.toList.take n).filter negV).length | _ => 0)
theorem muslB_at {W : World} {B B' q g c c' n : Nat} {L : List Bool} {D : List Int} (h : W.ownsRow B 4 1 (.slice (some ⟨q, 0, none⟩) n c') n (encT L)) (hD : W.ownsRow B' 3 1 (.slice (some ⟨g, 0, none⟩) n c) n (encZ D)) : muslB W q g n = trues L + neg D := by
  unfold muslB
  rcases h.2 with ⟨hv', _⟩ | ⟨q', c'', cur, hv', -, hg, -, -, -, ht⟩
  · cases hv'
  · cases hv'
    rw [hg]
    rw [Nat.mul_one] at ht
    simp only [ht, trueV_enc]
    rcases hD.2 with ⟨hv', _⟩ | ⟨g', c'', cur, hv', -, hg, -, -, -, ht⟩
    · cases hv'
    · cases hv'
      rw [hg]
      rw [Nat.mul_one] at ht
      simp only [ht, negV_enc]
def Waits (L : List Bool) (l : List Nat) : Prop := l.Nodup ∧ ∀ j, L.getD j false = decide (j ∈ l)
theorem getD_setB (L : List Bool) (t k : Nat) (x : Bool) : (L.set t x).getD k false = if k = t ∧ t < L.length then x else L.getD k false := by
  rw [List.getD_eq_getElem?_getD, List.getD_eq_getElem?_getD, List.getElem?_set]
  by_cases h : t = k
  · subst h
    by_cases hl : t < L.length
    · simp [hl]
    · simp [hl]
  · rw [if_neg h, if_neg (fun e => h e.1.symm)]
theorem Waits.take {L : List Bool} {l : List Nat} (h : Waits L l) {x : Nat} (hx : x ∈ l) (hl : x < L.length) : Waits (L.set x false) (l.erase x) := by
  refine ⟨h.1.erase x, fun j => ?_⟩
  rw [getD_setB, h.2 j]
  by_cases e : j = x
  · rw [if_pos ⟨e, hl⟩]
    subst e
    exact (decide_eq_false (fun hm => (h.1.mem_erase_iff.1 hm).1 rfl)).symm
  · rw [if_neg (fun c => e c.1)]
    exact decide_eq_decide.2 ⟨fun hm => h.1.mem_erase_iff.2 ⟨e, hm⟩, fun hm => (h.1.mem_erase_iff.1 hm).2⟩
theorem Waits.put {L : List Bool} {l : List Nat} (h : Waits L l) {t : Nat} (ht : t ∉ l) (hl : t < L.length) : Waits (L.set t true) (t :: l) := by
  refine ⟨List.nodup_cons.2 ⟨ht, h.1⟩, fun j => ?_⟩
  rw [getD_setB, h.2 j]
  by_cases e : j = t
  · rw [if_pos ⟨e, hl⟩]
    subst e
    exact (decide_eq_true (List.mem_cons_self ..)).symm
  · rw [if_neg (fun c => e c.1)]
    exact decide_eq_decide.2 ⟨fun hm => List.mem_cons_of_mem _ hm, fun hm => (List.mem_cons.1 hm).resolve_left e⟩
def RwPost (R : List Int × Int × Nat × Nat) (B g c n : Nat) (w : World) (e : Ending) (w' : World) : Prop :=
  ∃ D', e = .returned (.tuple #[.int .i64 R.2.1, .int .i64 R.2.2.1, .int .i64 R.2.2.2]) ∧ w'.ownsRow B 3 1 (.slice (some ⟨g, 0, none⟩) n c) n (encZ D') ∧ Deps D' ∧ w.grownBy w' (some g) ∧ (R.2.2.2 = 0 → D' = R.1)
theorem gb_set {w wr : World} {g q t : Nat} (h : w.grownBy wr (some g)) (hq : w.heap.size ≤ q ∨ q = g) (u : Value) : w.grownBy (wr.setCell ⟨q, t, none⟩ u) (some g) :=
  ⟨h.os, h.tape, h.output, by rw [World.size_setCell]; exact h.size, fun k hk hne => by
    rw [Below.heap_setCell _ _ _ _ (fun e => by
      rcases hq with hq | hq
      · simp only at e; omega
      · simp only at e; exact hne (by rw [e, hq]))]
    exact h.block k hk hne⟩
theorem waits_start {n A : Nat} (hA : A < n) : Waits ((List.replicate n false).set A true) [A] :=
  Waits.put (L := List.replicate n false) (l := []) ⟨List.nodup_nil, fun j => by
    rw [List.getD_eq_getElem?_getD, List.getElem?_replicate]
    split <;> simp⟩ (by simp) (by simpa using hA)
set_option maxRecDepth 100000 in
set_option maxHeartbeats 8000000 in
theorem refwalk_any {w0 w : World} {vc vj : Value} {code : List (Nat × Nat)} {js : List Nat} (hc : Instrs w0 vc code) (hj : RowU w0 w0.heap.size vj js) (hb : Below w0.heap.size w0 w) (hok : FindOk code js []) {g c : Nat} {D : List Int}
    (hD : w.ownsRow w0.heap.size 3 1 (.slice (some ⟨g, 0, none⟩) code.length c) code.length (encZ D)) (hDb : Deps D) (r : Nat) (hr : r < (psTo code code.length).length) :
    Calls Tryz.prog 89 #[vc, vj, .int .i64 (((psTo code code.length).getD r (0, 0, 0)).1 : Nat), .slice (some ⟨g, 0, none⟩) code.length c] w
      (RwPost (walkN code js (code.length + 1) (D.set ((psTo code code.length).getD r (0, 0, 0)).1 0) [((psTo code code.length).getD r (0, 0, 0)).1] 0) w0.heap.size g c code.length w) := by
  have tl := hok.tl
  obtain ⟨hAE, hEn⟩ := tl.bd r hr
  have hEnd := Lib.hid (fun (b : Nat) (h : IsEnd code ((psTo code code.length).getD r (0, 0, 0)).1 b) => tl.end_eq hr h)
  have hRe := Lib.hid (fun (i : Nat) (h1 : ((psTo code code.length).getD r (0, 0, 0)).1 ≤ i) (h2 : i < ((psTo code code.length).getD r (0, 0, 0)).2.1) (t : Nat) (ht : t ∈ nextN code js i) => (by
    have hi : i < code.length := by omega
    obtain ⟨n1, n2⟩ := hok.next_of hi ht
    have hm := tl.mid r hr i h1 h2
    have hl := tl.lo t n1
    rw [n2, hm] at hl
    exact hl : ((psTo code code.length).getD r (0, 0, 0)).1 ≤ t ∧ t < ((psTo code code.length).getD r (0, 0, 0)).2.1))
  generalize ((psTo code code.length).getD r (0, 0, 0)).2.1 = E at *
  generalize ((psTo code code.length).getD r (0, 0, 0)).1 = A at *
  obtain ⟨R, hR⟩ : ∃ R, R = walkN code js (code.length + 1) (D.set A 0) [A] 0 := ⟨_, rfl⟩
  rw [← hR]
  have hDl := own_ilen hD
  have hcl := encRes_short hok.he
  have hgl : g < w.heap.size := (hD.lt g rfl).2
  have hgb : w0.heap.size ≤ g := (hD.lt g rfl).1
  have HR := Lib.hid hR
  have H := Lib.hid hD
  have hAn : A < code.length := by omega
  have hai : (A : Int) < (code.length : Int) := by omega
  have ha0 : (0 : Int) ≤ (A : Int) := by omega
  obtain ⟨i1, hi1, x0, x1, x2⟩ := info_parts info4
  have hlt := hc.lt
  have HLT := Lib.hid hlt
  have HC := Lib.hid hc
  have HJ := Lib.hid hj
  have HB := Lib.hid hb
  have HE := Lib.hid (refend_any vc code A hAn w (hc.below hb))
  have HOk := Lib.hid hok
  obtain ⟨ac, cc, rfl, -, -, -, hpc⟩ := hc.opened
  obtain ⟨b0, off, rfl, hbl0, hcc0⟩ := hpc (by omega)
  obtain ⟨aj, cj, rfl, -⟩ := hj
  have Hcc := Lib.hid hcc0
  have hbw : b0 < w.heap.size := by have := hb.size; omega
  have hbg : b0 ≠ g := by omega
  clear hD hR hlt hpc hcc0 tl hok hr
  go_enter Tryz.func89, Tryz.ntmps89
  go_wp2_with fail
  refine HE.out.mono ?_
  rintro e w1 ⟨⟨b, rfl, hend⟩, rfl⟩
  obtain rfl := hEnd.out b hend
  have hne : ¬ w1.heap.size = g := by omega
  have hne2 : ¬ g = w1.heap.size := by omega
  clear hend hEnd HE
  go_wp2_with (at_make; refine wpList_make_full _ rfl _ _ 203 rfl w1.heap.size 4 i1 (.bool false) 1 Tryz.underlying203 hi1 x0 x1 .i64 .i64 _ _ code.length rfl rfl (by omega) (by omega) (by rw [x2]; omega) (by unfold maxLen; omega) (Nat.le_refl _) ?_; intro w9 ho9 hg9; rw [made_bools] at ho9; have hb9 := below_of_none hg9; have hD9 := own_below H.out hb9; have hcA := own_int hD9 hAn; have hfA := hD9.frozenAt A; have tcA := own_tcell ho9 A hAn; have tfA := ho9.frozenAt A; have hs9 := (ho9.lt _ rfl).2; have HO9 := Lib.hid ho9; have HD9 := Lib.hid hD9; have HB9 := Lib.hid hb9; clear ho9 hg9 hb9 hD9)
  have f1 := (HD9.out.stored A (.int .i64 0)).1
  rw [encZ_set] at f1
  have F1 := Lib.hid (ownsRow_setCell_other f1 (a := ⟨w1.heap.size, A, none⟩) (fun e => by simp [Value.ownBlock] at e; omega) (.bool true))
  have f2 := ((ownsRow_setCell_other HO9.out (a := ⟨g, A, none⟩) (fun e => by simp [Value.ownBlock] at e; omega) (.int .i64 0)).stored A (.bool true)).1
  rw [encT_set] at f2
  have F2 := Lib.hid f2
  have F3 := Lib.hid (gb_set (gb_set (below_grownBy HB9.out (some g)) (.inr rfl) (.int .i64 0) (t := A)) (.inl (Nat.le_refl _)) (.bool true) (t := A))
  clear f1 f2 hcA hfA tcA tfA HO9 HD9
  have hD0 : Deps (D.set A 0) := hDb.set A (by decide) (by decide)
  have hn0 : neg (D.set A 0) ≤ code.length := by
    have := neg_le (D.set A 0); rw [List.length_set, hDl] at this; exact this
  have hd0 : 0 ≤ (D.set A 0).getD A (-1) := by rw [getD_setZ, if_pos ⟨rfl, by omega⟩]; decide
  have hW0 := waits_start hAn
  have hL0 : ((List.replicate code.length false).set A true).length = code.length := by simp
  generalize (w9.setCell ⟨g, A, none⟩ (.int .i64 0)).setCell ⟨w1.heap.size, A, none⟩ (.bool true) = W1 at *
  generalize D.set A 0 = D0 at *
  generalize (List.replicate code.length false).set A true = L0 at *
  clear hDb
  go_wp2_with fail
  go_loopw [13, 14] (fun xm xi wr => ∃ (f : Nat) (m : Int) (Dm : List Int) (l : List Nat) (L : List Bool) (x : Nat), xm = .int .i64 m ∧ xi = .int .i64 x ∧ wr.ownsRow w0.heap.size 3 1 (.slice (some ⟨g, 0, none⟩) code.length c) code.length (encZ Dm) ∧
    wr.ownsRow w1.heap.size 4 1 (.slice (some ⟨w1.heap.size, 0, none⟩) code.length code.length) code.length (encT L) ∧ w1.grownBy wr (some g) ∧ Waits L l ∧ L.length = code.length ∧ Deps Dm ∧ (∀ i ∈ l, x ≤ i ∧ A ≤ i ∧ i < b ∧ 0 ≤ Dm.getD i (-1)) ∧ A ≤ x ∧ x ≤ b ∧
    l.length + neg Dm ≤ f ∧ f ≤ code.length + 1 ∧ walkN code js f Dm l m = R) (fun _ xi w' => muslB w' w1.heap.size g code.length * (code.length + 2) + (code.length - (intOf xi).toNat))
  case atStart => exact ⟨code.length + 1, 0, D0, [A], L0, A, rfl, rfl, F1.out, F2.out, F3.out, hW0, hL0, hD0, fun i hi => by rw [List.mem_singleton.1 hi]; exact ⟨Nat.le_refl _, Nat.le_refl _, hAE, hd0⟩, Nat.le_refl _, Nat.le_of_lt hAE, by simp; omega, Nat.le_refl _, HR.out.symm⟩
  case round =>
    obtain ⟨f, m, Dm, l, L, x, rfl, rfl, hown, howt, hgr, hwt, hLl, hdep, hin, hAx, hxE, hf1, hf2, hw⟩ := hrel
    have HOWN := Lib.hid hown
    have HOWT := Lib.hid howt
    have HGR := Lib.hid hgr
    have HW := Lib.hid hw
    have HWT := Lib.hid hwt
    have HIN := Lib.hid hin
    have HLl := Lib.hid hLl
    have hql := (howt.lt _ rfl).2
    have hgw : g < wr.heap.size := (hown.lt _ rfl).2
    by_cases hlt : x < b
    · have hxn : x < code.length := by omega
      have hxi : (x : Int) < (code.length : Int) := by omega
      have hx0 : (0 : Int) ≤ (x : Int) := by omega
      have hxb : (x : Int) < (b : Int) := by omega
      have tx := own_tcell howt x hxn
      have tfx := howt.frozenAt x
      cases hLx : L.getD x false
      · rw [hLx] at tx
        have HLx := Lib.hid hLx
        clear hLx hown howt hgr hw hwt hin hLl
        go_wp2_with fail
        go_roundw
        case rel => exact ⟨f, m, Dm, l, L, x + 1, rfl, by go_num, HOWN.out, HOWT.out, HGR.out, HWT.out, HLl.out, hdep, fun i hi => by
            obtain ⟨h1, h2, h3, h4⟩ := HIN.out i hi
            refine ⟨?_, h2, h3, h4⟩
            by_cases e : i = x
            · have := HWT.out.2 x
              rw [HLx.out, decide_eq_true (by rw [← e]; exact hi)] at this
              cases this
            · omega, by omega, by omega, hf1, hf2, HW.out⟩
        case measure => simp [intOf]; omega
      · rw [hLx] at tx
        have hxm : x ∈ l := by
          have := hwt.2 x
          rw [hLx] at this
          exact of_decide_eq_true this.symm
        have hne0 : l ≠ [] := List.ne_nil_of_mem hxm
        have hl1 : 0 < l.length := List.length_pos_of_mem hxm
        obtain ⟨f, rfl⟩ : ∃ f', f = f' + 1 := ⟨f - 1, by omega⟩
        have hmin : minN l = x := minN_unique hxm (fun y hy => (hin y hy).1)
        have hwx := hw
        unfold walkN at hwx
        rw [if_neg hne0, hmin] at hwx
        obtain ⟨d, hd⟩ : ∃ d, d = Dm.getD x (-1) := ⟨_, rfl⟩
        have hdx := hdep x
        have hd00 := (hin x hxm).2.2.2
        rw [← hd] at hdx hwx hd00
        have HWX := Lib.hid hwx
        have HD := Lib.hid hd
        have HXM := Lib.hid hxm
        have hcc := Hcc.out x hxn
        have HBr := Lib.hid (HB.out.trans (grown_belowB HGR.out (by have := HB.out.size; omega) hgb))
        have hbr0 : b0 < wr.heap.size := by have := HBr.out.size; omega
        have hbq : ¬ b0 = w1.heap.size := by omega
        have hbq2 : ¬ w1.heap.size = b0 := by omega
        have hc0 := (HBr.out.cell (p := ⟨b0, off + x * 2, none⟩) hbl0).trans hcc.1
        have ho8 := (HLT.out x).1
        have hst := (HOWT.out.stored x (.bool false)).1
        rw [encT_set] at hst
        have HT2 := Lib.hid hst
        have HD2 := Lib.hid (ownsRow_setCell_other HOWN.out (a := ⟨w1.heap.size, x, none⟩) (fun e => by simp [Value.ownBlock] at e; omega) (.bool false))
        have HG2 := Lib.hid (gb_set (t := x) HGR.out (.inl (Nat.le_refl _)) (.bool false))
        obtain ⟨W2, hW2⟩ : ∃ W2, W2 = wr.setCell ⟨w1.heap.size, x, none⟩ (.bool false) := ⟨_, rfl⟩
        have hs2 : W2.heap.size = wr.heap.size := by rw [hW2]; simp [World.setCell]
        rw [← hW2] at HT2 HD2 HG2
        have HB2 := Lib.hid (HB.out.trans (grown_belowB HG2.out (by have := HB.out.size; omega) hgb))
        have HWT2 := Lib.hid (HWT.out.take hxm (by rw [HLl.out]; exact hxn))
        have htr := trues_set_false hLx
        have HTR := Lib.hid htr
        have hopx : (code.getD x (0, 0)).1 = opAt code x := rfl
        rw [hopx] at hc0 ho8
        have HI := Lib.hid (refinfo_any (opAt code x) ho8 W2)
        unfold rowVal rowCells at HI
        have htg := takes_le (opAt code x)
        unfold depFault at HWX
        have hK8 : kindOf (opAt code x) ≤ 8 := kind_lt _
        generalize kindOf (opAt code x) = K at *
        generalize opAt code x = o at *
        generalize wordOf o = wd at *
        generalize widthOf o = wi at *
        generalize mostOf o = mo at *
        generalize takesOf o = ta at *
        generalize givesOf o = gi at *
        generalize isOp o = io at *
        clear hLx hown howt hgr hw hwt hin hLl hwx hd hxm hcc hst htr hmin hopx
        go_wp2_with fail
        rw [← hW2]
        clear hW2
        refine HI.out.mono ?_
        rintro e w3 ⟨rfl, hb3⟩
        have hs3 := hb3.size
        have HO3 := Lib.hid (own_below HD2.out hb3)
        have HT3 := Lib.hid (own_below HT2.out hb3)
        have HG3 := Lib.hid (HG2.out.trans (below_grownBy hb3 (some g)))
        have HB3 := Lib.hid (HB2.out.trans (hb3.mono HB2.out.size))
        have hcx : w3.cell? ⟨g, x, none⟩ = some (.int .i64 d) := by rw [HD.out]; exact own_int HO3.out hxn
        have hg3 : g < w3.heap.size := by omega
        have hq3 : w1.heap.size < w3.heap.size := by omega
        obtain ⟨W4, hW4⟩ : ∃ W4, W4 = w3.alloc (.cells #[.string ⟨wd.toArray⟩, .int .i64 wi, .int .u32 mo, .int .i64 ta, .int .i64 gi, .int .u8 K] 189) := ⟨_, rfl⟩
        obtain ⟨y3, y4, y5⟩ := sixN w3 (.string ⟨wd.toArray⟩) (.int .i64 wi) (.int .u32 mo) (.int .i64 ta) (.int .i64 gi) (.int .u8 K) 189
        have hB4 : Below w3.heap.size w3 W4 := by rw [hW4]; exact Bel.new _ _
        have HO4 := Lib.hid (own_below HO3.out hB4)
        have HT4 := Lib.hid (own_below HT3.out hB4)
        have HG4 := Lib.hid (HG3.out.trans (below_grownBy hB4 (some g)))
        have HB4 := Lib.hid (HB3.out.trans (hB4.mono HB3.out.size))
        have hs4 : w3.heap.size < W4.heap.size := by rw [hW4]; simp
        rw [hW4] at HO4 HT4 HG4 HB4
        clear hb3 hB4 HI
        by_cases c1 : d < (ta : Int)
        · have hRe : R = (Dm, 0, x, 140) := by rw [← HWX.out, if_pos c1]; rfl
          have HRE := Lib.hid hRe
          clear hRe hW4
          go_wp2_with fail
          go_ret3
          rw [HRE.out]
          exact ⟨Dm, rfl, HO4.out, hdep, HG4.out, fun h => absurd h (by simp)⟩
        by_cases c2 : (64 : Int) < d - ta + gi
        · have hRe : R = (Dm, 0, x, 141) := by rw [← HWX.out, if_neg c1, if_pos c2]; rfl
          have HRE := Lib.hid hRe
          clear hRe hW4
          go_wp2_with fail
          go_ret3
          rw [HRE.out]
          exact ⟨Dm, rfl, HO4.out, hdep, HG4.out, fun h => absurd h (by simp)⟩
        by_cases c3 : K = 7 ∧ d ≠ 1
        · have hRe : R = (Dm, 0, x, 143) := by rw [← HWX.out, if_neg c1, if_neg c2, if_pos c3]; rfl
          have HRE := Lib.hid hRe
          obtain ⟨rfl, hd1⟩ := c3
          clear hRe hW4
          go_wp2_with fail
          go_ret3
          rw [HRE.out]
          exact ⟨Dm, rfl, HO4.out, hdep, HG4.out, fun h => absurd h (by simp)⟩
        obtain ⟨nn, hnn⟩ : ∃ nn : Int, nn = d - ta + gi := ⟨_, rfl⟩
        obtain ⟨Lx, hLx⟩ : ∃ Lx, Lx = nextN code js x := ⟨_, rfl⟩
        have hwl := HWX.out
        rw [if_neg c1, if_neg c2, if_neg c3, if_neg (by decide), ← hnn, ← hLx] at hwl
        have HN := Lib.hid (refnext_any _ _ code js HOk.out hcl x hxn _ (HC.out.below HB4.out) (HJ.out.calm HB4.out HB4.out.size))
        unfold NxPost at HN
        rw [← hLx] at HN
        have hLt : ∀ t ∈ Lx, A ≤ t ∧ t < b := fun t ht => hRe.out x hAx hlt t (by rw [← hLx]; exact ht)
        have hLlen : Lx.length ≤ 16384 := by rw [hLx]; exact next_len HOk.out x
        obtain ⟨MM, hMM⟩ : ∃ MM, MM = markN nn Lx Dm (l.erase x) := ⟨_, rfl⟩
        rw [← hMM] at hwl
        have HMM := Lib.hid hMM
        clear hMM
        have HWL := Lib.hid hwl
        have HNN := Lib.hid hnn
        have hnb : 0 ≤ nn ∧ nn ≤ 64 := by omega
        have hc3 : (K ≠ 7 ∧ ((K : Int) == 7) = false ∧ ¬ (K : Int) = 7) ∨ (K = 7 ∧ d = 1) := by
          by_cases h7 : K = 7
          · exact .inr ⟨h7, by omega⟩
          · exact .inl ⟨h7, by simp; omega, by omega⟩
        clear hwl hLx c3
        rcases hc3 with ⟨hK, hK2, hK3⟩ | ⟨rfl, rfl⟩
        all_goals
          clear hW4
          go_wp2_with fail
          refine HN.out.mono ?_
          rintro e w7 ⟨vL, rfl, hoL, hb7⟩
          obtain ⟨va, vc', rfl, -, -, hvs⟩ := own_sl hoL
          have HOL := Lib.hid hoL
          have HO7 := Lib.hid (own_below HO4.out hb7)
          have HT7 := Lib.hid (own_below HT4.out hb7)
          have HG7 := Lib.hid (HG4.out.trans (below_grownBy hb7 (some g)))
          have HVS := Lib.hid hvs
          clear hoL hb7 hvs y3 y4 y5
          go_wp2_with fail
          go_loopw [20] (fun xi w8 => ∃ (k : Nat) (D1 : List Int) (Q : List Nat) (L1 : List Bool), xi = .int .i64 k ∧ k ≤ Lx.length ∧ w8.ownsRow w0.heap.size 3 1 (.slice (some ⟨g, 0, none⟩) code.length c) code.length (encZ D1) ∧
            w8.ownsRow w1.heap.size 4 1 (.slice (some ⟨w1.heap.size, 0, none⟩) code.length code.length) code.length (encT L1) ∧ w1.grownBy w8 (some g) ∧ Waits L1 Q ∧ L1.length = code.length ∧ Deps D1 ∧ (∀ i ∈ Q, A ≤ i ∧ i < b ∧ 0 ≤ D1.getD i (-1)) ∧
            Q.length + neg D1 + 1 = l.length + neg Dm ∧ trues L1 + neg D1 + 1 ≤ trues L + neg Dm ∧ markN nn (Lx.drop k) D1 Q = MM ∧
            (∀ lq, va = some ⟨lq, 0, none⟩ → 0 < Lx.length → lq < w8.heap.size ∧ lq ≠ g ∧ lq ≠ w1.heap.size ∧ ∀ j, j < (encN .u32 Lx).length → w8.cell? ⟨lq, j, none⟩ = (encN .u32 Lx)[j]?)) (fun xi _ => Lx.length - (intOf xi).toNat)
          case atStart => exact ⟨0, Dm, l.erase x, L.set x false, rfl, Nat.zero_le _, HO7.out, HT7.out, HG7.out, HWT2.out, by rw [List.length_set]; exact HLl.out, hdep, fun i hi => (HIN.out i (List.mem_of_mem_erase hi)).2, by
              rw [List.length_erase_of_mem HXM.out]; omega, by have := HTR.out; omega, by rw [List.drop_zero]; exact HMM.out.symm, fun lq e hL0 => by
              obtain ⟨lq', e', h1, h2⟩ := HVS.out hL0
              rw [e] at e'
              cases e'
              have h3 := (HOL.out.lt lq (by rw [e]; rfl)).1
              have h4 : w3.heap.size < lq := by simp at h3; omega
              exact ⟨h1, by omega, by omega, h2⟩⟩
          case round =>
            obtain ⟨k, D1, Q, L1, rfl, hk, ho8, ht8, hg8, hw8, hl8, hd8, hi8, hm8, hm9, hmk, hlc⟩ := hrel
            have HO8 := Lib.hid ho8
            have HT8 := Lib.hid ht8
            have HG8 := Lib.hid hg8
            have HW8 := Lib.hid hw8
            have HI8 := Lib.hid hi8
            have HL8 := Lib.hid hl8
            have HLC := Lib.hid hlc
            have HMK := Lib.hid hmk
            by_cases hkl : k < Lx.length
            · obtain ⟨t, ht⟩ : ∃ t, t = Lx.getD k 0 := ⟨_, rfl⟩
              have htm : t ∈ Lx := by
                have e : Lx.getD k 0 = Lx[k] := by rw [List.getD_eq_getElem?_getD, List.getElem?_eq_getElem hkl]; rfl
                rw [ht, e]; exact List.getElem_mem _
              have htc := hLt t htm
              have htn : t < code.length := by omega
              have hdr : Lx.drop k = t :: Lx.drop (k + 1) := by
                rw [List.drop_eq_getElem_cons hkl, ht, List.getD_eq_getElem?_getD, List.getElem?_eq_getElem hkl]; rfl
              rw [hdr] at hmk
              unfold markN at hmk
              obtain ⟨lq, hva, -⟩ := HVS.out (by omega)
              subst hva
              have hlq := HLC.out lq rfl (by omega)
              have hct : wr.cell? ⟨lq, k, none⟩ = some (.int .u32 t) := by
                rw [hlq.2.2.2 k (by rw [encN_length]; exact hkl), ht]; exact encN_at .u32 Lx k hkl
              have hcy := own_int ho8 htn
              have hfy := ho8.frozenAt t
              have hcw := own_tcell ht8 t htn
              have hfw := ht8.frozenAt t
              obtain ⟨y, hy⟩ : ∃ y, y = D1.getD t (-1) := ⟨_, rfl⟩
              rw [← hy] at hcy hmk
              have hyb := hd8 t
              rw [← hy] at hyb
              have HY := Lib.hid hy
              have hkk : (k : Int) < (Lx.length : Int) := by omega
              have hk0 : (0 : Int) ≤ (k : Int) := by omega
              have htt : (t : Int) < (code.length : Int) := by omega
              have ht0 : (0 : Int) ≤ (t : Int) := by omega
              clear ho8 ht8 hg8 hw8 hi8 hl8 hlc hy ht hdr htm hlq
              by_cases ha1 : 0 ≤ y ∧ y ≠ nn
              · rw [if_pos ha1] at hmk
                have hRe : R = (Dm, 0, x, 142) := by rw [← HWL.out, ← hmk]
                have HRE := Lib.hid hRe
                have hyn := ha1.2
                rw [HNN.out] at hyn
                have hy0 := ha1.1
                clear hRe hmk
                go_wp2_with fail
                go_ret3
                rw [HRE.out]
                exact ⟨D1, rfl, HO8.out, hd8, HG8.out, fun h => absurd h (by simp)⟩
              · rw [if_neg ha1] at hmk
                by_cases hy0 : y < 0
                · rw [if_pos hy0] at hmk
                  have HMK2 := Lib.hid hmk
                  have hyn : ¬ 0 ≤ y := by omega
                  have hs9 := (HO8.out.stored t (.int .i64 nn)).1
                  rw [encZ_set] at hs9
                  have HS9 := Lib.hid (ownsRow_setCell_other hs9 (a := ⟨w1.heap.size, t, none⟩) (fun e => by simp [Value.ownBlock] at e; omega) (.bool true))
                  have ht9 := ((ownsRow_setCell_other HT8.out (a := ⟨g, t, none⟩) (fun e => by simp [Value.ownBlock] at e; omega) (.int .i64 nn)).stored t (.bool true)).1
                  rw [encT_set] at ht9
                  have HT9 := Lib.hid ht9
                  have HG9 := Lib.hid (gb_set (t := t) (gb_set (t := t) HG8.out (.inr rfl) (.int .i64 nn)) (.inl (Nat.le_refl _)) (.bool true))
                  have HC9 := Lib.hid (fun (j : Nat) => (show ((wr.setCell ⟨g, t, none⟩ (.int .i64 nn)).setCell ⟨w1.heap.size, t, none⟩ (.bool true)).cell? ⟨lq, j, none⟩ = wr.cell? ⟨lq, j, none⟩ from by
                    obtain ⟨-, h2, h3, -⟩ := HLC.out lq rfl (by omega)
                    rw [World.cell?_setCell_other _ _ _ _ (by first | (simp; done) | (simp; omega)), World.cell?_setCell_other _ _ _ _ (by first | (simp; done) | (simp; omega))]))
                  have HY0 := Lib.hid hy0
                  rw [HNN.out] at HS9 HT9 HG9 HC9
                  clear hmk hs9 ht9
                  go_wp2_with fail
                  go_roundw
                  case rel =>
                    have hns := neg_set (D := D1) (t := t) (x := nn) (by rw [own_ilen HO8.out]; exact htn) (by rw [← HY.out]; exact HY0.out) hnb.1
                    have htr := trues_set_true L1 t
                    have htq : t ∉ Q := fun h => by have := (HI8.out t h).2.2; rw [← HY.out] at this; have := HY0.out; omega
                    refine ⟨k + 1, D1.set t nn, t :: Q, L1.set t true, by go_num, by omega, by rw [HNN.out]; exact HS9.out, HT9.out, HG9.out, HW8.out.put htq (by rw [HL8.out]; exact htn), by rw [List.length_set]; exact HL8.out, hd8.set t (by omega) hnb.2, fun i hi => ?_, by rw [List.length_cons]; omega, by omega, HMK2.out, fun lq' e h0 => ?_⟩
                    · rw [getD_setZ]
                      rcases List.mem_cons.1 hi with rfl | hi
                      · exact ⟨htc.1, htc.2, by rw [if_pos ⟨rfl, by rw [own_ilen HO8.out]; exact htn⟩]; exact hnb.1⟩
                      · obtain ⟨h1, h2, h3⟩ := HI8.out i hi
                        refine ⟨h1, h2, ?_⟩
                        split
                        · exact hnb.1
                        · exact h3
                    · cases e
                      obtain ⟨h1, h2, h3, h4⟩ := HLC.out lq rfl h0
                      exact ⟨by simpa [World.size_setCell] using h1, h2, h3, fun j hj => (HC9.out j).trans (h4 j hj)⟩
                  case measure => simp [intOf]; omega
                · rw [if_neg hy0] at hmk
                  have HMK2 := Lib.hid hmk
                  have hyn : y = nn := by omega
                  rw [HNN.out] at hyn
                  have hy1 : 0 ≤ y := by omega
                  clear hmk
                  go_wp2_with fail
                  go_roundw
                  case rel => exact ⟨k + 1, D1, Q, L1, by go_num, by omega, HO8.out, HT8.out, HG8.out, HW8.out, HL8.out, hd8, HI8.out, hm8, hm9, HMK2.out, HLC.out⟩
                  case measure => simp [intOf]; omega
            · obtain rfl : k = Lx.length := by omega
              clear ho8 ht8 hg8 hw8 hi8 hl8 hlc hmk
              go_wp2_with fail
              go_roundw
              case rel =>
                refine ⟨f, _, D1, Q, L1, A, rfl, rfl, HO8.out, HT8.out, HG8.out, HW8.out, HL8.out, hd8, fun i hi => ⟨(HI8.out i hi).1, HI8.out i hi⟩, Nat.le_refl _, Nat.le_of_lt hAE, by omega, by omega, ?_⟩
                have h1 := HMK.out
                rw [List.drop_of_length_le (Nat.le_refl _)] at h1
                have h2 := HWL.out
                rw [← h1, HNN.out] at h2
                exact h2
              case measure =>
                rw [muslB_at HT8.out HO8.out, muslB_at HOWT.out HOWN.out]
                have h9 := Nat.mul_le_mul_right (code.length + 2) hm9
                rw [Nat.add_mul] at h9
                simp only [intOf]
                omega
    · have hle : l = [] := by
        cases l with
        | nil => rfl
        | cons i l => have := hin i (List.mem_cons_self ..); omega
      subst hle
      have hRm : R = (Dm, m, 0, 0) := by
        rw [← HW.out]; cases f <;> simp [walkN]
      have HRM := Lib.hid hRm
      have hxb : ¬ (x : Int) < (b : Int) := by omega
      clear hown howt hgr hw hRm hwt hin hLl
      go_wp2_with fail
      go_ret3
      rw [HRM.out]
      exact ⟨Dm, rfl, HOWN.out, hdep, HGR.out, fun _ => rfl⟩
end Go.Proofs.YtflpbgdghaaiaaaGreat
namespace Go.Proofs.YtflpbgdghaaiaaaGreat
open Go.RowKit
set_option linter.unusedVariables false
theorem inf3 : (Tryz.prog.info? 3).map (fun i => (i.zero, i.size, i.bytes)) = some (some (.int .i64 0), 1, 8) := by kernel_rfl
theorem bs227_1 (x : Int) (w : World) : (Instr.buildSlice 90 1 #[(0, .int .i64 x)]).run Tryz.prog w = .ok (.slice (some ⟨w.heap.size, 0, none⟩) 1 1) (w.alloc (.cells #[.int .i64 x] 3)) := by kernel_rfl
theorem made_ints (n : Nat) : (madeCells (Value.int .i64 0).cells (n * 1)).toList = encZ (List.replicate n 0) := by
  rw [Nat.mul_one, encZ, List.map_replicate]
  exact toList_madeCells_one (.int .i64 0) n
def upTo (n k : Nat) : List Int := List.replicate k (-1) ++ List.replicate (n - k) 0
theorem upTo_set {n k : Nat} (h : k < n) : (upTo n k).set k (-1) = upTo n (k + 1) := by
  unfold upTo
  rw [List.set_append_right _ _ (by simp), List.length_replicate, Nat.sub_self, show n - k = (n - (k + 1)) + 1 from by omega, List.replicate_succ, List.set_cons_zero,
    List.replicate_succ' (n := k), List.append_assoc]
  rfl
def RdPost (R : List Int × List Int × Nat × Nat) (w : World) (e : Ending) (w' : World) : Prop :=
  Below w.heap.size w w' ∧ ((R.2.2.2 ≠ 0 ∧ e = .returned (.tuple #[.slice none 0 0, .slice none 0 0, .int .i64 R.2.2.1, .int .i64 R.2.2.2])) ∨
    (R.2.2.2 = 0 ∧ ∃ vd vm, e = .returned (.tuple #[vd, vm, .int .i64 0, .int .i64 0]) ∧ w'.ownsRow w.heap.size 3 1 vd R.1.length (encZ R.1) ∧ w'.ownsRow w.heap.size 3 1 vm R.2.1.length (encZ R.2.1) ∧ (∀ q, vd.ownBlock = some q → vm.ownBlock ≠ some q)))
set_option maxRecDepth 100000 in
set_option maxHeartbeats 8000000 in
theorem refdepths_any {w : World} {vc vj : Value} {code : List (Nat × Nat)} {js : List Nat} (hc : Instrs w vc code) (hj : RowU w w.heap.size vj js) (hok : FindOk code js []) :
    Calls Tryz.prog 45 #[vc, vj] w (RdPost (flowN code js) w) := by
  have hcl := encRes_short hok.he
  have h3 := hok.h3
  have hbd := hok.tl.bd
  have hPl := psTo_le code code.length
  obtain ⟨R, hR⟩ : ∃ R, R = flowN code js := ⟨_, rfl⟩
  rw [← hR]
  unfold flowN at hR
  have HF := Lib.hid (reffind_any vc vj (.slice none 0 0) code js [] hc hj (namesU_nil _ _))
  have HW := Lib.hid (fun (W : World) (g c : Nat) (D : List Int) (hb : Below w.heap.size w W) (hD : W.ownsRow w.heap.size 3 1 (.slice (some ⟨g, 0, none⟩) code.length c) code.length (encZ D)) (hDb : Deps D) (r : Nat) (hr : r < (psTo code code.length).length) => refwalk_any hc hj hb hok hD hDb r hr)
  have HP := Lib.hid (fun (W : World) (hb : Below w.heap.size w W) => refprocs_any vc code hcl h3 W (hc.below hb))
  have Hbad := Lib.hid (fun (i c : Nat) (h : FindBad code js [] i c) => hok.not_bad h)
  obtain ⟨ac, cc, rfl, -⟩ := hc.opened
  obtain ⟨i1, hi1, x0, x1, x2⟩ := info_parts inf3
  have hbs := bs227_1
  generalize psTo code code.length = P at *
  have HR := Lib.hid hR
  clear hc hj hok h3 hR
  go_enter Tryz.func45, Tryz.ntmps45
  go_wp2_with fail
  refine HF.out.mono ?_
  rintro e w1 ⟨hb1, ⟨i, c, rfl, hbad⟩ | ⟨rfl, -⟩⟩
  · exact (Hbad.out i c hbad).elim
  have HB1 := Lib.hid hb1
  have hs1 := hb1.size
  clear hb1 HF Hbad
  go_wp2_with (at_make; refine wpList_make_full _ rfl _ _ 90 rfl w1.heap.size 3 i1 (.int .i64 0) 1 Tryz.underlying90 hi1 x0 x1 .i64 .i64 _ _ code.length rfl rfl (by omega) (by omega) (by rw [x2]; omega) (by unfold maxLen; omega) (Nat.le_refl _) ?_; intro w9 ho9 hg9; rw [made_ints] at ho9; have hb9 := below_of_none hg9; have HO9 := Lib.hid (own_from (own_base ho9) (B := w.heap.size) (fun q e => Nat.le_trans hs1 (ho9.lt q e).1)); have HB9 := Lib.hid (Bel.tr HB1.out hb9); have hs9 := (ho9.lt _ rfl).2; clear ho9 hg9 hb9)
  go_wp2_with fail
  go_loopw [11] (fun xi wr => ∃ k : Nat, xi = .int .i64 k ∧ k ≤ code.length ∧ wr.ownsRow w.heap.size 3 1 (.slice (some ⟨w1.heap.size, 0, none⟩) code.length code.length) code.length (encZ (upTo code.length k)) ∧ Below w.heap.size w wr ∧ w1.heap.size < wr.heap.size) (fun xi _ => code.length - (intOf xi).toNat)
  case atStart => exact ⟨0, rfl, Nat.zero_le _, HO9.out, HB9.out, hs9⟩
  case round =>
    obtain ⟨k, rfl, hk, ho, hb, hsz⟩ := hrel
    have HB := Lib.hid hb
    by_cases hkl : k < code.length
    · have hki : (k : Int) < (code.length : Int) := by omega
      have hk0 : (0 : Int) ≤ (k : Int) := by omega
      have hck := own_int ho hkl
      have hfk := ho.frozenAt k
      have hst := (ho.stored k (.int .i64 (-1))).1
      rw [encZ_set, upTo_set hkl] at hst
      have HS := Lib.hid hst
      have HBS := Lib.hid (hb.setCell (p := ⟨w1.heap.size, k, none⟩) hs1 (.int .i64 (-1)))
      clear ho hb hst
      go_wp2_with fail
      go_roundw
      case rel => exact ⟨k + 1, by go_num, by omega, HS.out, HBS.out, by rw [World.size_setCell]; exact hsz⟩
      case measure => simp [intOf]; omega
    · obtain rfl : k = code.length := by omega
      have HOn := Lib.hid (show wr.ownsRow w.heap.size 3 1 (.slice (some ⟨w1.heap.size, 0, none⟩) code.length code.length) code.length (encZ (List.replicate code.length (-1))) from by
        have h := ho
        unfold upTo at h
        rw [Nat.sub_self, List.replicate_zero, List.append_nil] at h
        exact h)
      have HP1 := Lib.hid (HP.out wr hb)
      clear ho hb HP
      go_wp2_with fail
      refine HP1.out.mono ?_
      rintro e w3 ⟨vp, rfl, hop, hb3⟩
      obtain ⟨ap, cp, rfl, -⟩ := own_sl hop
      have HOP := Lib.hid hop
      have HO3 := Lib.hid (own_below HOn.out hb3)
      have HB3 := Lib.hid (HB.out.trans (hb3.mono HB.out.size))
      have hs3 := hb3.size
      clear hop hb3 HP1 HOn
      go_wp2_with fail
      go_loopw [13, 14] (fun vs xi w4 => ∃ (k : Nat) (D ms : List Int) (vm : Value), vm = vs ∧ xi = .int .i64 k ∧ k ≤ P.length ∧ ms.length = k ∧ w4.ownsRow w.heap.size 3 1 (.slice (some ⟨w1.heap.size, 0, none⟩) code.length code.length) code.length (encZ D) ∧ w4.ownsRow w.heap.size 3 1 vm k (encZ ms) ∧
        (∀ q, vm.ownBlock = some q → w3.heap.size ≤ q) ∧ Deps D ∧ Below w.heap.size w w4 ∧ w3.heap.size ≤ w4.heap.size ∧ w4.ownsRow wr.heap.size 71 4 (.slice ap P.length cp) P.length (encP P) ∧ depthsN code js ((P.map (·.1)).drop k) D ms = R) (fun _ xi _ => P.length - (intOf xi).toNat)
      case atStart => exact ⟨0, List.replicate code.length (-1), [], .slice none 0 0, rfl, rfl, Nat.zero_le _, rfl, HO3.out, World.ownsRow_nil _ _ _ _, fun q e => by (cases e), deps_none _, HB3.out, Nat.le_refl _, HOP.out, by rw [List.drop_zero]; exact HR.out.symm⟩
      case round =>
        obtain ⟨k2, D, ms, vm, rfl, rfl, hk2, hml, ho4, hm4, hq4, hd4, hb4, hs4, hp4, hdp⟩ := hrel
        have HO4 := Lib.hid ho4
        have HM4 := Lib.hid hm4
        have HQ4 := Lib.hid hq4
        have HB4 := Lib.hid hb4
        have HP4 := Lib.hid hp4
        have HML := Lib.hid hml
        by_cases hkl : k2 < P.length
        · obtain ⟨ap', cp', he, -, -, hh⟩ := own_sl hp4
          cases he
          obtain ⟨pq, rfl, hpl, hpc⟩ := hh (by omega)
          have hpw := (hp4.lt pq rfl).1
          have hpx := (HOP.out.lt pq rfl).2
          have hcell := (hpc (k2 * 4) (by rw [hp4.1]; omega)).trans (encP_at P k2 hkl).1
          have hbk := hbd k2 hkl
          have hwk := HW.out wr w1.heap.size code.length D hb4 ho4 hd4 k2 hkl
          have hdr : (P.map (·.1)).drop k2 = (P.getD k2 (0, 0, 0)).1 :: (P.map (·.1)).drop (k2 + 1) := by
            rw [List.drop_eq_getElem_cons (by simpa using hkl)]
            congr 1
            rw [List.getElem_map, List.getD_eq_getElem?_getD, List.getElem?_eq_getElem hkl]
            rfl
          rw [hdr, depthsN] at hdp
          have hA : (P.getD k2 (0, 0, 0)).1 < code.length := by omega
          clear hdr hbk hh hpc
          generalize (P.getD k2 (0, 0, 0)).1 = A at *
          generalize walkN code js (code.length + 1) (D.set A 0) [A] 0 = V at *
          obtain ⟨VD, VM, VA, VE⟩ := V
          simp only at hdp
          have HWk := Lib.hid hwk
          have HDP := Lib.hid hdp
          have hki : (k2 : Int) < (P.length : Int) := by omega
          have hk0 : (0 : Int) ≤ (k2 : Int) := by omega
          clear hwk hdp ho4 hm4 hq4 hb4 hp4 hml
          go_wp2_with fail
          refine HWk.out.mono ?_
          rintro e w5 ⟨D', rfl, ho5, hd5, hg5, heq⟩
          have hs5 := hg5.size
          have HB5 := Lib.hid (HB4.out.trans (grown_belowB hg5 HB4.out.size hs1))
          have HM5 := Lib.hid (HM4.out.kept hg5 (by
            cases hv : vm.ownBlock with
            | none => exact .inl rfl
            | some q => exact .inr (fun e => by injection e with e; have := HQ4.out q hv; omega)))
          have HP5 := Lib.hid (HP4.out.kept hg5 (.inr (fun e => by simp only [Value.ownBlock, Option.some.injEq] at e; omega)))
          have HO5 := Lib.hid ho5
          have HEQ := Lib.hid heq
          clear ho5 hg5 heq HWk
          by_cases hve : VE = 0
          · subst hve
            have hdp := HDP.out
            rw [if_neg (by simp)] at hdp
            have HDQ := Lib.hid hdp
            have HM6 := Lib.hid (own_base HM5.out)
            clear hdp
            go_wp2_with ((with_reducible refine wpList_append1B (o := ⟨some 69, .call { callee := .builtin .append, args := #[.tmp 66, .tmp 68], argTypes := #[90, 90] }, _, _, _, none⟩) rfl _ _ 90 rfl 3 i1 (.int .i64 0) 1 8 Tryz.underlying90 hi1 x0 x1 x2 ?_ ?_ _ _ _ HM6.out _ _ w5.heap.size ?_ ?_ ?_ ?_ ?_ ?_ ?_ ?_); rfl; decide; rfl; rfl; rfl; rfl; (simp [Value.oneCell']); (unfold maxLen; omega); omega; intro g9 c9 w9 o9 r9 hl9)
            have H9 := Lib.hid o9
            have HR9 := Lib.hid r9
            clear o9 r9
            go_wp2_with fail
            go_roundw
            case rel =>
              have hr := HR9.out
              have hsz9 := hr.1.size
              refine ⟨k2 + 1, D', ms ++ [VM], _, rfl, by go_num, by omega, by rw [List.length_append, HML.out]; rfl, ?_, ?_, ?_, hd5, ?_, by omega, ?_, ?_⟩
              · exact own_grew HO5.out hr (fun q e h => by simp only [Value.ownBlock, Option.some.injEq] at e; have := HQ4.out q h; omega)
              · refine own_from (by simpa [encZ] using H9.out) (fun q e => ?_)
                rcases hr.2 q e with h | h
                · exact (HM5.out.lt q h).1
                · have := HB5.out.size; omega
              · intro q e
                rcases hr.2 q e with h | h
                · exact HQ4.out q h
                · omega
              · exact HB5.out.grown hr.1 HB5.out.size (fun q e => (HM5.out.lt q e).1)
              · exact own_grew HP5.out hr (fun q e h => by simp only [Value.ownBlock, Option.some.injEq] at e; have := HQ4.out q h; omega)
              · have h8 := HDQ.out
                have h9 : D' = VD := HEQ.out trivial
                rw [h9]; exact h8
            case measure => simp [intOf]; omega
          · have hRe : R = ([], [], VA, VE) := by rw [← HDP.out, if_pos hve]
            have HRe := Lib.hid hRe
            have hvi : ¬ (VE : Int) = 0 := by omega
            clear hRe
            go_wp2_with fail
            rw [HRe.out]
            exact bodyPost_ret (v := .tuple #[.slice none 0 0, .slice none 0 0, .int .i64 VA, .int .i64 VE]) (by simp [results, Tryz.results45, go_sem]) rfl ⟨HB5.out, .inl ⟨hve, rfl⟩⟩
        · obtain rfl : k2 = P.length := by omega
          have hRe : R = (D, ms, 0, 0) := by
            rw [← hdp, List.drop_of_length_le (by simp), depthsN]
          have HRe := Lib.hid hRe
          clear hRe hdp ho4 hm4 hb4 hp4 hml
          go_wp2_with fail
          rw [HRe.out]
          refine bodyPost_ret (v := .tuple #[.slice (some ⟨w1.heap.size, 0, none⟩) code.length code.length, vm, .int .i64 0, .int .i64 0]) (by simp [results, Tryz.results45, go_sem]) rfl ⟨HB4.out, .inr ⟨rfl, _, _, rfl, ?_, ?_, fun q e h => ?_⟩⟩
          · have h := HO4.out
            show World.ownsRow _ _ _ _ _ D.length (encZ D)
            rw [own_ilen h]; exact h
          · show World.ownsRow _ _ _ _ _ ms.length (encZ ms)
            rw [HML.out]; exact HM4.out
          · simp only [Value.ownBlock, Option.some.injEq] at e
            have := HQ4.out q h
            omega
def RtPost (m : Img) (w : World) (e : Ending) (w' : World) : Prop :=
  Below w.heap.size w w' ∧ ((∃ a c : Nat, e = .returned (.tuple #[.pointer none, .int .i64 a, .int .i64 c]) ∧ TakeBad m a c) ∨
    ∃ mb, e = .returned (.tuple #[.pointer (some ⟨mb, 0, none⟩), .int .i64 0, .int .i64 0]) ∧ TakeOk m)
theorem run_b308 (a1 a2 a3 a4 a5 a6 : Option Addr) (n1 c1 n2 c2 n3 c3 n4 c4 n5 c5 n6 c6 : Nat) (z s k : Int) (w : World) : (Instr.build 113 #[(0, .agg #[.slice a1 n1 c1, .slice a2 n2 c2, .slice a3 n3 c3, .int .u32 z, .int .u32 s, .slice a4 n4 c4]), (1, .int .i64 k), (2, .slice a5 n5 c5), (3, .slice a6 n6 c6)]).run Tryz.prog w = .ok (.agg #[.slice a1 n1 c1, .slice a2 n2 c2, .slice a3 n3 c3, .int .u32 z, .int .u32 s, .slice a4 n4 c4, .int .i64 k, .slice a5 n5 c5, .slice a6 n6 c6]) w := by kernel_rfl
theorem sized_of_check {m : Img} (hm : checkI m = 0) : m.Sized := by
  obtain ⟨hc1, hc2, hc3, hc4, hc5, hc6, hc7⟩ := checkI_ok hm
  unfold roomN at hc5
  exact ⟨by omega, by omega, by omega, by omega⟩
set_option maxRecDepth 100000 in
set_option maxHeartbeats 4000000 in
theorem reftake_any (vc vj vd vn : Value) (m : Img) (w : World) (h : ImgAt w vc vj vd vn m) :
    Calls Tryz.prog 19 #[.agg #[vc, vj, vd, .int .u32 m.zero, .int .u32 m.stack, vn]] w (RtPost m w) := by
  have H := Lib.hid h
  have hb0 := Bel.new w (.cells #[vc, vj, vd, .int .u32 m.zero, .int .u32 m.stack, vn] 28)
  have HC := Lib.hid (cells_new6 w vc vj vd (.int .u32 m.zero) (.int .u32 m.stack) vn 28)
  obtain ⟨W0, hW0⟩ : ∃ W0, W0 = w.alloc (.cells #[vc, vj, vd, .int .u32 m.zero, .int .u32 m.stack, vn] 28) := ⟨_, rfl⟩
  have HA0 := Lib.hid (show ImgAt W0 vc vj vd vn m from by rw [hW0]; exact h.below hb0)
  have HK := Lib.hid (refimg_any vc vj vd vn m W0 HA0.out)
  obtain ⟨ac, cc, rfl, -⟩ := h.c.1
  obtain ⟨aj, cj, rfl, -⟩ := h.j.1
  obtain ⟨ad, cd, rfl, -⟩ := h.d.1
  obtain ⟨an, cn, rfl, -⟩ := h.n.1
  have hs0 : w.heap.size < W0.heap.size := by rw [hW0]; simp
  have HB0 := Lib.hid (show Below w.heap.size w W0 from by rw [hW0]; exact hb0)
  clear h hb0
  go_enter Tryz.func19, Tryz.ntmps19
  go_wp2_with fail
  rw [← hW0]
  refine HK.out.mono ?_
  rintro e w1 ⟨rfl, hb1⟩
  have HB1 := Lib.hid (Bel.tr HB0.out hb1)
  by_cases hm : checkI m = 0
  · rw [hm]
    have hs1 : w.heap.size < w1.heap.size := Nat.lt_of_lt_of_le hs0 hb1.size
    have c0 : w1.cell? ⟨w.heap.size, 0, none⟩ = some (.slice ac m.code.length cc) := (hb1.cell (p := ⟨w.heap.size, 0, none⟩) hs0).trans (by rw [hW0]; exact HC.out.1)
    have c1 : w1.cell? ⟨w.heap.size, 1, none⟩ = some (.slice aj m.js.length cj) := (hb1.cell (p := ⟨w.heap.size, 1, none⟩) hs0).trans (by rw [hW0]; exact HC.out.2.1)
    have c2 : w1.cell? ⟨w.heap.size, 2, none⟩ = some (.slice ad m.data.length cd) := (hb1.cell (p := ⟨w.heap.size, 2, none⟩) hs0).trans (by rw [hW0]; exact HC.out.2.2.1)
    have c3 : w1.cell? ⟨w.heap.size, 3, none⟩ = some (.int .u32 m.zero) := (hb1.cell (p := ⟨w.heap.size, 3, none⟩) hs0).trans (by rw [hW0]; exact HC.out.2.2.2.1)
    have c4 : w1.cell? ⟨w.heap.size, 4, none⟩ = some (.int .u32 m.stack) := (hb1.cell (p := ⟨w.heap.size, 4, none⟩) hs0).trans (by rw [hW0]; exact HC.out.2.2.2.2.1)
    have c5 : w1.cell? ⟨w.heap.size, 5, none⟩ = some (.slice an m.lx.length cn) := (hb1.cell (p := ⟨w.heap.size, 5, none⟩) hs0).trans (by rw [hW0]; exact HC.out.2.2.2.2.2)
    have HA1 := Lib.hid (HA0.out.below hb1)
    have HF := Lib.hid (reffind_any _ _ _ m.code m.js (m.lx.map (·.2)) HA1.out.c HA1.out.j.rowu HA1.out.n.names)
    clear hW0 HC HK hb1 HA0
    go_wp2_with fail
    refine HF.out.mono ?_
    rintro e w2 ⟨hb2, ⟨i, c, rfl, hbad⟩ | ⟨rfl, hfo⟩⟩
    · have hcn : ((c : Nat) : Int) ≠ 0 := by have := findBad_pos hbad; omega
      have HB2 := Lib.hid (Bel.tr HB1.out hb2)
      clear hb2
      go_wp2_with fail
      go_ret3
      exact ⟨HB2.out, .inl ⟨i, c, rfl, .inr (.inl ⟨hm, hbad⟩)⟩⟩
    have s0 := (hb2.cell (p := ⟨w.heap.size, 0, none⟩) hs1).trans c0
    have s1 := (hb2.cell (p := ⟨w.heap.size, 1, none⟩) hs1).trans c1
    have s2 := (hb2.cell (p := ⟨w.heap.size, 2, none⟩) hs1).trans c2
    have s3 := (hb2.cell (p := ⟨w.heap.size, 3, none⟩) hs1).trans c3
    have s4 := (hb2.cell (p := ⟨w.heap.size, 4, none⟩) hs1).trans c4
    have s5 := (hb2.cell (p := ⟨w.heap.size, 5, none⟩) hs1).trans c5
    have hs2 : w.heap.size < w2.heap.size := Nat.lt_of_lt_of_le hs1 hb2.size
    have HA2 := Lib.hid (HA1.out.below hb2)
    have HB2 := Lib.hid (Bel.tr HB1.out hb2)
    have HFO := Lib.hid hfo
    have HD := Lib.hid (refdepths_any HA2.out.c HA2.out.j.rowu (⟨hfo.he, hfo.h3, hfo.hall, hfo.hg, fun j hj => absurd hj (Nat.not_lt_zero _)⟩ : FindOk m.code m.js []))
    obtain ⟨R, hR⟩ : ∃ R, R = flowN m.code m.js := ⟨_, rfl⟩
    rw [← hR] at HD
    have HR := Lib.hid hR
    clear c0 c1 c2 c3 c4 c5 HF hb2 hfo hR HA1
    go_wp2_with fail
    refine HD.out.mono ?_
    rintro e w3 ⟨hb3, ⟨hbad, rfl⟩ | ⟨hgood, ve, vm, rfl, od, om, hdj⟩⟩
    · have hcn : ((R.2.2.2 : Nat) : Int) ≠ 0 := by omega
      have HB3 := Lib.hid (Bel.tr HB2.out hb3)
      clear hb3
      go_wp2_with fail
      go_ret3
      exact ⟨HB3.out, .inl ⟨_, _, rfl, .inr (.inr ⟨hm, HFO.out, by rw [← HR.out]; exact hbad, by rw [HR.out], by rw [HR.out]⟩)⟩⟩
    have k0 := (hb3.cell (p := ⟨w.heap.size, 0, none⟩) hs2).trans s0
    have k1 := (hb3.cell (p := ⟨w.heap.size, 1, none⟩) hs2).trans s1
    have k2 := (hb3.cell (p := ⟨w.heap.size, 2, none⟩) hs2).trans s2
    have k3 := (hb3.cell (p := ⟨w.heap.size, 3, none⟩) hs2).trans s3
    have k4 := (hb3.cell (p := ⟨w.heap.size, 4, none⟩) hs2).trans s4
    have k5 := (hb3.cell (p := ⟨w.heap.size, 5, none⟩) hs2).trans s5
    have hs3 : w.heap.size < w3.heap.size := Nat.lt_of_lt_of_le hs2 hb3.size
    have HA3 := Lib.hid (HA2.out.below hb3)
    have HB3 := Lib.hid (Bel.tr HB2.out hb3)
    obtain ⟨xd, yd, rfl, -⟩ := own_sl od
    obtain ⟨xm, ym, rfl, -⟩ := own_sl om
    have HOM := Lib.hid om
    have HOK := Lib.hid (show TakeOk m from ⟨hm, HFO.out, by rw [← HR.out]; exact hgood⟩)
    have hb308 := run_b308
    have HCp := Lib.hid (fun (W : World) (hW : Below w3.heap.size w3 W) => copiedR_any _ _ _ _ m W (HA3.out.below hW) (sized_of_check hm))
    have HBi := Lib.hid (fun (W : World) (hW : Below w3.heap.size w3 W) => refbits_any _ _ _ _ m (checkI_ok hm).2.2.2.2.1 W (HA3.out.below hW))
    have HPr := Lib.hid (fun (W : World) (hW : Below w3.heap.size w3 W) => refprocs_any _ m.code (encRes_short HFO.out.he) HFO.out.h3 W (HA3.out.below hW).c)
    have Keep := Lib.hid (show ∀ W W' : World, Below W.heap.size W W' →
        ((W.cell? ⟨w.heap.size, 0, none⟩ = some (.slice ac m.code.length cc) ∧ W.cell? ⟨w.heap.size, 1, none⟩ = some (.slice aj m.js.length cj) ∧ W.cell? ⟨w.heap.size, 2, none⟩ = some (.slice ad m.data.length cd) ∧ W.cell? ⟨w.heap.size, 3, none⟩ = some (.int .u32 m.zero) ∧ W.cell? ⟨w.heap.size, 4, none⟩ = some (.int .u32 m.stack) ∧ W.cell? ⟨w.heap.size, 5, none⟩ = some (.slice an m.lx.length cn)) ∧ Below w3.heap.size w3 W) →
        ((W'.cell? ⟨w.heap.size, 0, none⟩ = some (.slice ac m.code.length cc) ∧ W'.cell? ⟨w.heap.size, 1, none⟩ = some (.slice aj m.js.length cj) ∧ W'.cell? ⟨w.heap.size, 2, none⟩ = some (.slice ad m.data.length cd) ∧ W'.cell? ⟨w.heap.size, 3, none⟩ = some (.int .u32 m.zero) ∧ W'.cell? ⟨w.heap.size, 4, none⟩ = some (.int .u32 m.stack) ∧ W'.cell? ⟨w.heap.size, 5, none⟩ = some (.slice an m.lx.length cn)) ∧ Below w3.heap.size w3 W') from by
      intro W W' hbw ⟨⟨e0, e1, e2, e3, e4, e5⟩, e6⟩
      have hl := World.block_lt_of_cell? _ _ e0
      exact ⟨⟨(hbw.cell (p := ⟨w.heap.size, 0, none⟩) hl).trans e0, (hbw.cell (p := ⟨w.heap.size, 1, none⟩) hl).trans e1, (hbw.cell (p := ⟨w.heap.size, 2, none⟩) hl).trans e2, (hbw.cell (p := ⟨w.heap.size, 3, none⟩) hl).trans e3, (hbw.cell (p := ⟨w.heap.size, 4, none⟩) hl).trans e4, (hbw.cell (p := ⟨w.heap.size, 5, none⟩) hl).trans e5⟩, Bel.tr e6 hbw⟩)
    have H00 := Lib.hid (show ((w3.drew.cell? ⟨w.heap.size, 0, none⟩ = some (.slice ac m.code.length cc) ∧ w3.drew.cell? ⟨w.heap.size, 1, none⟩ = some (.slice aj m.js.length cj) ∧ w3.drew.cell? ⟨w.heap.size, 2, none⟩ = some (.slice ad m.data.length cd) ∧ w3.drew.cell? ⟨w.heap.size, 3, none⟩ = some (.int .u32 m.zero) ∧ w3.drew.cell? ⟨w.heap.size, 4, none⟩ = some (.int .u32 m.stack) ∧ w3.drew.cell? ⟨w.heap.size, 5, none⟩ = some (.slice an m.lx.length cn)) ∧ Below w3.heap.size w3 w3.drew) from ⟨⟨k0, k1, k2, k3, k4, k5⟩, (Below.refl _ _).drew⟩)
    clear s0 s1 s2 s3 s4 s5 hb3 od om HD hgood
    go_wp2_with fail
    clear k0 k1 k2 k3 k4 k5
    go_region_held3 (fun w' => (w'.cell? ⟨w.heap.size, 0, none⟩ = some (.slice ac m.code.length cc) ∧ w'.cell? ⟨w.heap.size, 1, none⟩ = some (.slice aj m.js.length cj) ∧ w'.cell? ⟨w.heap.size, 2, none⟩ = some (.slice ad m.data.length cd) ∧ w'.cell? ⟨w.heap.size, 3, none⟩ = some (.int .u32 m.zero) ∧ w'.cell? ⟨w.heap.size, 4, none⟩ = some (.int .u32 m.stack) ∧ w'.cell? ⟨w.heap.size, 5, none⟩ = some (.slice an m.lx.length cn)) ∧ Below w3.heap.size w3 w')
      (first | assumption | exact H00.out | exact Keep.out _ _ hbC (by assumption) | exact Keep.out _ _ hbI (by assumption) | exact Keep.out _ _ hbP (by assumption) | exact Keep.out _ _ (Bel.new _ _) (by assumption))
      (first
        | (go_at_call 46; refine (HCp.out _ ?_).mono ?_; exact (by assumption : (_ ∧ _) ∧ Below w3.heap.size w3 _).2; rintro e wC ⟨uc, uj, ud, un, rfl, hio, hbC⟩; obtain ⟨a1, n1, rfl, -⟩ := own_sl hio.c; obtain ⟨a2, n2, rfl, -⟩ := own_sl hio.j; obtain ⟨a3, n3, rfl, -⟩ := own_sl hio.d; obtain ⟨a4, n4, rfl, -⟩ := own_sl hio.n)
        | (go_at_call 47; refine (HBi.out _ ?_).mono ?_; exact (by assumption : (_ ∧ _) ∧ Below w3.heap.size w3 _).2; rintro e wI ⟨rfl, hbI⟩)
        | (go_at_call 48; refine (HPr.out _ ?_).mono ?_; exact (by assumption : (_ ∧ _) ∧ Below w3.heap.size w3 _).2; rintro e wP ⟨up, rfl, hop, hbP⟩; obtain ⟨a5, n5, rfl, -⟩ := own_sl hop))
    have HX := Lib.hid (heap_alloc_new wP (.cells #[.slice a1 m.code.length n1, .slice a2 m.js.length n2, .slice a3 m.data.length n3, .int .u32 m.zero, .int .u32 m.stack, .slice a4 m.lx.length n4, .int .i64 (bitsI m), .slice a5 (psTo m.code m.code.length).length n5, .slice xd R.1.length yd] 113))
    have hc7 := cell_of_row _ _ 7 _ _ _ HX.out
    have hbz := Bel.new wP (.cells #[.slice a1 m.code.length n1, .slice a2 m.js.length n2, .slice a3 m.data.length n3, .int .u32 m.zero, .int .u32 m.stack, .slice a4 m.lx.length n4, .int .i64 (bitsI m), .slice a5 (psTo m.code m.code.length).length n5, .slice xd R.1.length yd] 113)
    have HP7 := Lib.hid (own_below hop hbz)
    have hcz : Below w3.heap.size w3 wP := Bel.tr (Bel.tr (Bel.dr (Below.refl _ _)) (by exact hbC)) (Bel.tr hbI hbP)
    have HN7 := Lib.hid (own_below HOM.out (Bel.tr hcz hbz))
    have HBz := Lib.hid (Bel.tr HB3.out (Bel.tr hcz hbz))
    clear hbz
    generalize hWz : wP.alloc (.cells #[.slice a1 m.code.length n1, .slice a2 m.js.length n2, .slice a3 m.data.length n3, .int .u32 m.zero, .int .u32 m.stack, .slice a4 m.lx.length n4, .int .i64 (bitsI m), .slice a5 (psTo m.code m.code.length).length n5, .slice xd R.1.length yd] 113) = Wz at *
    go_wp2_with fail
    have hax := HOM.out.lt
    have hab := hop.lt
    have hz1 := hcz.size
    have hz2 : w3.heap.size ≤ wI.heap.size := Nat.le_trans hbC.size hbI.size
    have hPle := psTo_le m.code m.code.length
    have hcle := encRes_short HFO.out.he
    generalize hPL : (psTo m.code m.code.length).length = PL at *
    clear hcz hop hio hbC hbI hbP hWz
    go_loopw [13] (fun xi wr => ∃ (k : Nat) (xs : List Value), xi = .int .i64 k ∧ k ≤ PL ∧ wr.cell? ⟨wP.heap.size, 7, none⟩ = some (.slice a5 PL n5) ∧ wr.ownsRow wI.heap.size 71 4 (.slice a5 PL n5) PL xs ∧
      wr.ownsRow w2.heap.size 3 1 (.slice xm R.2.1.length ym) R.2.1.length (encZ R.2.1) ∧ Below w.heap.size w wr) (fun xi _ => PL - (intOf xi).toNat)
    case atStart => exact ⟨0, _, rfl, Nat.zero_le _, hc7, HP7.out, HN7.out, HBz.out⟩
    case round =>
      obtain ⟨k, xs, rfl, hk, hc, hp, hn, hb⟩ := hrel
      have HP := Lib.hid hp
      have HN := Lib.hid hn
      have HB := Lib.hid hb
      clear hp hn hb
      by_cases h1 : k < PL
      · by_cases h2 : k < R.2.1.length
        · obtain ⟨av, cv, hv, -, -, hpp⟩ := own_sl HP.out
          cases hv
          obtain ⟨pq, rfl, hpl, -⟩ := hpp (by omega)
          obtain ⟨aw, cw, hw, -, -, hnn⟩ := own_sl HN.out
          cases hw
          obtain ⟨gm, rfl, hgl, hgc⟩ := hnn (by omega)
          obtain ⟨vk, hvk⟩ : ∃ vk, vk = R.2.1.getD k (-1) := ⟨_, rfl⟩
          have hcm := own_int HN.out h2
          rw [← hvk] at hcm
          clear hvk
          have hst := HP.out.stored (k * 4 + 3) (.int .i64 vk)
          have hfp := HP.out.frozenAt (k * 4 + 3)
          have hcp := HP.out.cellAt (k * 4 + 3) (by omega)
          have hlx := HP.out.1
          rw [List.getElem?_eq_getElem (by omega)] at hcp
          have hpa := (hab pq rfl)
          have hga := (hax gm rfl)
          have HPS := Lib.hid hst.1
          have HNS := Lib.hid (ownsRow_setCell_other HN.out (a := ⟨pq, k * 4 + 3, none⟩) (fun e => by simp only [Value.ownBlock, Option.some.injEq] at e; omega) (.int .i64 vk))
          have HBS := Lib.hid (HB.out.setCell (p := ⟨pq, k * 4 + 3, none⟩) (by show w.heap.size ≤ pq; have := HB3.out.size; omega) (.int .i64 vk))
          have hki : (k : Int) < (PL : Int) := by omega
          have hkj : (k : Int) < (R.2.1.length : Int) := by omega
          have hk0 : (0 : Int) ≤ (k : Int) := by omega
          have hc' : (wr.setCell ⟨pq, k * 4 + 3, none⟩ (.int .i64 vk)).cell? ⟨wP.heap.size, 7, none⟩ = some (.slice (some ⟨pq, 0, none⟩) PL n5) := (World.cell?_of_block (a := ⟨wP.heap.size, 7, none⟩) (Below.heap_setCell _ _ _ _ (by show wP.heap.size ≠ pq; omega))).trans hc
          have HC' := Lib.hid hc'
          have HM' := Lib.hid ((World.cell?_of_block (a := ⟨gm, k, none⟩) (Below.heap_setCell wr ⟨pq, k * 4 + 3, none⟩ (.int .i64 vk) gm (by show gm ≠ pq; omega))).trans hcm)
          clear hst hc' hpp hnn hgc
          go_wp2_with fail
          go_region_held3 (fun w' => w'.cell? ⟨wP.heap.size, 7, none⟩ = some (.slice (some ⟨pq, 0, none⟩) PL n5) ∧ w'.cell? ⟨gm, k, none⟩ = some (.int .i64 vk))
            (first | assumption | exact ⟨hc, hcm⟩ | exact ⟨HC'.out, HM'.out⟩) (fail)
          go_wp2_with fail
          go_roundw
          case rel => exact ⟨k + 1, _, by go_num, by omega, HC'.out, HPS.out, HNS.out, HBS.out.drew⟩
          case measure => simp [intOf]; omega
        · go_wp2_with fail
          go_ret3
          exact ⟨HB.out, .inr ⟨_, rfl, HOK.out⟩⟩
      · go_wp2_with fail
        go_ret3
        exact ⟨HB.out, .inr ⟨_, rfl, HOK.out⟩⟩
  · have HB := HB1
    have hcn : ((checkI m : Nat) : Int) ≠ 0 := by omega
    clear hb1 hW0
    go_wp2_with fail
    go_ret3
    exact ⟨HB1.out, .inl ⟨0, checkI m, rfl, .inl ⟨hm, rfl, rfl⟩⟩⟩
theorem takeBad_pos {m : Img} {a c : Nat} (h : TakeBad m a c) : c ≠ 0 := by
  rcases h with ⟨h1, -, h3⟩ | ⟨-, h2⟩ | ⟨-, -, h3, -, h5⟩
  · rw [h3]; exact h1
  · exact findBad_pos h2
  · rw [h5]; exact h3
def LawPost (m : Img) (w : World) (e : Ending) (w' : World) : Prop :=
  Below w.heap.size w w' ∧ (e = .returned (.tuple #[.pointer none, .pointer none, .bool false, .bool true]) ∨
    ∃ mb rb, e = .returned (.tuple #[.pointer (some ⟨mb, 0, none⟩), .pointer (some ⟨rb, 0, none⟩), .bool true, .bool true]) ∧ MAt w' mb m)
set_option maxRecDepth 100000 in
set_option maxHeartbeats 4000000 in
theorem lawtaken_any (vc vj vd vn : Value) (m : Img) (w : World) (h : ImgAt w vc vj vd vn m) :
    Calls Tryz.prog 7 #[.agg #[vc, vj, vd, .int .u32 m.zero, .int .u32 m.stack, vn]] w (LawPost m w) := by
  obtain ⟨W0, hW0⟩ : ∃ W0, W0 = w.alloc (.cells #[vc, vj, vd, .int .u32 m.zero, .int .u32 m.stack, vn] 28) := ⟨_, rfl⟩
  have hb0 : Below w.heap.size w W0 := by rw [hW0]; exact Bel.new _ _
  have HH0 := Lib.hid (show W0.heap[w.heap.size]? = some (.cells #[vc, vj, vd, .int .u32 m.zero, .int .u32 m.stack, vn] 28 (0, 0)) from by rw [hW0]; exact heap_alloc_new w _)
  have hs0 : w.heap.size < W0.heap.size := by rw [hW0]; simp
  have HV := Lib.hid (takeV_any vc vj vd vn m W0 (h.below hb0))
  have HR := Lib.hid (fun W (hW : Below W0.heap.size W0 W) => reftake_any vc vj vd vn m W ((h.below hb0).below hW))
  unfold TakePost at HV
  have HX := Lib.hid h
  have HB0 := Lib.hid hb0
  unfold LawPost
  clear h hb0
  go_enter Tryz.func7, Tryz.ntmps7
  go_wp2_with fail
  rw [← hW0]
  clear hW0
  refine HV.out.mono ?_
  rintro e w1 ⟨hb1, h1⟩
  have HR1 := Lib.hid (HR.out w1 hb1)
  unfold RtPost at HR1
  have HB1 := Lib.hid (Bel.tr HB0.out hb1)
  have hh := (hb1.block w.heap.size hs0).trans HH0.out
  have c0 := cell_of_row w1 w.heap.size 0 _ _ _ hh
  have c1 := cell_of_row w1 w.heap.size 1 _ _ _ hh
  have c2 := cell_of_row w1 w.heap.size 2 _ _ _ hh
  have c3 := cell_of_row w1 w.heap.size 3 _ _ _ hh
  have c4 := cell_of_row w1 w.heap.size 4 _ _ _ hh
  have c5 := cell_of_row w1 w.heap.size 5 _ _ _ hh
  clear hb1 hh
  rcases h1 with ⟨a, c, rfl, hbad⟩ | ⟨mb, rfl, hok, hmod⟩
  · have HBad := Lib.hid hbad
    have hc0 : (((c : Nat) : Int) == 0) = false := int_beq_ne (takeBad_pos hbad)
    clear hbad
    go_wp2_with fail
    refine HR1.out.mono ?_
    rintro e w2 ⟨hb2, ⟨a', c', rfl, hbad'⟩ | ⟨rb, rfl, hok'⟩⟩
    · obtain ⟨rfl, rfl⟩ := TakeBad.det HBad.out hbad'
      have HB2 := Lib.hid (Bel.tr HB1.out hb2)
      clear hb2 hbad' c0 c1 c2 c3 c4 c5
      go_wp2_with fail
      all_goals
        refine bodyPost_ret (v := .tuple #[.pointer none, .pointer none, .bool false, .bool true]) (by simp [results, Tryz.results7]) rfl ⟨HB2.out, .inl rfl⟩
    · exact (hok'.not_bad HBad.out).elim
  · have HMd := Lib.hid hmod
    have HOk := Lib.hid hok
    clear hmod hok
    go_wp2_with fail
    refine HR1.out.mono ?_
    rintro e w2 ⟨hb2, ⟨a', c', rfl, hbad'⟩ | ⟨rb, rfl, hok'⟩⟩
    · exact (HOk.out.not_bad hbad').elim
    · have HB2 := Lib.hid (Bel.tr HB1.out hb2)
      have HM2 := Lib.hid (show MAt w2 mb m from ⟨HOk.out, ⟨_, HMd.out.below hb2⟩, ⟨_, _, _, _, _, HX.out⟩⟩)
      clear hb2 hok' c0 c1 c2 c3 c4 c5
      go_wp2_with fail
      all_goals
        refine bodyPost_ret (v := .tuple #[.pointer (some ⟨mb, 0, none⟩), .pointer (some ⟨rb, 0, none⟩), .bool true, .bool true]) (by simp [results, Tryz.results7]) rfl ⟨HB2.out, .inr ⟨_, _, rfl, HM2.out⟩⟩
set_option linter.unusedSimpArgs false
theorem St.Sized.n {s : St} (h : s.Sized) : s.ops.length ≤ 140737488355328 := by have := h.o; omega
structure LwB (w W : World) (q1 q2 : Nat) (vo vd uo ud : Value) (s t : St) : Prop where
  b : Below w.heap.size w W
  s : StB W q1 vo vd s
  t : StB W q2 uo ud t
theorem LwB.below {w W W' : World} {q1 q2 : Nat} {vo vd uo ud : Value} {s t : St} (h : LwB w W q1 q2 vo vd uo ud s t) (hb : Below W.heap.size W W') : LwB w W' q1 q2 vo vd uo ud s t :=
  ⟨Bel.tr h.b hb, h.s.below hb, h.t.below hb⟩
theorem delta_lt {m : Mo} {a s : St} (hs : s.Small) (hl : a.data.length = s.data.length) : ∀ x ∈ deltaN m a s, x < 256 := fun x hx => file_lt (dig := m.dig) (delta := 1) (mark := markS m a) hs hl x hx
theorem save_le {m : Img} (hk : TakeOk m) {s : St} (hf : (moOf m).fits s = true) : (saveN (moOf m) s).length ≤ 140737488351232 := by
  have h1 := fits_len hf
  have h2 := fits_ops (moOk hk) hf
  have h3 := (pow_le16 (moOk hk)).2
  have h4 := fresh_length (moOk hk)
  have := body_le (s := s) (base := (moOf m).fresh) (by omega) (by omega) (by omega)
  unfold saveN
  rw [fileN_length]; omega
theorem delta_le {m : Img} (hk : TakeOk m) {a s : St} (ha : (moOf m).fits a = true) (hf : (moOf m).fits s = true) : (deltaN (moOf m) a s).length ≤ 140737488351232 := by
  have h1 := fits_len hf
  have h2 := fits_ops (moOk hk) hf
  have h3 := (pow_le16 (moOk hk)).2
  have h4 := fits_len ha
  have := body_le (s := s) (base := a.data) (by omega) (by omega) (by omega)
  unfold deltaN
  rw [fileN_length]; omega
set_option maxRecDepth 100000 in
set_option maxHeartbeats 8000000 in
theorem saveBack_walk (vc vj vk vn : Value) (m : Img) (w : World) (h : ImgAt w vc vj vk vn m) {vo vd uo ud : Value} {s t : St} (hs : StAt w vo vd s) (ht : StAt w uo ud t) (hss : s.Sized) (hts : t.Sized) :
    Calls Tryz.prog 4 #[.agg #[vc, vj, vk, .int .u32 m.zero, .int .u32 m.stack, vn], stV vo vd s, stV uo ud t] w fun e w' => e = .returned (.bool true) ∧ Below w.heap.size w w' := by
  have hz51 := zeroQ51
  obtain ⟨ac, cc, rfl, -⟩ := h.c.1
  obtain ⟨aj, cj, rfl, -⟩ := h.j.1
  obtain ⟨ak, ck, rfl, -⟩ := h.d.1
  obtain ⟨an, cn, rfl, -⟩ := h.n.1
  obtain ⟨ao, co, rfl, -⟩ := hs.o.1
  obtain ⟨ad, cd, rfl, -⟩ := hs.d.1
  obtain ⟨bo, eo, rfl, -⟩ := ht.o.1
  obtain ⟨bd, ed, rfl, -⟩ := ht.d.1
  obtain ⟨Wi, hWi⟩ : ∃ Wi, Wi = w.alloc (.cells #[.slice ac m.code.length cc, .slice aj m.js.length cj, .slice ak m.data.length ck, .int .u32 m.zero, .int .u32 m.stack, .slice an m.lx.length cn] 28) := ⟨_, rfl⟩
  have hbi : Below w.heap.size w Wi := by rw [hWi]; exact Bel.new _ _
  have hsi : Wi.heap.size = w.heap.size + 1 := by rw [hWi]; simp
  obtain ⟨Ws, hWs⟩ : ∃ Ws, Ws = Wi.alloc (.cells #[.int .u8 s.life, .int .u32 s.pc, .int .u32 s.sp, .slice ao s.ops.length co, .slice ad s.data.length cd, .int .u32 s.value, .int .u8 s.fault] 32) := ⟨_, rfl⟩
  have hbs : Below Wi.heap.size Wi Ws := by rw [hWs]; exact Bel.new _ _
  have hSs : StB Ws (w.heap.size + 1) (.slice ao s.ops.length co) (.slice ad s.data.length cd) s := StB.row (by rw [hWs, ← hsi]; exact heap_alloc_new _ _)
  have hss2 : Ws.heap.size = w.heap.size + 2 := by rw [hWs]; simp [hsi]
  obtain ⟨W0, hW0⟩ : ∃ W0, W0 = Ws.alloc (.cells #[.int .u8 t.life, .int .u32 t.pc, .int .u32 t.sp, .slice bo t.ops.length eo, .slice bd t.data.length ed, .int .u32 t.value, .int .u8 t.fault] 32) := ⟨_, rfl⟩
  have hb0 : Below Ws.heap.size Ws W0 := by rw [hW0]; exact Bel.new _ _
  have HL := Lib.hid (show LwB w W0 (w.heap.size + 1) (w.heap.size + 2) (.slice ao s.ops.length co) (.slice ad s.data.length cd) (.slice bo t.ops.length eo) (.slice bd t.data.length ed) s t from
    ⟨Bel.tr (Bel.tr hbi hbs) hb0, hSs.below hb0, StB.row (by rw [hW0, ← hss2]; exact heap_alloc_new _ _)⟩)
  obtain ⟨f0, f1, f2, f3, f4, f5⟩ := cells_new6 w (.slice ac m.code.length cc) (.slice aj m.js.length cj) (.slice ak m.data.length ck) (.int .u32 m.zero) (.int .u32 m.stack) (.slice an m.lx.length cn) 28
  have HTk := Lib.hid (lawtaken_any _ _ _ _ m W0 (h.below HL.out.b))
  unfold LawPost at HTk
  have HLv := Lib.hid (fun W => lives_any W)
  have HS := Lib.hid hs
  have HT := Lib.hid ht
  have hn1 := hss.n
  have hn2 := hts.n
  have HDt := Lib.hid h.d.2
  clear h hs ht hss hts hbi hbs hb0 hsi hss2 hSs
  unfold stV
  go_enter Tryz.func4, Tryz.ntmps4
  go_wp2_with fail
  rw [← hWi, ← hWs, ← hW0]
  clear hWi hWs hW0 f0 f1 f2 f3 f4 f5
  refine HTk.out.mono ?_
  rintro e w1 ⟨hb1, rfl | ⟨mb, rb, rfl, hM⟩⟩
  · have HB1 := Lib.hid (Bel.tr HL.out.b hb1)
    clear hb1
    go_wp2_with fail
    refine (HLv.out _).mono ?_
    rintro e w2 ⟨rfl, hb2⟩
    have HB2 := Lib.hid (Bel.tr HB1.out hb2)
    clear hb2
    go_wp2_with fail
    go_ret
    exact ⟨rfl, HB2.out⟩
  have HL1 := Lib.hid (HL.out.below hb1)
  have HM1 := Lib.hid hM
  clear hb1 hM
  go_wp2_with fail
  refine (HLv.out _).mono ?_
  rintro e w2 ⟨rfl, hb2⟩
  have HL2 := Lib.hid (HL1.out.below hb2)
  have HM2 := Lib.hid (HM1.out.below hb2)
  clear hb2
  obtain ⟨-, ⟨a0, a1, a2, a3, a4, a5, a6⟩, ⟨b0, b1, b2, b3, b4, b5, b6⟩⟩ := HL2.out
  have HSv := Lib.hid (save_any HM2.out (HT.out.below HL2.out.b) hn2)
  unfold SavePost stV at HSv
  by_cases ft : (moOf m).fits t = true
  · have HFt := Lib.hid ft
    clear ft
    go_wp2_with fail
    refine HSv.out.mono ?_
    rintro e w3 ⟨hb3, ⟨hf, -⟩ | ⟨-, v, rfl, hov⟩⟩
    · rw [HFt.out] at hf; cases hf
    have HL3 := Lib.hid (HL2.out.below hb3)
    have HM3 := Lib.hid (HM2.out.below hb3)
    have hlt := save_lt (m := moOf m) HT.out.sm (by rw [fresh_length (moOk HM3.out.k), fits_len HFt.out])
    have HVs := Lib.hid (own_bytes hov hlt)
    have HSl := Lib.hid (save_le HM3.out.k HFt.out)
    have HBk := Lib.hid (save_back (moOk HM3.out.k) (digN_lt HM3.out.k.k) HT.out.sm HFt.out)
    obtain ⟨av, cv, rfl, -⟩ := own_sl hov
    generalize saveN (moOf m) t = bs at *
    have HF3 := Lib.hid (fits_any HM3.out (HT.out.below HL3.out.b) hn2)
    rw [HFt.out] at HF3
    unfold stV at HF3
    clear hb3 hov hlt HSv
    clear a0 a1 a2 a3 a4 a5 a6 b0 b1 b2 b3 b4 b5 b6
    obtain ⟨-, ⟨a0, a1, a2, a3, a4, a5, a6⟩, ⟨b0, b1, b2, b3, b4, b5, b6⟩⟩ := HL3.out
    go_wp2_with fail
    refine HF3.out.mono ?_
    rintro e w4 ⟨rfl, hb4⟩
    have HL4 := Lib.hid (HL3.out.below hb4)
    have HM4 := Lib.hid (HM3.out.below hb4)
    have HVs4 := Lib.hid (HVs.out.below hb4)
    have HDl := Lib.hid (delta_any HM4.out (HS.out.below HL4.out.b) (HT.out.below HL4.out.b) hn1 hn2)
    unfold DeltaPost stV at HDl
    clear hb4 HF3 HVs
    clear a0 a1 a2 a3 a4 a5 a6 b0 b1 b2 b3 b4 b5 b6
    obtain ⟨-, ⟨a0, a1, a2, a3, a4, a5, a6⟩, ⟨b0, b1, b2, b3, b4, b5, b6⟩⟩ := HL4.out
    by_cases fs : (moOf m).fits s = true
    · have HFs := Lib.hid fs
      clear fs
      go_wp2_with fail
      refine HDl.out.mono ?_
      rintro e w5 ⟨hb5, ⟨hf, -⟩ | ⟨-, -, v, rfl, hov⟩⟩
      · rw [HFs.out, HFt.out] at hf; cases hf
      have HL5 := Lib.hid (HL4.out.below hb5)
      have HM5 := Lib.hid (HM4.out.below hb5)
      have HVs5 := Lib.hid (HVs4.out.below hb5)
      have hlt := delta_lt (m := moOf m) (a := s) HT.out.sm (by rw [fits_len HFs.out, fits_len HFt.out])
      have HVd := Lib.hid (own_bytes hov hlt)
      have HSd := Lib.hid (delta_le HM5.out.k HFs.out HFt.out)
      have HBd := Lib.hid (delta_back (moOk HM5.out.k) (digN_lt HM5.out.k.k) HT.out.sm HFs.out HFt.out)
      obtain ⟨au, cu, rfl, -⟩ := own_sl hov
      generalize deltaN (moOf m) s t = ds at *
      have HF5 := Lib.hid (fits_any HM5.out (HS.out.below HL5.out.b) hn1)
      rw [HFs.out] at HF5
      unfold stV at HF5
      clear hb5 hov hlt HDl
      clear a0 a1 a2 a3 a4 a5 a6 b0 b1 b2 b3 b4 b5 b6
      obtain ⟨-, ⟨a0, a1, a2, a3, a4, a5, a6⟩, ⟨b0, b1, b2, b3, b4, b5, b6⟩⟩ := HL5.out
      go_wp2_with fail
      refine HF5.out.mono ?_
      rintro e w6 ⟨rfl, hb6⟩
      have HL6 := Lib.hid (HL5.out.below hb6)
      have HM6 := Lib.hid (HM5.out.below hb6)
      have HVd6 := Lib.hid (HVd.out.below hb6)
      have HLd := Lib.hid (load_any HM6.out (HVs5.out.below hb6) HSl.out HDt.out)
      unfold ReadPost at HLd
      clear hb6 HF5 HVs5 HVd
      clear a0 a1 a2 a3 a4 a5 a6 b0 b1 b2 b3 b4 b5 b6
      go_wp2_with fail
      refine HLd.out.mono ?_
      rintro e w7 ⟨hb7, ⟨pl, er, hE, rfl⟩ | ⟨x, vo, vd, hE, rfl, hO⟩⟩
      · rw [HBk.out] at hE; cases hE
      have hx : x = t := by rw [HBk.out] at hE; cases hE; rfl
      subst hx
      obtain ⟨ao7, co7, rfl, -⟩ := own_sl hO.o
      obtain ⟨ad7, cd7, rfl, -⟩ := own_sl hO.d
      obtain ⟨W7, hW7⟩ : ∃ W7, W7 = w7.alloc (.cells #[.int .u8 x.life, .int .u32 x.pc, .int .u32 x.sp, .slice ao7 x.ops.length co7, .slice ad7 x.data.length cd7, .int .u32 x.value, .int .u8 x.fault] 32) := ⟨_, rfl⟩
      have hbb : Below w7.heap.size w7 W7 := by rw [hW7]; exact Bel.new _ _
      have HC7 := Lib.hid (show StB W7 w7.heap.size (.slice ao7 x.ops.length co7) (.slice ad7 x.data.length cd7) x from StB.row (by rw [hW7]; exact heap_alloc_new _ _))
      have HL7p := Lib.hid (HL6.out.below hb7)
      have HL7 := Lib.hid (HL7p.out.below hbb)
      have hq1 := World.block_lt_of_cell? _ _ HL7p.out.s.c0
      have hq2 := World.block_lt_of_cell? _ _ HL7p.out.t.c0
      have HM7 := Lib.hid ((HM6.out.below hb7).below hbb)
      have HVd7 := Lib.hid ((HVd6.out.below hb7).below hbb)
      have HO7 := Lib.hid (hO.at.below hbb)
      have HAp := Lib.hid (apply_any HM7.out (HS.out.below HL7.out.b) hn1 HVd7.out HSd.out)
      unfold ApplyPost ReadPost stV at HAp
      have hlt7 : w7.heap.size < W7.heap.size := by rw [hW7]; simp
      obtain ⟨-, ⟨a0, a1, a2, a3, a4, a5, a6⟩, ⟨b0, b1, b2, b3, b4, b5, b6⟩⟩ := HL7p.out
      unfold stV
      clear hb7 hbb hE hO HLd
      go_wp2_with fail
      rw [← hW7]
      clear hW7
      clear a0 a1 a2 a3 a4 a5 a6 b0 b1 b2 b3 b4 b5 b6
      refine HAp.out.mono ?_
      rintro e w8 (⟨hf, -⟩ | ⟨-, hb8, ⟨pl, er, hE, rfl⟩ | ⟨y, vo, vd, hE, rfl, hO⟩⟩)
      · rw [HFs.out] at hf; cases hf
      · rw [HBd.out] at hE; cases hE
      have hy : y = x := by rw [HBd.out] at hE; cases hE; rfl
      subst hy
      obtain ⟨ao8, co8, rfl, -⟩ := own_sl hO.o
      obtain ⟨ad8, cd8, rfl, -⟩ := own_sl hO.d
      obtain ⟨W8, hW8⟩ : ∃ W8, W8 = w8.alloc (.cells #[.int .u8 y.life, .int .u32 y.pc, .int .u32 y.sp, .slice ao8 y.ops.length co8, .slice ad8 y.data.length cd8, .int .u32 y.value, .int .u8 y.fault] 32) := ⟨_, rfl⟩
      have hbb : Below w8.heap.size w8 W8 := by rw [hW8]; exact Bel.new _ _
      have HC8 := Lib.hid (show StB W8 w8.heap.size (.slice ao8 y.ops.length co8) (.slice ad8 y.data.length cd8) y from StB.row (by rw [hW8]; exact heap_alloc_new _ _))
      have HL8p := Lib.hid (HL7.out.below hb8)
      have HL8 := Lib.hid (HL8p.out.below hbb)
      have HC78p := Lib.hid (HC7.out.below hb8)
      have HC78 := Lib.hid (HC78p.out.below hbb)
      clear hq1 hq2
      have hq1 := World.block_lt_of_cell? _ _ HL8p.out.s.c0
      have hq2 := World.block_lt_of_cell? _ _ HL8p.out.t.c0
      have hq3 := World.block_lt_of_cell? _ _ HC78p.out.c0
      have HO8 := Lib.hid (hO.at.below hbb)
      have HSm1 := Lib.hid (sameState_yes ((HO7.out.below hb8).below hbb) (HT.out.below HL8.out.b))
      have HSm2 := Lib.hid (fun (W : World) (hW : Below W8.heap.size W8 W) => sameState_yes (HO8.out.below hW) (HT.out.below (Bel.tr HL8.out.b hW)))
      unfold stV at HSm1 HSm2
      obtain ⟨-, ⟨a0, a1, a2, a3, a4, a5, a6⟩, ⟨b0, b1, b2, b3, b4, b5, b6⟩⟩ := HL8p.out
      obtain ⟨c0, c1, c2, c3, c4, c5, c6⟩ := HC78p.out
      clear hb8 hbb hE hO HAp
      go_wp2_with fail
      rw [← hW8]
      clear hW8 c0 c1 c2 c3 c4 c5 c6
      clear a0 a1 a2 a3 a4 a5 a6 b0 b1 b2 b3 b4 b5 b6
      refine HSm1.out.mono ?_
      rintro e w9 ⟨rfl, hb9⟩
      have HSm2' := Lib.hid (HSm2.out w9 hb9)
      have HL9 := Lib.hid (HL8.out.below hb9)
      obtain ⟨-, ⟨a0, a1, a2, a3, a4, a5, a6⟩, ⟨b0, b1, b2, b3, b4, b5, b6⟩⟩ := HL9.out
      obtain ⟨d0, d1, d2, d3, d4, d5, d6⟩ := HC8.out.below hb9
      clear hb9
      go_wp2_with fail
      refine HSm2'.out.mono ?_
      rintro e w10 ⟨rfl, hb10⟩
      have HB10 := Lib.hid (Bel.tr HL9.out.b hb10)
      clear hb10
      go_wp2_with fail
      go_ret
      exact ⟨rfl, HB10.out⟩
    · have fs' : (moOf m).fits s = false := by simpa using fs
      have HFs := Lib.hid fs'
      clear fs fs'
      go_wp2_with fail
      refine HDl.out.mono ?_
      rintro e w5 ⟨hb5, ⟨-, rfl⟩ | ⟨hf, -⟩⟩
      · have HL5 := Lib.hid (HL4.out.below hb5)
        have HF5 := Lib.hid (fits_any (HM4.out.below hb5) (HS.out.below HL5.out.b) hn1)
        rw [HFs.out] at HF5
        unfold stV at HF5
        clear hb5
        clear a0 a1 a2 a3 a4 a5 a6 b0 b1 b2 b3 b4 b5 b6
        obtain ⟨-, ⟨a0, a1, a2, a3, a4, a5, a6⟩, ⟨b0, b1, b2, b3, b4, b5, b6⟩⟩ := HL5.out
        go_wp2_with fail
        refine HF5.out.mono ?_
        rintro e w6 ⟨rfl, hb6⟩
        have HB6 := Lib.hid (Bel.tr HL5.out.b hb6)
        clear hb6
        go_wp2_with fail
        go_ret
        exact ⟨rfl, HB6.out⟩
      · rw [HFs.out] at hf; cases hf
  · have ft' : (moOf m).fits t = false := by simpa using ft
    have HFt := Lib.hid ft'
    clear ft ft'
    go_wp2_with fail
    refine HSv.out.mono ?_
    rintro e w3 ⟨hb3, ⟨-, rfl⟩ | ⟨hf, -⟩⟩
    · have HL3 := Lib.hid (HL2.out.below hb3)
      have HM3 := Lib.hid (HM2.out.below hb3)
      have HF3 := Lib.hid (fits_any HM3.out (HT.out.below HL3.out.b) hn2)
      rw [HFt.out] at HF3
      unfold stV at HF3
      clear hb3 HSv
      clear a0 a1 a2 a3 a4 a5 a6 b0 b1 b2 b3 b4 b5 b6
      obtain ⟨-, ⟨a0, a1, a2, a3, a4, a5, a6⟩, ⟨b0, b1, b2, b3, b4, b5, b6⟩⟩ := HL3.out
      go_wp2_with fail
      refine HF3.out.mono ?_
      rintro e w4 ⟨rfl, hb4⟩
      have HL4 := Lib.hid (HL3.out.below hb4)
      have HM4 := Lib.hid (HM3.out.below hb4)
      have HDl := Lib.hid (delta_any HM4.out (HS.out.below HL4.out.b) (HT.out.below HL4.out.b) hn1 hn2)
      unfold DeltaPost stV at HDl
      clear hb4 HF3
      clear a0 a1 a2 a3 a4 a5 a6 b0 b1 b2 b3 b4 b5 b6
      obtain ⟨-, ⟨a0, a1, a2, a3, a4, a5, a6⟩, ⟨b0, b1, b2, b3, b4, b5, b6⟩⟩ := HL4.out
      go_wp2_with fail
      refine HDl.out.mono ?_
      rintro e w5 ⟨hb5, ⟨-, rfl⟩ | ⟨-, hf, -⟩⟩
      · have HB5 := Lib.hid (Bel.tr HL4.out.b hb5)
        clear hb5
        go_wp2_with fail
        go_ret
        exact ⟨rfl, HB5.out⟩
      · rw [HFt.out] at hf; cases hf
    · rw [HFt.out] at hf; cases hf
structure LwA (w W : World) (q1 : Nat) (vo vd : Value) (s : St) : Prop where
  b : Below w.heap.size w W
  s : StB W q1 vo vd s
theorem LwA.below {w W W' : World} {q1 : Nat} {vo vd : Value} {s : St} (h : LwA w W q1 vo vd s) (hb : Below W.heap.size W W') : LwA w W' q1 vo vd s :=
  ⟨Bel.tr h.b hb, h.s.below hb⟩
set_option maxRecDepth 100000 in
set_option maxHeartbeats 8000000 in
theorem saveOnly_walk (vc vj vk vn : Value) (m : Img) (w : World) (h : ImgAt w vc vj vk vn m) {vo vd : Value} {s : St} (hs : StAt w vo vd s) (hss : s.Sized) {vb : Value} {b : List Nat} (hv : Bytes w vb b) (hbn : b.length ≤ 140737488351232) :
    Calls Tryz.prog 5 #[.agg #[vc, vj, vk, .int .u32 m.zero, .int .u32 m.stack, vn], stV vo vd s, vb] w fun e w' => e = .returned (.bool true) ∧ Below w.heap.size w w' := by
  have hz51 := zeroQ51
  obtain ⟨ac, cc, rfl, -⟩ := h.c.1
  obtain ⟨aj, cj, rfl, -⟩ := h.j.1
  obtain ⟨ak, ck, rfl, -⟩ := h.d.1
  obtain ⟨an, cn, rfl, -⟩ := h.n.1
  obtain ⟨ao, co, rfl, -⟩ := hs.o.1
  obtain ⟨ad, cd, rfl, -⟩ := hs.d.1
  obtain ⟨ab, cb, rfl, -⟩ := hv.opened
  obtain ⟨Wi, hWi⟩ : ∃ Wi, Wi = w.alloc (.cells #[.slice ac m.code.length cc, .slice aj m.js.length cj, .slice ak m.data.length ck, .int .u32 m.zero, .int .u32 m.stack, .slice an m.lx.length cn] 28) := ⟨_, rfl⟩
  have hbi : Below w.heap.size w Wi := by rw [hWi]; exact Bel.new _ _
  have hsi : Wi.heap.size = w.heap.size + 1 := by rw [hWi]; simp
  obtain ⟨W0, hW0⟩ : ∃ W0, W0 = Wi.alloc (.cells #[.int .u8 s.life, .int .u32 s.pc, .int .u32 s.sp, .slice ao s.ops.length co, .slice ad s.data.length cd, .int .u32 s.value, .int .u8 s.fault] 32) := ⟨_, rfl⟩
  have hb0 : Below Wi.heap.size Wi W0 := by rw [hW0]; exact Bel.new _ _
  have HL := Lib.hid (show LwA w W0 (w.heap.size + 1) (.slice ao s.ops.length co) (.slice ad s.data.length cd) s from ⟨Bel.tr hbi hb0, StB.row (by rw [hW0, ← hsi]; exact heap_alloc_new _ _)⟩)
  obtain ⟨f0, f1, f2, f3, f4, f5⟩ := cells_new6 w (.slice ac m.code.length cc) (.slice aj m.js.length cj) (.slice ak m.data.length ck) (.int .u32 m.zero) (.int .u32 m.stack) (.slice an m.lx.length cn) 28
  have HTk := Lib.hid (lawtaken_any _ _ _ _ m W0 (h.below HL.out.b))
  unfold LawPost at HTk
  have HLv := Lib.hid (fun W => lives_any W)
  have HS := Lib.hid hs
  have HV := Lib.hid hv
  have hn1 := hss.n
  have HDt := Lib.hid h.d.2
  clear h hs hss hbi hb0 hsi hv
  unfold stV
  go_enter Tryz.func5, Tryz.ntmps5
  go_wp2_with fail
  rw [← hWi, ← hW0]
  clear hWi hW0 f0 f1 f2 f3 f4 f5
  refine HTk.out.mono ?_
  rintro e w1 ⟨hb1, rfl | ⟨mb, rb, rfl, hM⟩⟩
  · have HB1 := Lib.hid (Bel.tr HL.out.b hb1)
    clear hb1
    go_wp2_with fail
    refine (HLv.out _).mono ?_
    rintro e w2 ⟨rfl, hb2⟩
    have HB2 := Lib.hid (Bel.tr HB1.out hb2)
    clear hb2
    go_wp2_with fail
    go_ret
    exact ⟨rfl, HB2.out⟩
  have HL1 := Lib.hid (HL.out.below hb1)
  have HM1 := Lib.hid hM
  clear hb1 hM
  go_wp2_with fail
  refine (HLv.out _).mono ?_
  rintro e w2 ⟨rfl, hb2⟩
  have HL2 := Lib.hid (HL1.out.below hb2)
  have HM2 := Lib.hid (HM1.out.below hb2)
  have HLd := Lib.hid (load_any HM2.out (HV.out.below HL2.out.b) hbn HDt.out)
  unfold ReadPost at HLd
  clear hb2
  go_wp2_with fail
  refine HLd.out.mono ?_
  rintro e w3 ⟨hb3, ⟨pl, er, hE, rfl⟩ | ⟨x, vo, vd, hE, rfl, hO⟩⟩
  · have her : ((er : Int) == 0) = false := int_beq_ne (read_small hE)
    obtain ⟨W3, hW3⟩ : ∃ W3, W3 = w3.alloc (.cells #[.int .u8 0, .int .u32 0, .int .u32 0, .slice none 0 0, .slice none 0 0, .int .u32 0, .int .u8 0] 32) := ⟨_, rfl⟩
    have hbb : Below w3.heap.size w3 W3 := by rw [hW3]; exact Bel.new _ _
    have HL3p := Lib.hid (HL2.out.below hb3)
    have HL3 := Lib.hid (HL3p.out.below hbb)
    have HM3 := Lib.hid ((HM2.out.below hb3).below hbb)
    have hq1 := World.block_lt_of_cell? _ _ HL3p.out.s.c0
    have HAp := Lib.hid (apply_any HM3.out (HS.out.below HL3.out.b) hn1 (HV.out.below HL3.out.b) hbn)
    unfold ApplyPost ReadPost stV at HAp
    obtain ⟨-, ⟨a0, a1, a2, a3, a4, a5, a6⟩⟩ := HL3p.out
    unfold zst
    clear hb3 hbb hE HLd
    go_wp2_with fail
    rw [← hW3]
    clear hW3 a0 a1 a2 a3 a4 a5 a6
    refine HAp.out.mono ?_
    rintro e w4 (⟨hf, hb4, rfl⟩ | ⟨hf, hb4, ⟨pl2, er2, hE2, rfl⟩ | ⟨y, vo, vd, hE2, rfl, hO⟩⟩)
    · have HB4 := Lib.hid (Bel.tr HL3.out.b hb4)
      clear hb4 hf HAp
      unfold zst
      go_wp2_with fail
      go_ret
      exact ⟨rfl, Bel.al HB4.out _⟩
    · have HB4 := Lib.hid (Bel.tr HL3.out.b hb4)
      have her2 : ((er2 : Int) == 0) = false := int_beq_ne (read_small hE2)
      clear hb4 hf HAp hE2
      unfold zst
      go_wp2_with fail
      go_ret
      exact ⟨rfl, Bel.al HB4.out _⟩
    · obtain ⟨hfy, -, -, hfile⟩ := read_ok hE2
      have HFs := Lib.hid hf
      have HFy := Lib.hid hfy
      have HDe := Lib.hid (show deltaN (moOf m) s y = b from hfile)
      obtain ⟨ao4, co4, rfl, -⟩ := own_sl hO.o
      obtain ⟨ad4, cd4, rfl, -⟩ := own_sl hO.d
      obtain ⟨W4, hW4⟩ : ∃ W4, W4 = w4.alloc (.cells #[.int .u8 y.life, .int .u32 y.pc, .int .u32 y.sp, .slice ao4 y.ops.length co4, .slice ad4 y.data.length cd4, .int .u32 y.value, .int .u8 y.fault] 32) := ⟨_, rfl⟩
      have hbb : Below w4.heap.size w4 W4 := by rw [hW4]; exact Bel.new _ _
      have HC4 := Lib.hid (show StB W4 w4.heap.size (.slice ao4 y.ops.length co4) (.slice ad4 y.data.length cd4) y from StB.row (by rw [hW4]; exact heap_alloc_new _ _))
      have HL4p := Lib.hid (HL3.out.below hb4)
      have HL4 := Lib.hid (HL4p.out.below hbb)
      have HM4 := Lib.hid ((HM3.out.below hb4).below hbb)
      have HO4 := Lib.hid (hO.at.below hbb)
      clear hq1
      have hq1 := World.block_lt_of_cell? _ _ HL4p.out.s.c0
      have hny : y.ops.length ≤ 140737488355328 := by have := fits_ops (moOk HM4.out.k) hfy; omega
      have HDl := Lib.hid (delta_any HM4.out (HS.out.below HL4.out.b) HO4.out hn1 hny)
      unfold DeltaPost stV at HDl
      obtain ⟨-, ⟨a0, a1, a2, a3, a4, a5, a6⟩⟩ := HL4p.out
      clear hb4 hbb hf hfy hE2 hfile hO HAp
      go_wp2_with fail
      rw [← hW4]
      clear hW4 a0 a1 a2 a3 a4 a5 a6
      refine HDl.out.mono ?_
      rintro e w5 ⟨hb5, ⟨hf, -⟩ | ⟨-, -, v, rfl, hov⟩⟩
      · rw [HFs.out, HFy.out] at hf; cases hf
      rw [HDe.out] at hov
      have HVd := Lib.hid (own_bytes hov HV.out.2)
      have HL5 := Lib.hid (HL4.out.below hb5)
      have HF5 := Lib.hid (fits_any (HM4.out.below hb5) (HO4.out.below hb5) hny)
      rw [HFy.out] at HF5
      unfold stV at HF5
      obtain ⟨av, cv, rfl, -⟩ := own_sl hov
      obtain ⟨d0, d1, d2, d3, d4, d5, d6⟩ := HC4.out.below hb5
      clear hb5 hov HDl
      go_wp2_with fail
      refine HF5.out.mono ?_
      rintro e w6 ⟨rfl, hb6⟩
      have HL6 := Lib.hid (HL5.out.below hb6)
      have HSb := Lib.hid (sameBytes_any (HVd.out.below hb6) (HV.out.below HL6.out.b))
      rw [show decide (b = b) = true from decide_eq_true rfl] at HSb
      clear hb6 HF5 d0 d1 d2 d3 d4 d5 d6
      go_wp2_with fail
      refine HSb.out.mono ?_
      rintro e w7 ⟨rfl, hb7⟩
      have HB7 := Lib.hid (Bel.tr HL6.out.b hb7)
      clear hb7
      go_wp2_with fail
      go_ret
      exact ⟨rfl, HB7.out⟩
  · obtain ⟨hfx, -, -, hfile⟩ := read_ok hE
    have HFx := Lib.hid hfx
    have HSe := Lib.hid (show saveN (moOf m) x = b from hfile)
    have HE := Lib.hid hE
    obtain ⟨ao3, co3, rfl, -⟩ := own_sl hO.o
    obtain ⟨ad3, cd3, rfl, -⟩ := own_sl hO.d
    obtain ⟨W3, hW3⟩ : ∃ W3, W3 = w3.alloc (.cells #[.int .u8 x.life, .int .u32 x.pc, .int .u32 x.sp, .slice ao3 x.ops.length co3, .slice ad3 x.data.length cd3, .int .u32 x.value, .int .u8 x.fault] 32) := ⟨_, rfl⟩
    have hbb : Below w3.heap.size w3 W3 := by rw [hW3]; exact Bel.new _ _
    have HC3 := Lib.hid (show StB W3 w3.heap.size (.slice ao3 x.ops.length co3) (.slice ad3 x.data.length cd3) x from StB.row (by rw [hW3]; exact heap_alloc_new _ _))
    have HL3p := Lib.hid (HL2.out.below hb3)
    have HL3 := Lib.hid (HL3p.out.below hbb)
    have HM3 := Lib.hid ((HM2.out.below hb3).below hbb)
    have HO3 := Lib.hid (hO.at.below hbb)
    have hq1 := World.block_lt_of_cell? _ _ HL3p.out.s.c0
    have hnx : x.ops.length ≤ 140737488355328 := by have := fits_ops (moOk HM3.out.k) hfx; omega
    have HAp := Lib.hid (apply_any HM3.out (HS.out.below HL3.out.b) hn1 (HV.out.below HL3.out.b) hbn)
    unfold ApplyPost ReadPost stV at HAp
    obtain ⟨-, ⟨a0, a1, a2, a3, a4, a5, a6⟩⟩ := HL3p.out
    unfold stV
    clear hb3 hbb hE HLd hfx hfile hO
    go_wp2_with fail
    rw [← hW3]
    clear hW3 a0 a1 a2 a3 a4 a5 a6
    refine HAp.out.mono ?_
    intro e w4 h4
    have key : Below W3.heap.size W3 w4 ∧ ∃ (p2 : Int) (e2 : Nat), e2 ≠ 0 ∧ e = .returned (.tuple #[.agg zst, .int .i64 p2, .int .i64 e2]) := by
      rcases h4 with ⟨-, hb4, rfl⟩ | ⟨-, hb4, ⟨pl2, er2, hE2, rfl⟩ | ⟨y, vo, vd, hE2, rfl, hO⟩⟩
      · exact ⟨hb4, 0, 3, by decide, rfl⟩
      · exact ⟨hb4, pl2, er2, read_small hE2, rfl⟩
      · exact (read_not HE.out hE2).elim
    obtain ⟨hb4, p2, e2, he2, rfl⟩ := key
    have her2 : ((e2 : Int) == 0) = false := int_beq_ne he2
    obtain ⟨W4, hW4⟩ : ∃ W4, W4 = w4.alloc (.cells #[.int .u8 0, .int .u32 0, .int .u32 0, .slice none 0 0, .slice none 0 0, .int .u32 0, .int .u8 0] 32) := ⟨_, rfl⟩
    have hbb : Below w4.heap.size w4 W4 := by rw [hW4]; exact Bel.new _ _
    have HL4 := Lib.hid ((HL3.out.below hb4).below hbb)
    have HM4 := Lib.hid ((HM3.out.below hb4).below hbb)
    have HO4 := Lib.hid ((HO3.out.below hb4).below hbb)
    have HC4p := Lib.hid (HC3.out.below hb4)
    have HC4 := Lib.hid (HC4p.out.below hbb)
    clear hq1
    have hq1 := World.block_lt_of_cell? _ _ HC4p.out.c0
    have HSv := Lib.hid (save_any HM4.out HO4.out hnx)
    unfold SavePost stV at HSv
    obtain ⟨d0, d1, d2, d3, d4, d5, d6⟩ := HC4p.out
    unfold zst
    clear hb4 hbb h4 he2 HAp
    go_wp2_with fail
    rw [← hW4]
    clear hW4 d0 d1 d2 d3 d4 d5 d6
    refine HSv.out.mono ?_
    rintro e w5 ⟨hb5, ⟨hf, -⟩ | ⟨-, v, rfl, hov⟩⟩
    · rw [HFx.out] at hf; cases hf
    rw [HSe.out] at hov
    have HVs := Lib.hid (own_bytes hov HV.out.2)
    have HL5 := Lib.hid (HL4.out.below hb5)
    have HF5 := Lib.hid (fits_any (HM4.out.below hb5) (HO4.out.below hb5) hnx)
    rw [HFx.out] at HF5
    unfold stV at HF5
    obtain ⟨av, cv, rfl, -⟩ := own_sl hov
    obtain ⟨d0, d1, d2, d3, d4, d5, d6⟩ := HC4.out.below hb5
    clear hb5 hov HSv
    go_wp2_with fail
    refine HF5.out.mono ?_
    rintro e w6 ⟨rfl, hb6⟩
    have HL6 := Lib.hid (HL5.out.below hb6)
    have HSb := Lib.hid (sameBytes_any (HVs.out.below hb6) (HV.out.below HL6.out.b))
    rw [show decide (b = b) = true from decide_eq_true rfl] at HSb
    clear hb6 HF5 d0 d1 d2 d3 d4 d5 d6
    go_wp2_with fail
    refine HSb.out.mono ?_
    rintro e w7 ⟨rfl, hb7⟩
    have HB7 := Lib.hid (Bel.tr HL6.out.b hb7)
    clear hb7
    go_wp2_with fail
    go_ret
    exact ⟨rfl, HB7.out⟩
set_option maxRecDepth 100000 in
theorem pick_any (x : Int) (n : Nat) (h0 : 0 < n) (hn : n ≤ 9223372036854775807) (w : World) :
    Calls Tryz.prog 35 #[.int .i64 x, .int .i64 n] w fun e w' => ∃ k : Nat, e = .returned (.int .i64 k) ∧ k < n ∧ w' = w := by
  have h1 : decide ((n : Int) < 1) = false := decide_eq_false (by omega)
  have hne : ((n : Int) == 0) = false := by simp; omega
  have hb : -(n : Int) < x.tmod n ∧ x.tmod n < n := by
    have e := Int.tmod_lt_of_pos x (show (0 : Int) < n by omega)
    refine ⟨?_, e⟩
    have := Int.tmod_lt_of_pos (-x) (show (0 : Int) < n by omega)
    rw [Int.neg_tmod] at this
    omega
  go_enter Tryz.func35, Tryz.ntmps35
  go_wp2
  · rename_i hs
    go_ret
    exact ⟨(x.tmod n + n).toNat, by rw [Int.toNat_of_nonneg (by omega)]; rfl, by omega, rfl⟩
  · rename_i hs
    go_ret
    exact ⟨(x.tmod n).toNat, by rw [Int.toNat_of_nonneg (by omega)]; rfl, by omega, rfl⟩
theorem own_put {W : World} {B e g n c : Nat} {xs : List Value} (h : W.ownsRow B e 1 (.slice (some ⟨g, 0, none⟩) n c) n xs) (k : Nat) (hk : k < n) (u : Value) :
    (W.setCell ⟨g, k, none⟩ u).ownsRow B e 1 (.slice (some ⟨g, 0, none⟩) n c) n (xs.set k u) := by
  obtain ⟨hl, h⟩ := h
  refine ⟨by rw [List.length_set]; exact hl, ?_⟩
  rcases h with ⟨h, h2⟩ | ⟨g', cap, cur, e1, hb, hg, h1, h2, h3, h4⟩
  · omega
  · cases e1
    refine .inr ⟨g, c, cur.setIfInBounds k u, rfl, hb, heap_setCell_same W g k _ _ _ hg, h1, h2, by simpa using h3, ?_⟩
    rw [Array.toList_setIfInBounds, List.take_set, h4]
theorem own_cellk {W : World} {B e g n c : Nat} {xs : List Value} (h : W.ownsRow B e 1 (.slice (some ⟨g, 0, none⟩) n c) n xs) (k : Nat) (hk : k < n) : W.cell? ⟨g, k, none⟩ = xs[k]? ∧ W.frozen? ⟨g, k, none⟩ = false := by
  obtain ⟨hl, h⟩ := h
  rcases h with ⟨h, h2⟩ | ⟨g', cap, cur, e1, hb, hg, h1, h2, h3, h4⟩
  · omega
  · cases e1
    refine ⟨?_, frozen_of_row W g k _ _ hg⟩
    rw [cell_of_row W g k _ _ _ hg, ← h4, List.getElem?_take, if_pos (by omega), Array.getElem?_toList]
theorem xor_other (a b : Nat) (ha : a < 256) (hb : b < 256) (h0 : b ≠ 0) : ∃ x : Nat, bits .xor .u8 (a : Int) (b : Int) = (x : Int) ∧ x < 256 ∧ x ≠ a := by
  refine ⟨a ^^^ b, u8_xor_nat a b ha hb, Nat.xor_lt_two_pow (n := 8) ha hb, fun e => h0 ?_⟩
  have : a ^^^ (a ^^^ b) = a ^^^ a := by rw [e]
  rw [← Nat.xor_assoc, Nat.xor_self, Nat.zero_xor] at this
  exact this
set_option maxRecDepth 100000 in
set_option maxHeartbeats 8000000 in
theorem refused_any {w : World} {mb : Nat} {m : Img} (h : MAt w mb m) (hdt : ∀ x ∈ m.data, x < 256) {vo vd : Value} {s : St} (hs : StAt w vo vd s) (hss : s.ops.length ≤ 140737488355328) {vb : Value} {b : List Nat} (hv : Bytes w vb b) (hbn : b.length ≤ 140737488351232) (hb0 : 0 < b.length) (hlk : (lookN b).2 = 0)
    (at_ : Int) (by_ : Nat) (hby : by_ < 256) (hby0 : by_ ≠ 0) :
    Calls Tryz.prog 17 #[.pointer (some ⟨mb, 0, none⟩), stV vo vd s, vb, .agg #[.int .i64 at_, .int .u8 by_]] w fun e w' => e = .returned (.bool true) ∧ Below w.heap.size w w' := by
  have hmx := mfollows
  have hz51 := zeroQ51
  have hbs1 := bs24_1
  obtain ⟨i5, hi5, hi50, hi51, hi52⟩ := info_parts inf5
  obtain ⟨ao, co, rfl, -⟩ := hs.o.1
  obtain ⟨ad, cd, rfl, -⟩ := hs.d.1
  obtain ⟨ab, cb, rfl, hbc, hbm, -, hbp⟩ := hv.opened
  obtain ⟨gb, ob, rfl, hgb, hcb⟩ := hbp hb0
  obtain ⟨Ws, hWs⟩ : ∃ Ws, Ws = w.alloc (.cells #[.int .u8 s.life, .int .u32 s.pc, .int .u32 s.sp, .slice ao s.ops.length co, .slice ad s.data.length cd, .int .u32 s.value, .int .u8 s.fault] 32) := ⟨_, rfl⟩
  have hbs : Below w.heap.size w Ws := by rw [hWs]; exact Bel.new _ _
  have hss2 : Ws.heap.size = w.heap.size + 1 := by rw [hWs]; simp
  have hSs : StB Ws w.heap.size (.slice ao s.ops.length co) (.slice ad s.data.length cd) s := StB.row (by rw [hWs]; exact heap_alloc_new _ _)
  obtain ⟨W0, hW0⟩ : ∃ W0, W0 = Ws.alloc (.cells #[.int .i64 at_, .int .u8 by_] 53) := ⟨_, rfl⟩
  have hb1 : Below Ws.heap.size Ws W0 := by rw [hW0]; exact Bel.new _ _
  have hT : W0.heap[w.heap.size + 1]? = some (.cells #[.int .i64 at_, .int .u8 by_] 53 (0, 0)) := by rw [hW0, ← hss2]; exact heap_alloc_new _ _
  have HL := Lib.hid (show LwA w W0 w.heap.size (.slice ao s.ops.length co) (.slice ad s.data.length cd) s from ⟨Bel.tr hbs hb1, hSs.below hb1⟩)
  have HT := Lib.hid hT
  have HM := Lib.hid (h.below HL.out.b)
  have HS := Lib.hid hs
  have HV := Lib.hid hv
  have HCb := Lib.hid (fun k (hk : k < b.length) => (HL.out.b.cell (p := ⟨gb, ob + k, none⟩) hgb).trans (hcb k hk))
  have HDt := Lib.hid hdt
  have HLk := Lib.hid hlk
  have hlb : gb < W0.heap.size := Nat.lt_of_lt_of_le hgb HL.out.b.size
  have hne : ((b.length : Int) == 0) = false := int_beq_ne (a := b.length) (b := 0) (by omega)
  clear h hs hv hbs hb1 hT hSs hss2 hbp hcb hdt hlk
  unfold stV
  go_enter Tryz.func17, Tryz.ntmps17
  go_wp2_with fail
  rw [← hWs, ← hW0]
  clear hWs hW0
  go_loopw [9, 10] (fun c i wr => ∃ k : Nat, k ≤ b.length ∧ i = .int .i64 k ∧ wr.ownsRow W0.heap.size 5 1 c k (encN .u8 (b.take k)) ∧ Below W0.heap.size W0 wr) (fun _ i _ => b.length - (intOf i).toNat)
  case atStart => exact ⟨0, Nat.zero_le _, rfl, World.ownsRow_nil _ _ _ _, Below.refl _ _⟩
  case round =>
    obtain ⟨k, hk, rfl, ho, hbr⟩ := hrel
    obtain ⟨W, hW⟩ : ∃ W : World, W = wr := ⟨_, rfl⟩
    rw [← hW] at ho hbr ⊢
    clear hW
    have HO := Lib.hid ho
    have HB := Lib.hid hbr
    clear ho hbr
    by_cases hlt : k < b.length
    · have hki : (k : Int) < (b.length : Int) := by omega
      have hk0 : (0 : Int) ≤ (k : Int) := by omega
      have y1 := (HB.out.cell (p := ⟨gb, ob + k, none⟩) hlb).trans (HCb.out k hlt)
      have HTk := Lib.hid (take_snocD b k 0 hlt)
      have HRow := Lib.hid (own_base HO.out)
      have HOw := Lib.hid (show ∀ g', u9.ownBlock = some g' → W0.heap.size ≤ g' from fun g' e => (HO.out.lt g' e).1)
      generalize b.getD k 0 = x at *
      go_wp2_with ((with_reducible refine wpList_append1B (o := ⟨some 33, .call { callee := .builtin .append, args := #[.tmp 27, .tmp 32], argTypes := #[24, 24] }, _, _, _, none⟩) rfl _ _ 24 rfl 5 i5 (.int .u8 0) 1 1 Tryz.underlying24 hi5 hi50 hi51 hi52 ?_ ?_ _ _ _ HRow.out _ _ W.heap.size ?_ ?_ ?_ ?_ ?_ ?_ ?_ ?_); rfl; decide; rfl; rfl; rfl; rfl; (simp [Value.oneCell']); (unfold maxLen; omega); omega; intro g9 c9 w9 o9 r9 hl9)
      go_roundw
      case rel => exact ⟨k + 1, by omega, by go_num, by
          rw [HTk.out, encN_append]
          exact own_from o9 (fun g' e => by
            rcases r9.2 g' e with h' | h'
            · exact HOw.out g' h'
            · exact Nat.le_trans HB.out.size h'), HB.out.grown r9.1 HB.out.size (fun g' e => HOw.out g' e)⟩
      case measure => simp [intOf]; omega
    · obtain rfl : k = b.length := by omega
      rw [List.take_length] at HO
      have hge : ¬ ((b.length : Nat) : Int) < ((b.length : Nat) : Int) := by omega
      obtain ⟨g9, c9, rfl, hg9, hg9l⟩ := own_start HO.out hb0
      have HP := Lib.hid (fun W => pick_any at_ b.length hb0 (by omega) W)
      have HT1 := Lib.hid ((HB.out.block (w.heap.size + 1) (World.block_lt_of_cell? W0 ⟨w.heap.size + 1, 0, none⟩ (cell_of_row W0 (w.heap.size + 1) 0 _ _ _ HT.out))).trans HT.out)
      have t0 := cell_of_row W (w.heap.size + 1) 0 _ _ _ HT1.out
      have t1 := cell_of_row W (w.heap.size + 1) 1 _ _ _ HT1.out
      go_wp2_with fail
      refine (HP.out _).mono ?_
      rintro e W2 ⟨kk, rfl, hkk, rfl⟩
      have HO2 := Lib.hid HO.out
      obtain ⟨z1, z2⟩ := own_cellk HO2.out kk hkk
      rw [encN_at _ b kk hkk] at z1
      have hal := HV.out.lt kk
      obtain ⟨x, hx, hxl, hxn⟩ := xor_other (b.getD kk 0) by_ hal hby hby0
      have HRt := Lib.hid (fun (delta mark : Nat) (base : List Nat) => read_turned (m := moOf m) HV.out.2 HLk.out hkk hxl hxn delta mark base)
      have hk0 : (0 : Int) ≤ (kk : Int) := by omega
      have hki : (kk : Int) < (b.length : Int) := by omega
      have HOp := Lib.hid (show World.ownsRow (W2.drew.setCell ⟨g9, kk, none⟩ (.int .u8 x)) W0.heap.size 5 1 (.slice (some ⟨g9, 0, none⟩) b.length c9) b.length (encN .u8 (b.set kk x)) from by
        have := own_put (own_below HO2.out (Below.refl _ _).drew) kk hkk (.int .u8 x)
        rw [encN_set] at this
        exact this)
      have HBp := Lib.hid (show Below W0.heap.size W0 (W2.drew.setCell ⟨g9, kk, none⟩ (.int .u8 x)) from HB.out.drew.setCell (p := ⟨g9, kk, none⟩) hg9 _)
      have HSl := Lib.hid (show (b.set kk x).length = b.length from List.length_set)
      have HXl := Lib.hid (show ∀ y ∈ b.set kk x, y < 256 from fun y hy => by
        rcases List.mem_or_eq_of_mem_set hy with h | rfl
        · exact HV.out.2 y h
        · exact hxl)
      generalize b.getD kk 0 = a at *
      clear hal hxl hxn
      generalize b.set kk x = bs at *
      go_wp2_with fail
      refine wp_region_still_tail 10 hmx (by kernel_rfl) ?_
      simp only [List.take_succ_cons, List.take_zero, List.drop_succ_cons, List.drop_zero]
      repeat still_step
      refine wpStill_nil ?_
      change wpList _ _ _ _ _ W2.drew
      obtain ⟨W3, hW3⟩ : ∃ W3, W3 = (W2.setCell ⟨g9, kk, none⟩ (.int .u8 x)).drew := ⟨_, rfl⟩
      rw [show W2.drew.setCell ⟨g9, kk, none⟩ (.int .u8 x) = W3 from hW3.symm] at HOp HBp
      have HL3 := Lib.hid (HL.out.below HBp.out)
      have HM3 := Lib.hid (HM.out.below HBp.out)
      have hbl : bs.length ≤ 140737488351232 := by rw [HSl.out]; exact hbn
      have HBy := Lib.hid (own_bytes HOp.out HXl.out)
      have HLd := Lib.hid (load_any HM3.out HBy.out hbl HDt.out)
      unfold ReadPost at HLd
      go_wp2_with fail
      rw [← hW3]
      clear hW3 z1 z2 t0 t1
      refine HLd.out.mono ?_
      rintro e w4 ⟨hb4, ⟨pl, er, hE, rfl⟩ | ⟨y, vo, vd, hE, rfl, hO⟩⟩
      case inr =>
        obtain ⟨e', he, -⟩ := HRt.out 0 0 (moOf m).fresh
        rw [he] at hE; cases hE
      have her0 : er ≠ 0 := read_small hE
      have her : ((er : Int) != 0) = true := by rw [bne, show ((er : Int) == 0) = false from int_beq_ne her0]; rfl
      obtain ⟨W4, hW4⟩ : ∃ W4, W4 = w4.alloc (.cells #[.int .u8 0, .int .u32 0, .int .u32 0, .slice none 0 0, .slice none 0 0, .int .u32 0, .int .u8 0] 32) := ⟨_, rfl⟩
      have hbb : Below w4.heap.size w4 W4 := by rw [hW4]; exact Bel.new _ _
      have HL4p := Lib.hid (HL3.out.below hb4)
      have HL4 := Lib.hid (HL4p.out.below hbb)
      have HM4 := Lib.hid ((HM3.out.below hb4).below hbb)
      have HBy4 := Lib.hid ((HBy.out.below hb4).below hbb)
      have hq1 := World.block_lt_of_cell? _ _ HL4p.out.s.c0
      have HAp := Lib.hid (apply_any HM4.out (HS.out.below HL4.out.b) hss HBy4.out hbl)
      unfold ApplyPost ReadPost stV at HAp
      obtain ⟨-, ⟨a0, a1, a2, a3, a4, a5, a6⟩⟩ := HL4p.out
      unfold zst
      clear hb4 hbb hE HLd her0
      go_wp2_with fail
      rw [← hW4]
      clear hW4 a0 a1 a2 a3 a4 a5 a6
      refine HAp.out.mono ?_
      intro e w5 h5
      have key : Below W4.heap.size W4 w5 ∧ ∃ (p2 : Int) (e2 : Nat), e2 ≠ 0 ∧ e = .returned (.tuple #[.agg zst, .int .i64 p2, .int .i64 e2]) := by
        rcases h5 with ⟨-, hb5, rfl⟩ | ⟨-, hb5, ⟨pl2, er2, hE2, rfl⟩ | ⟨y, vo, vd, hE2, rfl, hO⟩⟩
        · exact ⟨hb5, 0, 3, by decide, rfl⟩
        · exact ⟨hb5, pl2, er2, read_small hE2, rfl⟩
        · obtain ⟨e', he, -⟩ := HRt.out 1 (markS (moOf m) s) s.data
          rw [he] at hE2; cases hE2
      obtain ⟨hb5, p2, e2, he2, rfl⟩ := key
      have her2 : ((e2 : Int) != 0) = true := by rw [bne, show ((e2 : Int) == 0) = false from int_beq_ne he2]; rfl
      have HB5 := Lib.hid (Bel.tr HL4.out.b hb5)
      clear h5 hb5 he2 HAp
      unfold zst
      go_wp2_with fail
      go_ret
      exact ⟨rfl, Bel.al HB5.out _⟩
end Go.Proofs.YtflpbgdghaaiaaaGreat
