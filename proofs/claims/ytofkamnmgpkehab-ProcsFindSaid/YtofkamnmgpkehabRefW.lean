import Derived.Test.YtofkamnmgpkehabRefP
import Derived.Test.YtofkamnmgpkehabEncodeRef
import Derived.Deep.RegionHeld3
/- The document's Begin, End, Inside, Of: the walks. -/
namespace Go.Proofs.Ytofkamnmgpkehab
open Go.RowKit
set_option maxRecDepth 100000 in
set_option maxHeartbeats 1000000 in
theorem refbegin_any (v : Value) (code : List (Nat × Nat)) (i : Nat) (hi : i < code.length) (w : World) (hv : Instrs w v code) :
    Calls Try.prog 54 #[v, .int .i64 i] w fun e w' => (∃ b : Nat, e = .returned (.int .i64 b) ∧ IsBegin code i b) ∧ w' = w := by
  obtain ⟨a, cap, rfl, hlc, hcm, hnil, hp⟩ := hv.opened
  have hlm : code.length ≤ 9223372036854775807 := by unfold maxLen at hcm; omega
  obtain ⟨b, off, rfl, hbl, hc⟩ := hp (by omega)
  have Hc := Lib.hid hc
  clear hp hnil hv hc hcm
  go_enter Try.func54, Try.ntmps54
  go_wp2
  go_loopw [1] (fun x wr => ∃ k : Nat, k ≤ i ∧ x = .int .i64 k ∧ (∀ j, k < j → j ≤ i → opAt code j ≠ 3) ∧ wr = w) (fun x _ => (intOf x).toNat)
  case atStart => exact ⟨i, Nat.le_refl _, rfl, fun j h1 h2 => by omega, rfl⟩
  case round =>
    obtain ⟨k, hk, rfl, hno, rfl⟩ := hrel
    have hk1 : k < code.length := by omega
    have hq : wr.cell? ⟨b, off + k * 2, none⟩ = some (.int .u8 (opAt code k)) := (Hc.out k hk1).1
    have hk0 : (0 : Int) ≤ (k : Int) := by omega
    have hki : (k : Int) < (code.length : Int) := by omega
    have Hno := Lib.hid hno
    clear hno
    by_cases h3 : opAt code k = 3
    · rw [h3] at hq
      go_wp2
      go_ret
      exact ⟨⟨k, rfl, hk, .inl h3, Hno.out⟩, rfl⟩
    · have hne : ((opAt code k : Int) != 3) = true := bne_iff_ne.2 (by omega)
      by_cases hz : k = 0
      · subst hz
        have d0 : decide ((0 : Int) < ((0 : Nat) : Int)) = false := decide_eq_false (by omega)
        rw [Nat.zero_mul, Nat.add_zero] at hq
        generalize opAt code 0 = o at *
        go_wp2
        go_ret
        exact ⟨⟨0, rfl, hk, .inr rfl, Hno.out⟩, rfl⟩
      · have d0 : decide ((0 : Int) < (k : Int)) = true := decide_eq_true (by omega)
        have Hn2 := Lib.hid (show ∀ j, k - 1 < j → j ≤ i → opAt code j ≠ 3 from fun j h1 h2 => by
          rcases Nat.lt_or_ge k j with c | c
          · exact Hno.out j c h2
          · have : j = k := by omega
            rw [this]; exact h3)
        obtain ⟨m, rfl⟩ : ∃ m, k = m + 1 := ⟨k - 1, by omega⟩
        generalize opAt code (m + 1) = o at hq hne h3
        go_wp2
        go_roundw
        case rel => exact ⟨m, by omega, by go_num, Hn2.out, trivial⟩
        case measure => simp [intOf]
set_option maxRecDepth 100000 in
set_option maxHeartbeats 1000000 in
theorem refend_any (v : Value) (code : List (Nat × Nat)) (i : Nat) (hi : i < code.length) (w : World) (hv : Instrs w v code) :
    Calls Try.prog 42 #[v, .int .i64 i] w fun e w' => (∃ b : Nat, e = .returned (.int .i64 b) ∧ IsEnd code i b) ∧ w' = w := by
  obtain ⟨a, cap, rfl, hlc, hcm, hnil, hp⟩ := hv.opened
  have hlm : code.length ≤ 9223372036854775807 := by unfold maxLen at hcm; omega
  obtain ⟨b, off, rfl, hbl, hc⟩ := hp (by omega)
  have Hc := Lib.hid hc
  clear hp hnil hv hc hcm
  go_enter Try.func42, Try.ntmps42
  go_wp2
  go_loopw [5] (fun x wr => ∃ k : Nat, i < k ∧ k ≤ code.length ∧ x = .int .i64 k ∧ (∀ j, i < j → j < k → opAt code j ≠ 3) ∧ wr = w) (fun x _ => code.length - (intOf x).toNat)
  case atStart => exact ⟨i + 1, by omega, by omega, by go_num, fun j h1 h2 => by omega, rfl⟩
  case round =>
    obtain ⟨k, hik, hk, rfl, hno, rfl⟩ := hrel
    have Hno := Lib.hid hno
    clear hno
    by_cases hlt : k < code.length
    · have hq : wr.cell? ⟨b, off + k * 2, none⟩ = some (.int .u8 (opAt code k)) := (Hc.out k hlt).1
      have hk0 : (0 : Int) ≤ (k : Int) := by omega
      have hki : (k : Int) < (code.length : Int) := by omega
      by_cases h3 : opAt code k = 3
      · rw [h3] at hq
        go_wp2
        go_ret
        exact ⟨⟨k, rfl, hik, hk, .inr h3, Hno.out⟩, rfl⟩
      · have hne : ((opAt code k : Int) != 3) = true := bne_iff_ne.2 (by omega)
        have Hn2 := Lib.hid (show ∀ j, i < j → j < k + 1 → opAt code j ≠ 3 from fun j h1 h2 => by
          rcases Nat.lt_or_ge j k with c | c
          · exact Hno.out j h1 c
          · have : j = k := by omega
            rw [this]; exact h3)
        generalize opAt code k = o at hq hne h3
        go_wp2
        go_roundw
        case rel => exact ⟨k + 1, by omega, by omega, by go_num, Hn2.out, trivial⟩
        case measure => simp [intOf]; omega
    · obtain rfl : k = code.length := by omega
      go_wp2
      go_ret
      exact ⟨⟨code.length, rfl, hik, hk, .inl rfl, Hno.out⟩, rfl⟩
set_option maxRecDepth 100000 in
set_option maxHeartbeats 1000000 in
theorem refinside_any (v : Value) (code : List (Nat × Nat)) (hl : code.length ≤ 16384) (x : Nat) (hx : x < 4294967296) (w : World) (hv : Instrs w v code) :
    Calls Try.prog 41 #[v, .int .u32 x] w fun e w' => e = .returned (.bool (decide (x < code.length) && (opAt code x != 3))) ∧ w' = w := by
  obtain ⟨a, cap, rfl, hlc, hcm, hnil, hp⟩ := hv.opened
  have Hp := Lib.hid hp
  clear hp hnil hv hcm
  have hw1 : IntKind.u64.wrap (x : Int) = (x : Int) := by rw [IntKind.wrap_u64]; omega
  have hw2 : IntKind.u64.wrap (code.length : Int) = (code.length : Int) := by rw [IntKind.wrap_u64]; omega
  have hw3 : IntKind.i64.wrap (x : Int) = (x : Int) := IntWalk.i64_in _ (by omega)
  by_cases hlt : x < code.length
  · obtain ⟨b, off, rfl, hbl, hc⟩ := Hp.out (by omega)
    have hq : w.cell? ⟨b, off + x * 2, none⟩ = some (.int .u8 (opAt code x)) := (hc x hlt).1
    have hk0 : (0 : Int) ≤ (x : Int) := by omega
    have hki : (x : Int) < (code.length : Int) := by omega
    have hq3 : ((opAt code x : Int) != 3) = (opAt code x != 3) := by
      rw [Bool.eq_iff_iff, bne_iff_ne, bne_iff_ne]; omega
    rw [decide_eq_true hlt, Bool.true_and]
    clear hc
    generalize opAt code x = o at *
    go_enter Try.func41, Try.ntmps41
    go_wp2
    go_ret
    exact ⟨rfl, rfl⟩
  · have hd : decide ((x : Int) < (code.length : Int)) = false := decide_eq_false (by omega)
    rw [decide_eq_false hlt]
    go_enter Try.func41, Try.ntmps41
    go_wp2
    go_ret
    exact ⟨by simp, rfl⟩
/-- How many enters the first n instructions have. -/
def enters (code : List (Nat × Nat)) : Nat → Nat
  | 0 => 0
  | k + 1 => enters code k + if opAt code k = 3 then 1 else 0
theorem enters_ps (code : List (Nat × Nat)) (k : Nat) : enters code k = (psTo code k).length := by
  induction k with
  | zero => rfl
  | succ k ih =>
    show enters code k + _ = (endAt _ _).length
    rw [endAt_length, ih]
    unfold opAt
    split
    · simp
    · rfl
theorem ofTo_at (code : List (Nat × Nat)) (n x : Nat) (hx : x < n) : (ofTo code n).getD x 0 = (psTo code (x + 1)).length - 1 := by
  induction n with
  | zero => omega
  | succ n ih =>
    show (ofTo code n ++ [_]).getD x 0 = _
    rw [getD_snoc, ofTo_length]
    by_cases h : x < n
    · rw [if_pos h, ih h]
    · have : x = n := by omega
      rw [if_neg h, if_pos this, this]
theorem enters_le (code : List (Nat × Nat)) (k : Nat) : enters code k ≤ k := by rw [enters_ps]; exact psTo_le code k
set_option maxRecDepth 100000 in
set_option maxHeartbeats 1000000 in
theorem refof_any (v : Value) (code : List (Nat × Nat)) (hl : code.length ≤ 16384) (h3 : (code.getD 0 (0, 0)).1 = 3) (x : Nat) (hx : x < 4294967296) (w : World) (hv : Instrs w v code) :
    Calls Try.prog 24 #[v, .int .u32 x] w fun e w' => e = .returned (.int .i64 (ofN (ofTo code code.length) x)) ∧ w' = w := by
  obtain ⟨a, cap, rfl, hlc, hcm, hnil, hp⟩ := hv.opened
  have Hp := Lib.hid hp
  clear hp hnil hv hcm
  have hw1 : IntKind.u64.wrap (x : Int) = (x : Int) := by rw [IntKind.wrap_u64]; omega
  have hw2 : IntKind.u64.wrap (code.length : Int) = (code.length : Int) := by rw [IntKind.wrap_u64]; omega
  have hw3 : IntKind.i64.wrap (x : Int) = (x : Int) := IntWalk.i64_in _ (by omega)
  unfold ofN
  rw [ofTo_length]
  by_cases hlt : x < code.length
  · obtain ⟨b, off, rfl, hbl, hc⟩ := Hp.out (by omega)
    have Hc := Lib.hid hc
    have hd : decide ((code.length : Int) ≤ (x : Int)) = false := decide_eq_false (by omega)
    have hxi : (x : Int) < (code.length : Int) := by omega
    have HE := Lib.hid (show ((ofTo code code.length).getD x 0 : Int) = (enters code (x + 1) : Int) - 1 by
      rw [ofTo_at code _ x hlt, enters_ps]
      have := psTo_pos h3 x
      omega)
    rw [if_pos hlt]
    clear hc
    generalize ((ofTo code code.length).getD x 0 : Int) = R at *
    go_enter Try.func24, Try.ntmps24
    go_wp2
    go_loopw [5, 6] (fun n i wr => ∃ k : Nat, k ≤ x + 1 ∧ i = .int .i64 k ∧ n = .int .i64 ((enters code k : Int) - 1) ∧ wr = w) (fun _ i _ => x + 1 - (intOf i).toNat)
    case atStart => exact ⟨0, by omega, rfl, rfl, rfl⟩
    case round =>
      obtain ⟨k, hk, rfl, rfl, rfl⟩ := hrel
      by_cases hkx : k ≤ x
      · have hq : wr.cell? ⟨b, off + k * 2, none⟩ = some (.int .u8 (opAt code k)) := (Hc.out k (by omega)).1
        have hk0 : (0 : Int) ≤ (k : Int) := by omega
        have hki : (k : Int) < (code.length : Int) := by omega
        have hkx2 : (k : Int) ≤ (x : Int) := by omega
        have hle := enters_le code k
        have hs : enters code (k + 1) = enters code k + if opAt code k = 3 then 1 else 0 := rfl
        by_cases h3 : opAt code k = 3
        · rw [if_pos h3] at hs
          rw [h3] at hq
          have Hs := Lib.hid hs
          clear hs
          generalize enters code k = ek at *
          go_wp2
          go_roundw
          case rel => exact ⟨k + 1, by omega, by go_num, by rw [Hs.out]; go_num, trivial⟩
          case measure => simp [intOf]; omega
        · rw [if_neg h3] at hs
          have hne : ((opAt code k : Int) == 3) = false := beq_eq_false_iff_ne.2 (by omega)
          have Hs := Lib.hid hs
          clear hs
          generalize opAt code k = o at hq hne h3
          generalize enters code k = ek at *
          go_wp2
          go_roundw
          case rel => exact ⟨k + 1, by omega, by go_num, by rw [Hs.out]; go_num, trivial⟩
          case measure => simp [intOf]; omega
      · obtain rfl : k = x + 1 := by omega
        have hd2 : decide (((x + 1 : Nat) : Int) ≤ (x : Int)) = false := decide_eq_false (by omega)
        generalize enters code (x + 1) = E at *
        go_wp2
        go_ret
        exact ⟨by rw [HE.out]; rfl, rfl⟩
  · have hd : decide ((code.length : Int) ≤ (x : Int)) = true := decide_eq_true (by omega)
    rw [if_neg hlt]
    go_enter Try.func24, Try.ntmps24
    go_wp2
    go_ret
    exact ⟨rfl, rfl⟩
end Go.Proofs.Ytofkamnmgpkehab
/- The document's test of an instruction, Find: the walks. -/
namespace Go.Proofs.Ytofkamnmgpkehab
open Go.RowKit
set_option maxRecDepth 100000 in
set_option maxHeartbeats 4000000 in
theorem refinstr_any (v : Value) (code : List (Nat × Nat)) (hl : code.length ≤ 16384) (i : Nat) (hi : i < code.length) (w : World) (hv : Instrs w v code) :
    Calls Try.prog 40 #[v, .int .i64 i] w fun e w' => (∃ b t : Nat, e = .returned (.int .i64 (refFault code i b t)) ∧ IsBegin code i b ∧ IsEnd code b t) ∧ Below w.heap.size w w' := by
  have hlt := hv.lt i
  have hz := zero26
  unfold zeroRow at hz
  obtain ⟨a, cap, rfl, hlc, hcm, hnil, hp⟩ := hv.opened
  obtain ⟨b, off, rfl, hbl, hc⟩ := hp (by omega)
  have Hc := Lib.hid hc
  have Hbl := Lib.hid hbl
  have hx0 := hc i hi
  have hk0 : (0 : Int) ≤ (i : Int) := by omega
  have hki : (i : Int) < (code.length : Int) := by omega
  have HV := Lib.hid hv
  obtain ⟨x, hx⟩ : ∃ x, x = code.getD i (0, 0) := ⟨_, rfl⟩
  have Hx := Lib.hid hx
  rw [← hx] at hlt hx0
  obtain ⟨o, y⟩ := x
  simp only at hlt hx0
  obtain ⟨q0, q1⟩ := hx0
  have h1 := refinfo_any o hlt.1
  unfold rowVal rowCells at h1
  have hk6 : o = 3 → kindOf o = 6 := fun h => by rw [h]; decide +kernel
  have hk7 : o = 4 → kindOf o = 7 := fun h => by rw [h]; decide +kernel
  generalize hf1 : wordOf o = f1 at *
  generalize hf2 : widthOf o = f2 at *
  generalize hf3 : mostOf o = f3 at *
  generalize hf4 : takesOf o = f4 at *
  generalize hf5 : givesOf o = f5 at *
  generalize hK : kindOf o = K at *
  have HK := Lib.hid hK
  have HK6 := Lib.hid hk6
  have HK7 := Lib.hid hk7
  have H1 := Lib.hid h1
  have Hlt2 := Lib.hid hlt
  clear h1 hc hp hnil hcm hv hlt hbl hx hf1 hf2 hf3 hf4 hf5 hK hk6 hk7
  go_enter Try.func40, Try.ntmps40
  go_wp2_with fail
  refine (H1.out _).mono ?_
  rintro e w1 ⟨rfl, hb1⟩
  have hs1 := Bel.lt hb1
  have hcb0 : w1.cell? ⟨w.heap.size, 0, none⟩ = some (.int .u8 o) := (hb1.cell (p := ⟨w.heap.size, 0, none⟩) (by simp)).trans (by simp [go_sem])
  have hcb1 : w1.cell? ⟨w.heap.size, 1, none⟩ = some (.int .u32 y) := (hb1.cell (p := ⟨w.heap.size, 1, none⟩) (by simp)).trans (by simp [go_sem])
  have hbw := Bel.of hb1
  have HV1 := Lib.hid (HV.out.below hbw)
  have HVx := Lib.hid (fun (C : Array Value) => HV1.out.below (Bel.new w1 (.cells C 99)))
  have C0 : ∀ C, (w1.alloc (.cells C 99)).cell? ⟨w.heap.size, 0, none⟩ = some (.int .u8 o) := fun C => (World.cell?_of_block (a := ⟨w.heap.size, 0, none⟩) (Below.heap_alloc w1 _ w.heap.size hs1)).trans hcb0
  have C1 : ∀ C, (w1.alloc (.cells C 99)).cell? ⟨w.heap.size, 1, none⟩ = some (.int .u32 y) := fun C => (World.cell?_of_block (a := ⟨w.heap.size, 1, none⟩) (Below.heap_alloc w1 _ w.heap.size hs1)).trans hcb1
  have Hbel := Lib.hid (fun (C : Array Value) => Bel.al hbw (.cells C 99))
  have Hbk := Lib.hid hbw
  clear hb1 hcb0 hcb1 hbw HV
  go_wp2_with fail
  refine (refbegin_any _ code i hi _ (HVx.out _)).mono ?_
  rintro e w2 ⟨⟨bg, rfl, hbeg⟩, hw2⟩
  have hw2' := hw2.symm
  subst hw2'
  clear hw2
  have hbl2 : bg < code.length := Nat.lt_of_le_of_lt hbeg.1 hi
  go_wp2_with fail
  refine (refend_any _ code bg hbl2 _ (HVx.out _)).mono ?_
  rintro e w2 ⟨⟨t, rfl, hend⟩, hw2⟩
  have hw2' := hw2.symm
  subst hw2'
  clear hw2
  have hq := ((Bel.al Hbk.out (.cells #[.string ⟨(f1).toArray⟩, .int .i64 (f2), .int .u32 (f3), .int .i64 (f4), .int .i64 (f5), .int .u8 K] 99)).cell (p := ⟨b, off + bg * 2 + 1, none⟩) Hbl.out).trans (Hc.out bg hbl2).2
  have c0 := C0 #[.string ⟨(f1).toArray⟩, .int .i64 (f2), .int .u32 (f3), .int .i64 (f4), .int .i64 (f5), .int .u8 K]
  have c1 := C1 #[.string ⟨(f1).toArray⟩, .int .i64 (f2), .int .u32 (f3), .int .i64 (f4), .int .i64 (f5), .int .u8 K]
  have c5 : (w1.alloc (.cells #[.string ⟨(f1).toArray⟩, .int .i64 (f2), .int .u32 (f3), .int .i64 (f4), .int .i64 (f5), .int .u8 K] 99)).cell? ⟨w1.heap.size, 5, none⟩ = some (.int .u8 K) := by simp [go_sem]
  have HB := Lib.hid (Hbel.out #[.string ⟨(f1).toArray⟩, .int .i64 (f2), .int .u32 (f3), .int .i64 (f4), .int .i64 (f5), .int .u8 K])
  have HR := Lib.hid (show refFault code i bg t = if o = 3 ∧ (y = 0 ∨ y % 4 ≠ 0 ∨ 4096 < y) then 131 else if o = 4 ∧ y ≠ (code.getD bg (0, 0)).2 then 131
    else if (K = 3 ∨ K = 2) ∧ (y ≤ bg ∨ t ≤ y) then 132 else if i + 1 = t ∧ K ≠ 3 ∧ K ≠ 4 ∧ K ≠ 7 ∧ K ≠ 8 then 133 else 0 from by
      unfold refFault opAt; rw [← Hx.out, ← HK.out])
  have HBG := Lib.hid (show IsBegin code i bg ∧ IsEnd code bg t from ⟨hbeg, hend⟩)
  have hy := Hlt2.out.2
  have ht1 : t ≤ 16384 := by have := hend.2.1; omega
  have htb : bg < t := hend.1
  have hK6 := HK6.out
  have hK7 := HK7.out
  clear hbeg hend q0 q1 C0 C1 HVx HV1 Hbel Hbk Hlt2 H1 Hc Hx HK HK6 HK7
  have hit : i ≤ 16384 := by omega
  have hkb0 : (0 : Int) ≤ (bg : Int) := by omega
  have hkb1 : (bg : Int) < (code.length : Int) := by omega
  clear hbl2
  generalize (code.getD bg (0, 0)).2 = yb at *
  generalize w1.alloc (.cells #[.string ⟨(f1).toArray⟩, .int .i64 (f2), .int .u32 (f3), .int .i64 (f4), .int .i64 (f5), .int .u8 K] 99) = W2 at *
  have m1 : IntKind.u64.wrap (y : Int) = (y : Int) := by rw [IntKind.wrap_u64]; omega
  have m2 : IntKind.u64.wrap (bg : Int) = (bg : Int) := by rw [IntKind.wrap_u64]; omega
  have m3 : IntKind.u64.wrap (t : Int) = (t : Int) := by rw [IntKind.wrap_u64]; omega
  have m4 : IntKind.i64.wrap ((t : Int) - 1) = (t : Int) - 1 := IntWalk.i64_in _ (by omega)
  by_cases c1 : o = 3
  · have e3 : ((o : Int) == 3) = true := by simp; omega
    have e4 : ((o : Int) == 4) = false := by simp; omega
    have hk6 := hK6 c1
    have g3 : ((K : Int) == 3) = false := by simp; omega
    have g2 : ((K : Int) == 2) = false := by simp; omega
    by_cases a1 : y = 0
    · have y0 : ((y : Int) == 0) = true := by simp; omega
      have hr : refFault code i bg t = 131 := by
        rw [HR.out]
        repeat' split
        all_goals first | rfl | (exfalso; omega)
      have Hr := Lib.hid hr
      clear hr
      try clear hK6
      try clear hK7
      try clear k7
      try clear hk6
      try clear hk7
      try clear c4
      try clear a3
      try clear a2
      try clear a1
      try clear c2
      try clear c1
      go_wp2_with fail
      go_ret
      exact ⟨⟨bg, t, by rw [Hr.out]; rfl, HBG.out⟩, HB.out⟩
    · have y0 : ((y : Int) == 0) = false := by simp; omega
      by_cases a2 : y % 4 ≠ 0
      · have y1 : ((y : Int) % 4 != 0) = true := by simp; omega
        have hr : refFault code i bg t = 131 := by
          rw [HR.out]
          repeat' split
          all_goals first | rfl | (exfalso; omega)
        have Hr := Lib.hid hr
        clear hr
        try clear hK6
        try clear hK7
        try clear k7
        try clear hk6
        try clear hk7
        try clear c4
        try clear a3
        try clear a2
        try clear a1
        try clear c2
        try clear c1
        go_wp2_with fail
        go_ret
        exact ⟨⟨bg, t, by rw [Hr.out]; rfl, HBG.out⟩, HB.out⟩
      · have y1 : ((y : Int) % 4 != 0) = false := by simp; omega
        by_cases a3 : 4096 < y
        · have y2 : decide ((4096 : Int) < (y : Int)) = true := decide_eq_true (by omega)
          have hr : refFault code i bg t = 131 := by
            rw [HR.out]
            repeat' split
            all_goals first | rfl | (exfalso; omega)
          have Hr := Lib.hid hr
          clear hr
          try clear hK6
          try clear hK7
          try clear k7
          try clear hk6
          try clear hk7
          try clear c4
          try clear a3
          try clear a2
          try clear a1
          try clear c2
          try clear c1
          go_wp2_with fail
          go_ret
          exact ⟨⟨bg, t, by rw [Hr.out]; rfl, HBG.out⟩, HB.out⟩
        · have y2 : decide ((4096 : Int) < (y : Int)) = false := decide_eq_false (by omega)
          by_cases c4 : i + 1 = t
          · have d4 : ((i : Int) == (t : Int) - 1) = true := by simp; omega
            have b3 : ((K : Int) != 3) = true := by simp; omega
            have b4 : ((K : Int) != 4) = true := by simp; omega
            have b7 : ((K : Int) != 7) = true := by simp; omega
            have b8 : ((K : Int) != 8) = true := by simp; omega
            have hr : refFault code i bg t = 133 := by
              rw [HR.out]
              repeat' split
              all_goals first | rfl | (exfalso; omega)
            have Hr := Lib.hid hr
            clear hr
            try clear hK6
            try clear hK7
            try clear k7
            try clear hk6
            try clear hk7
            try clear c4
            try clear a3
            try clear a2
            try clear a1
            try clear c2
            try clear c1
            go_wp2_with fail
            go_quiet (fail)
            go_wp2_with fail
            go_ret
            exact ⟨⟨bg, t, by rw [Hr.out]; rfl, HBG.out⟩, below_drewN HB.out _⟩
          · have d4 : ((i : Int) == (t : Int) - 1) = false := by simp; omega
            have hr : refFault code i bg t = 0 := by
              rw [HR.out]
              repeat' split
              all_goals first | rfl | (exfalso; omega)
            have Hr := Lib.hid hr
            clear hr
            try clear hK6
            try clear hK7
            try clear k7
            try clear hk6
            try clear hk7
            try clear c4
            try clear a3
            try clear a2
            try clear a1
            try clear c2
            try clear c1
            go_wp2_with fail
            go_quiet (fail)
            go_wp2_with fail
            go_ret
            exact ⟨⟨bg, t, by rw [Hr.out]; rfl, HBG.out⟩, below_drewN HB.out _⟩
  · have e3 : ((o : Int) == 3) = false := by simp; omega
    by_cases c2 : o = 4
    · have e4 : ((o : Int) == 4) = true := by simp; omega
      have hk7 := hK7 c2
      have g3 : ((K : Int) == 3) = false := by simp; omega
      have g2 : ((K : Int) == 2) = false := by simp; omega
      by_cases a1 : y = yb
      · have z1 : ((y : Int) != (yb : Int)) = false := by simp; omega
        by_cases c4 : i + 1 = t
        · have d4 : ((i : Int) == (t : Int) - 1) = true := by simp; omega
          have b3 : ((K : Int) != 3) = true := by simp; omega
          have b4 : ((K : Int) != 4) = true := by simp; omega
          by_cases k7 : K = 7
          · have b7 : ((K : Int) != 7) = false := by simp; omega
            have hr : refFault code i bg t = 0 := by
              rw [HR.out]
              repeat' split
              all_goals first | rfl | (exfalso; omega)
            have Hr := Lib.hid hr
            clear hr
            try clear hK6
            try clear hK7
            try clear k7
            try clear hk6
            try clear hk7
            try clear c4
            try clear a3
            try clear a2
            try clear a1
            try clear c2
            try clear c1
            go_wp2_with fail
            go_quiet (fail)
            go_wp2_with fail
            go_ret
            exact ⟨⟨bg, t, by rw [Hr.out]; rfl, HBG.out⟩, below_drewN HB.out _⟩
          · exact absurd hk7 k7
        · have d4 : ((i : Int) == (t : Int) - 1) = false := by simp; omega
          have hr : refFault code i bg t = 0 := by
            rw [HR.out]
            repeat' split
            all_goals first | rfl | (exfalso; omega)
          have Hr := Lib.hid hr
          clear hr
          try clear hK6
          try clear hK7
          try clear k7
          try clear hk6
          try clear hk7
          try clear c4
          try clear a3
          try clear a2
          try clear a1
          try clear c2
          try clear c1
          go_wp2_with fail
          go_quiet (fail)
          go_wp2_with fail
          go_ret
          exact ⟨⟨bg, t, by rw [Hr.out]; rfl, HBG.out⟩, below_drewN HB.out _⟩
      · have z1 : ((y : Int) != (yb : Int)) = true := by simp; omega
        have hr : refFault code i bg t = 131 := by
          rw [HR.out]
          repeat' split
          all_goals first | rfl | (exfalso; omega)
        have Hr := Lib.hid hr
        clear hr
        try clear hK6
        try clear hK7
        try clear k7
        try clear hk6
        try clear hk7
        try clear c4
        try clear a3
        try clear a2
        try clear a1
        try clear c2
        try clear c1
        go_wp2_with fail
        go_quiet (fail)
        go_wp2_with fail
        go_ret
        exact ⟨⟨bg, t, by rw [Hr.out]; rfl, HBG.out⟩, below_drewN HB.out _⟩
    · have e4 : ((o : Int) == 4) = false := by simp; omega
      by_cases kk3 : K = 3
      · have g3 : ((K : Int) == 3) = true := by simp; omega
        by_cases r1 : y ≤ bg
        · have l1 : decide ((y : Int) ≤ (bg : Int)) = true := decide_eq_true (by omega)
          have hr : refFault code i bg t = 132 := by
            rw [HR.out]
            repeat' split
            all_goals first | rfl | (exfalso; omega)
          have Hr := Lib.hid hr
          clear hr
          try clear hK6
          try clear hK7
          try clear k7
          try clear hk6
          try clear hk7
          try clear c4
          try clear a3
          try clear a2
          try clear a1
          try clear c2
          try clear c1
          go_wp2_with fail
          go_quiet (fail)
          go_wp2_with fail
          go_ret
          exact ⟨⟨bg, t, by rw [Hr.out]; rfl, HBG.out⟩, below_drewN HB.out _⟩
        · have l1 : decide ((y : Int) ≤ (bg : Int)) = false := decide_eq_false (by omega)
          by_cases r2 : t ≤ y
          · have l2 : decide ((t : Int) ≤ (y : Int)) = true := decide_eq_true (by omega)
            have hr : refFault code i bg t = 132 := by
              rw [HR.out]
              repeat' split
              all_goals first | rfl | (exfalso; omega)
            have Hr := Lib.hid hr
            clear hr
            try clear hK6
            try clear hK7
            try clear k7
            try clear hk6
            try clear hk7
            try clear c4
            try clear a3
            try clear a2
            try clear a1
            try clear c2
            try clear c1
            go_wp2_with fail
            go_quiet (fail)
            go_wp2_with fail
            go_ret
            exact ⟨⟨bg, t, by rw [Hr.out]; rfl, HBG.out⟩, below_drewN HB.out _⟩
          · have l2 : decide ((t : Int) ≤ (y : Int)) = false := decide_eq_false (by omega)
            by_cases c4 : i + 1 = t
            · have d4 : ((i : Int) == (t : Int) - 1) = true := by simp; omega
              by_cases k3 : K = 3
              · have b3 : ((K : Int) != 3) = false := by simp; omega
                have hr : refFault code i bg t = 0 := by
                  rw [HR.out]
                  repeat' split
                  all_goals first | rfl | (exfalso; omega)
                have Hr := Lib.hid hr
                clear hr
                try clear hK6
                try clear hK7
                try clear k7
                try clear hk6
                try clear hk7
                try clear c4
                try clear a3
                try clear a2
                try clear a1
                try clear c2
                try clear c1
                go_wp2_with fail
                go_quiet (fail)
                go_wp2_with fail
                go_ret
                exact ⟨⟨bg, t, by rw [Hr.out]; rfl, HBG.out⟩, below_drewN HB.out _⟩
              · exact absurd kk3 k3
            · have d4 : ((i : Int) == (t : Int) - 1) = false := by simp; omega
              have hr : refFault code i bg t = 0 := by
                rw [HR.out]
                repeat' split
                all_goals first | rfl | (exfalso; omega)
              have Hr := Lib.hid hr
              clear hr
              try clear hK6
              try clear hK7
              try clear k7
              try clear hk6
              try clear hk7
              try clear c4
              try clear a3
              try clear a2
              try clear a1
              try clear c2
              try clear c1
              go_wp2_with fail
              go_quiet (fail)
              go_wp2_with fail
              go_ret
              exact ⟨⟨bg, t, by rw [Hr.out]; rfl, HBG.out⟩, below_drewN HB.out _⟩
      · have g3 : ((K : Int) == 3) = false := by simp; omega
        by_cases kk2 : K = 2
        · have g2 : ((K : Int) == 2) = true := by simp; omega
          by_cases r1 : y ≤ bg
          · have l1 : decide ((y : Int) ≤ (bg : Int)) = true := decide_eq_true (by omega)
            have hr : refFault code i bg t = 132 := by
              rw [HR.out]
              repeat' split
              all_goals first | rfl | (exfalso; omega)
            have Hr := Lib.hid hr
            clear hr
            try clear hK6
            try clear hK7
            try clear k7
            try clear hk6
            try clear hk7
            try clear c4
            try clear a3
            try clear a2
            try clear a1
            try clear c2
            try clear c1
            go_wp2_with fail
            go_quiet (fail)
            go_wp2_with fail
            go_ret
            exact ⟨⟨bg, t, by rw [Hr.out]; rfl, HBG.out⟩, below_drewN HB.out _⟩
          · have l1 : decide ((y : Int) ≤ (bg : Int)) = false := decide_eq_false (by omega)
            by_cases r2 : t ≤ y
            · have l2 : decide ((t : Int) ≤ (y : Int)) = true := decide_eq_true (by omega)
              have hr : refFault code i bg t = 132 := by
                rw [HR.out]
                repeat' split
                all_goals first | rfl | (exfalso; omega)
              have Hr := Lib.hid hr
              clear hr
              try clear hK6
              try clear hK7
              try clear k7
              try clear hk6
              try clear hk7
              try clear c4
              try clear a3
              try clear a2
              try clear a1
              try clear c2
              try clear c1
              go_wp2_with fail
              go_quiet (fail)
              go_wp2_with fail
              go_ret
              exact ⟨⟨bg, t, by rw [Hr.out]; rfl, HBG.out⟩, below_drewN HB.out _⟩
            · have l2 : decide ((t : Int) ≤ (y : Int)) = false := decide_eq_false (by omega)
              by_cases c4 : i + 1 = t
              · have d4 : ((i : Int) == (t : Int) - 1) = true := by simp; omega
                have b3 : ((K : Int) != 3) = true := by simp; omega
                have b4 : ((K : Int) != 4) = true := by simp; omega
                have b7 : ((K : Int) != 7) = true := by simp; omega
                have b8 : ((K : Int) != 8) = true := by simp; omega
                have hr : refFault code i bg t = 133 := by
                  rw [HR.out]
                  repeat' split
                  all_goals first | rfl | (exfalso; omega)
                have Hr := Lib.hid hr
                clear hr
                try clear hK6
                try clear hK7
                try clear k7
                try clear hk6
                try clear hk7
                try clear c4
                try clear a3
                try clear a2
                try clear a1
                try clear c2
                try clear c1
                go_wp2_with fail
                go_quiet (fail)
                go_wp2_with fail
                go_ret
                exact ⟨⟨bg, t, by rw [Hr.out]; rfl, HBG.out⟩, below_drewN HB.out _⟩
              · have d4 : ((i : Int) == (t : Int) - 1) = false := by simp; omega
                have hr : refFault code i bg t = 0 := by
                  rw [HR.out]
                  repeat' split
                  all_goals first | rfl | (exfalso; omega)
                have Hr := Lib.hid hr
                clear hr
                try clear hK6
                try clear hK7
                try clear k7
                try clear hk6
                try clear hk7
                try clear c4
                try clear a3
                try clear a2
                try clear a1
                try clear c2
                try clear c1
                go_wp2_with fail
                go_quiet (fail)
                go_wp2_with fail
                go_ret
                exact ⟨⟨bg, t, by rw [Hr.out]; rfl, HBG.out⟩, below_drewN HB.out _⟩
        · have g2 : ((K : Int) == 2) = false := by simp; omega
          by_cases c4 : i + 1 = t
          · have d4 : ((i : Int) == (t : Int) - 1) = true := by simp; omega
            have b3 : ((K : Int) != 3) = true := by simp; omega
            by_cases k4 : K = 4
            · have b4 : ((K : Int) != 4) = false := by simp; omega
              have hr : refFault code i bg t = 0 := by
                rw [HR.out]
                repeat' split
                all_goals first | rfl | (exfalso; omega)
              have Hr := Lib.hid hr
              clear hr
              try clear hK6
              try clear hK7
              try clear k7
              try clear hk6
              try clear hk7
              try clear c4
              try clear a3
              try clear a2
              try clear a1
              try clear c2
              try clear c1
              go_wp2_with fail
              go_quiet (fail)
              go_wp2_with fail
              go_ret
              exact ⟨⟨bg, t, by rw [Hr.out]; rfl, HBG.out⟩, below_drewN HB.out _⟩
            · have b4 : ((K : Int) != 4) = true := by simp; omega
              by_cases k7 : K = 7
              · have b7 : ((K : Int) != 7) = false := by simp; omega
                have hr : refFault code i bg t = 0 := by
                  rw [HR.out]
                  repeat' split
                  all_goals first | rfl | (exfalso; omega)
                have Hr := Lib.hid hr
                clear hr
                try clear hK6
                try clear hK7
                try clear k7
                try clear hk6
                try clear hk7
                try clear c4
                try clear a3
                try clear a2
                try clear a1
                try clear c2
                try clear c1
                go_wp2_with fail
                go_quiet (fail)
                go_wp2_with fail
                go_ret
                exact ⟨⟨bg, t, by rw [Hr.out]; rfl, HBG.out⟩, below_drewN HB.out _⟩
              · have b7 : ((K : Int) != 7) = true := by simp; omega
                by_cases k8 : K = 8
                · have b8 : ((K : Int) != 8) = false := by simp; omega
                  have hr : refFault code i bg t = 0 := by
                    rw [HR.out]
                    repeat' split
                    all_goals first | rfl | (exfalso; omega)
                  have Hr := Lib.hid hr
                  clear hr
                  try clear hK6
                  try clear hK7
                  try clear k7
                  try clear hk6
                  try clear hk7
                  try clear c4
                  try clear a3
                  try clear a2
                  try clear a1
                  try clear c2
                  try clear c1
                  go_wp2_with fail
                  go_quiet (fail)
                  go_wp2_with fail
                  go_ret
                  exact ⟨⟨bg, t, by rw [Hr.out]; rfl, HBG.out⟩, below_drewN HB.out _⟩
                · have b8 : ((K : Int) != 8) = true := by simp; omega
                  have hr : refFault code i bg t = 133 := by
                    rw [HR.out]
                    repeat' split
                    all_goals first | rfl | (exfalso; omega)
                  have Hr := Lib.hid hr
                  clear hr
                  try clear hK6
                  try clear hK7
                  try clear k7
                  try clear hk6
                  try clear hk7
                  try clear c4
                  try clear a3
                  try clear a2
                  try clear a1
                  try clear c2
                  try clear c1
                  go_wp2_with fail
                  go_quiet (fail)
                  go_wp2_with fail
                  go_ret
                  exact ⟨⟨bg, t, by rw [Hr.out]; rfl, HBG.out⟩, below_drewN HB.out _⟩
          · have d4 : ((i : Int) == (t : Int) - 1) = false := by simp; omega
            have hr : refFault code i bg t = 0 := by
              rw [HR.out]
              repeat' split
              all_goals first | rfl | (exfalso; omega)
            have Hr := Lib.hid hr
            clear hr
            try clear hK6
            try clear hK7
            try clear k7
            try clear hk6
            try clear hk7
            try clear c4
            try clear a3
            try clear a2
            try clear a1
            try clear c2
            try clear c1
            go_wp2_with fail
            go_quiet (fail)
            go_wp2_with fail
            go_ret
            exact ⟨⟨bg, t, by rw [Hr.out]; rfl, HBG.out⟩, below_drewN HB.out _⟩
end Go.Proofs.Ytofkamnmgpkehab
/- The document's Find: the walk. -/
namespace Go.Proofs.Ytofkamnmgpkehab
open Go.RowKit
theorem refinstr_at (v : Value) (code : List (Nat × Nat)) (i : Nat) (hi : i < code.length) (w : World) (hv : Instrs w v code) (he : (encRes code).2.2 = 0) (h3 : Firsts code) :
    Calls Try.prog 40 #[v, .int .i64 i] w fun e w' => e = .returned (.int .i64 (faultAt code i)) ∧ Below w.heap.size w w' := by
  refine (refinstr_any v code (encRes_short he) i hi w hv).mono ?_
  rintro e w' ⟨⟨b, t, rfl, hb, ht⟩, bel⟩
  have hT := tiles (code := code) h3.2 code.length
  have e1 := hT.begin_eq h3.2 hi hb
  rw [e1] at ht
  have e2 := hT.end_eq (hT.lt i hi) ht
  refine ⟨?_, bel⟩
  rw [e1, e2, refFault_eq hT hi (isOp_ok (encRes_all he i hi))]
theorem aimOk_eq {code : List (Nat × Nat)} (h3 : Firsts code) (js : List Nat) (i : Nat) :
    aimOk (psTo code code.length) (ofTo code code.length) js i = ((decide (i = 0) || decide (js.getD (i - 1) 0 < js.getD i 0)) && (decide (js.getD i 0 < code.length) && (opAt code (js.getD i 0) != 3))) := by
  have hT := tiles (code := code) h3.2 code.length
  unfold aimOk
  rw [hT.ol]
  by_cases h : js.getD i 0 < code.length
  · rw [hT.inside h]
  · rw [decide_eq_false h]; simp
def RefPost (code : List (Nat × Nat)) (js ats : List Nat) (w : World) (e : Ending) (w' : World) : Prop :=
  Below w.heap.size w w' ∧ ((∃ i c : Nat, e = .returned (.tuple #[.int .i64 i, .int .i64 c]) ∧ FindBad code js ats i c) ∨
    (e = .returned (.tuple #[.int .i64 0, .int .i64 0]) ∧ FindOk code js ats))
set_option maxRecDepth 100000 in
set_option maxHeartbeats 4000000 in
theorem reffind_any {w : World} (vc vj vn : Value) (code : List (Nat × Nat)) (js ats : List Nat) (hc : Instrs w vc code) (hj : RowU w w.heap.size vj js) (hn : NamesU w w.heap.size vn ats) :
    Calls Try.prog 18 #[vc, vj, vn] w (RefPost code js ats w) := by
  have henc := refencode_any vc code w hc
  obtain ⟨a, cap, hvc, hlc, hcm, hnil, hp⟩ := hc.opened
  have hlm : code.length ≤ 9223372036854775807 := by unfold maxLen at hcm; omega
  have Henc := Lib.hid henc
  have Hc := Lib.hid hc
  have Hj := Lib.hid hj
  have Hn := Lib.hid hn
  have Hp := Lib.hid hp
  clear hp hnil hj hn hc henc
  subst hvc
  go_enter Try.func18, Try.ntmps18
  go_wp2_with fail
  refine Henc.out.mono ?_
  rintro e w1 ⟨ve, rfl, hown, hgr, hnil⟩
  have Hb1 := Lib.hid (show Below w.heap.size w w1 from hgr.bel)
  clear hown hgr hnil Henc
  by_cases h0 : (encRes code).2.2 = 0
  · have He := Lib.hid h0
    rw [h0]
    generalize (encRes code).2.1 = ei
    clear h0
    by_cases h1 : code.length = 0
    · have HB := Lib.hid (show FindBad code js ats 0 130 from .first He.out (fun h => by have := h.1; omega))
      have hz : (code.length : Int) = 0 := by omega
      go_wp2
      exact bodyPost_ret (v := .tuple #[.int .i64 ((0 : Nat) : Int), .int .i64 ((130 : Nat) : Int)]) (by simp [results, Try.results18, go_sem]) rfl ⟨Hb1.out, .inl ⟨_, _, rfl, HB.out⟩⟩
    · obtain ⟨cb, coff, rfl, hcb, hcc⟩ := Hp.out (by omega)
      have hlen : (code.length : Int) ≠ 0 := by omega
      have hlen2 : (0 : Int) < (code.length : Int) := by omega
      have hq0 := (Hb1.out.cell (p := ⟨cb, coff + 0 * 2, none⟩) hcb).trans (hcc 0 (by omega)).1
      rw [Nat.zero_mul, Nat.add_zero] at hq0
      by_cases h3 : (code.getD 0 (0, 0)).1 = 3
      · have H3 := Lib.hid (show Firsts code from ⟨by omega, h3⟩)
        rw [h3] at hq0
        have Hcc := Lib.hid hcc
        have HC1 := Lib.hid (Hc.out.below Hb1.out)
        have Hs := Lib.hid (encRes_short He.out)
        clear hcc h3 Hc
        go_wp2_with fail
        obtain ⟨n, hnn⟩ : ∃ n, n = code.length := ⟨_, rfl⟩
        have HN := Lib.hid hnn
        rw [← hnn] at hlc hlm hlen hlen2 h1 HC1 ⊢
        clear hnn hq0
        go_loopw [10, 11] (fun e i wr => ∃ (k : Nat), k ≤ n ∧ e = .int .i64 0 ∧ i = .int .i64 k ∧ Below w1.heap.size w1 wr ∧ ∀ j, j < k → faultAt code j = 0) (fun _ i _ => n - (intOf i).toNat)
        case atStart => exact ⟨0, by omega, rfl, rfl, Below.refl _ _, fun j h => absurd h (Nat.not_lt_zero j)⟩
        case round =>
          obtain ⟨k, hk, rfl, rfl, hbw, hgd⟩ := hrel
          by_cases hlt' : k < n
          · have Hfa := Lib.hid (refinstr_at _ code k (by rw [← HN.out]; exact hlt') wr (HC1.out.below hbw) He.out H3.out)
            have Hbw := Lib.hid hbw
            have Hgd := Lib.hid hgd
            have hki : (k : Int) < (n : Int) := by omega
            clear hbw hgd
            obtain ⟨f, hf⟩ : ∃ f, f = faultAt code k := ⟨_, rfl⟩
            have Hf := Lib.hid hf
            rw [← hf] at Hfa
            clear hf
            go_wp2_with fail
            refine Hfa.out.mono ?_
            rintro e w2 ⟨rfl, hb2⟩
            have Hb2 := Lib.hid (Bel.tr Hbw.out hb2)
            clear hb2 Hfa
            by_cases hf0 : f = 0
            · subst hf0
              go_wp2
              go_roundw
              case rel => exact ⟨k + 1, by omega, rfl, by go_num, Hb2.out, fun j hj => by
                by_cases e : j = k
                · rw [e]; exact Hf.out.symm
                · exact Hgd.out j (by omega)⟩
              case measure => simp [intOf]; omega
            · have hd : ((f : Int) == 0) = false := by simp; omega
              have hd2 : ((f : Int) != 0) = true := by simp; omega
              have HB := Lib.hid (show FindBad code js ats k f from by
                rw [Hf.out]; exact .fault He.out H3.out k (by rw [← HN.out]; exact hlt') Hgd.out (by rw [← Hf.out]; exact hf0))
              go_wp2
              exact bodyPost_ret (v := .tuple #[.int .i64 k, .int .i64 f]) (by simp [results, Try.results18, go_sem]) rfl ⟨Hb1.out.trans (Hb2.out.mono Hb1.out.size), .inl ⟨_, _, rfl, HB.out⟩⟩
          · obtain rfl : n = k := by omega
            have Hall := Lib.hid (show ∀ j, j < code.length → faultAt code j = 0 from fun j hj => hgd j (by rw [HN.out]; exact hj))
            have Hbw := Lib.hid (Hb1.out.trans (hbw.mono Hb1.out.size))
            have HC2 := Lib.hid (HC1.out.below hbw)
            obtain ⟨aj, capj, rfl, hjc, hjm, hjl, hjp⟩ := Hj.out
            have Hjp := Lib.hid hjp
            have Hjl := Lib.hid hjl
            have hjm2 : js.length ≤ 9223372036854775807 := by unfold maxLen at hjm; omega
            obtain ⟨nj, hnj⟩ : ∃ nj, nj = js.length := ⟨_, rfl⟩
            have HNJ := Lib.hid hnj
            rw [← hnj] at hjc hjm2 ⊢
            clear hgd hbw hjp hjl hnj HC1 Hj hjm
            obtain ⟨w2, hw2⟩ : ∃ w2, w2 = wr := ⟨_, rfl⟩
            subst hw2
            go_wp2_with fail
            go_loopw [12] (fun i wr => ∃ (q : Nat), q ≤ nj ∧ i = .int .i64 q ∧ Below w2.heap.size w2 wr ∧ GoodTo (psTo code code.length) (ofTo code code.length) js q) (fun i _ => nj - (intOf i).toNat)
            case atStart => exact ⟨0, by omega, rfl, Below.refl _ _, GoodTo.zero _ _ _⟩
            case round =>
              obtain ⟨q, hq, rfl, hbq, hgd⟩ := hrel
              by_cases hlt2 : q < nj
              · obtain ⟨jb, joff, rfl, hjb, hjc2⟩ := Hjp.out (by rw [← HNJ.out]; omega)
                have hcal := fun (k : Nat) (hk : k < nj) => (hbq.cell (p := ⟨jb, joff + k, none⟩) (Nat.lt_of_lt_of_le hjb Hbw.out.size)).trans ((Hbw.out.cell (p := ⟨jb, joff + k, none⟩) hjb).trans (hjc2 k (by rw [← HNJ.out]; exact hk)))
                have hcur := hcal q hlt2
                have Hins := Lib.hid (fun m => refinside_any _ code Hs.out (js.getD q 0) (Hjl.out q) (wr.drewN m) (HC2.out.below (below_drewN hbq m)))
                have Hok := Lib.hid (aimOk_eq H3.out js q)
                have Hbq := Lib.hid hbq
                have Hgd := Lib.hid hgd
                have hqi : (q : Int) < (nj : Int) := by omega
                have hq0 : (0 : Int) ≤ (q : Int) := by omega
                have hbad := fun (h : aimOk (psTo code code.length) (ofTo code code.length) js q = false) => FindBad.jump (ats := ats) He.out H3.out Hall.out q (by rw [← HNJ.out]; exact hlt2) hgd h
                have Hbad := Lib.hid hbad
                clear hbq hgd hjc2 hbad
                generalize hins : (decide (js.getD q 0 < code.length) && (opAt code (js.getD q 0) != 3)) = ins at *
                have Hgo := Lib.hid (show ∀ m, aimOk (psTo code code.length) (ofTo code code.length) js q = true → ∃ (q' : Nat), q' ≤ nj ∧ (Value.int .i64 ((q : Int) + 1)) = .int .i64 q' ∧ Below w2.heap.size w2 (wr.drewN m) ∧ GoodTo (psTo code code.length) (ofTo code code.length) js q' from
                  fun m h => ⟨q + 1, by omega, by go_num, below_drewN Hbq.out m, GoodTo.succ Hgd.out h⟩)
                have Hno := Lib.hid (show ∀ m, aimOk (psTo code code.length) (ofTo code code.length) js q = false → RefPost code js ats w (.returned (.tuple #[.int .i64 q, .int .i64 134])) (wr.drewN m) from
                  fun m h => ⟨Hbw.out.trans ((below_drewN Hbq.out m).mono Hbw.out.size), .inl ⟨q, 134, rfl, Hbad.out h⟩⟩)
                clear hins
                by_cases hz : q = 0
                · subst hz
                  have d0 : decide ((0 : Int) < ((0 : Nat) : Int)) = false := decide_eq_false (by omega)
                  have hcur' := hcur
                  rw [Nat.add_zero] at hcur'
                  clear hcur
                  have Hok2 := Lib.hid (show aimOk (psTo code code.length) (ofTo code code.length) js 0 = ins by rw [Hok.out]; simp)
                  clear hcal Hok Hjl
                  generalize js.getD 0 0 = x at *
                  go_wp2_with fail
                  go_quiet (first | (go_at_call 41; with_reducible refine Calls.quiet_of_same (Hins.out _)))
                  cases ins with
                  | true =>
                    go_wp2
                    go_roundw
                    case rel => exact Hgo.out _ Hok2.out
                    case measure => simp [intOf]; omega
                  | false =>
                    go_wp2
                    exact bodyPost_ret (v := .tuple #[.int .i64 ((0 : Nat) : Int), .int .i64 ((134 : Nat) : Int)]) (by simp [results, Try.results18, go_sem]) rfl (Hno.out _ Hok2.out)
                · have d0 : decide (0 < q) = true := decide_eq_true (by omega)
                  obtain ⟨r, hr⟩ : ∃ r, q = r + 1 := ⟨q - 1, by omega⟩
                  have hpre := hcal r (by omega)
                  have m1 : IntKind.i64.wrap ((q : Int) - 1) = (r : Int) := by rw [IntWalk.i64_in _ (by omega)]; omega
                  have r0 : (0 : Int) ≤ (r : Int) := by omega
                  have r1 : (r : Int) < (nj : Int) := by omega
                  have Hok2 := Lib.hid (show aimOk (psTo code code.length) (ofTo code code.length) js q = (decide (js.getD r 0 < js.getD q 0) && ins) by rw [Hok.out, hr]; simp)
                  have hrq : r < nj := by omega
                  clear hcal Hok Hjl hz hr
                  generalize hx : js.getD q 0 = x at *
                  generalize hy : js.getD r 0 = y at *
                  by_cases hxy : x ≤ y
                  · have d1 : decide (x ≤ y) = true := decide_eq_true (by omega)
                    have Hok3 := Lib.hid (show aimOk (psTo code code.length) (ofTo code code.length) js q = false by rw [Hok2.out, decide_eq_false (by omega), Bool.false_and])
                    clear hxy Hins hx hy
                    go_wp2_with fail
                    go_quiet (fail)
                    go_wp2
                    exact bodyPost_ret (v := .tuple #[.int .i64 (q : Int), .int .i64 ((134 : Nat) : Int)]) (by simp [results, Try.results18, go_sem]) rfl (Hno.out _ Hok3.out)
                  · have d1 : decide (x ≤ y) = false := decide_eq_false (by omega)
                    have Hok3 := Lib.hid (show aimOk (psTo code code.length) (ofTo code code.length) js q = ins by rw [Hok2.out, decide_eq_true (by omega), Bool.true_and])
                    clear hxy hx hy
                    go_wp2_with fail
                    go_quiet (first | (go_at_call 41; with_reducible refine Calls.quiet_of_same (Hins.out _)))
                    cases ins with
                    | true =>
                      go_wp2
                      go_roundw
                      case rel => exact Hgo.out _ Hok3.out
                      case measure => simp [intOf]; omega
                    | false =>
                      go_wp2
                      exact bodyPost_ret (v := .tuple #[.int .i64 (q : Int), .int .i64 ((134 : Nat) : Int)]) (by simp [results, Try.results18, go_sem]) rfl (Hno.out _ Hok3.out)
              · obtain rfl : nj = q := by omega
                have Hg := Lib.hid (show GoodTo (psTo code code.length) (ofTo code code.length) js js.length from by rw [← HNJ.out]; exact hgd)
                have Hbx := Lib.hid (Hbw.out.trans (hbq.mono Hbw.out.size))
                have HC3 := Lib.hid (HC2.out.below hbq)
                obtain ⟨w3, hw3⟩ : ∃ w3, w3 = wr := ⟨_, rfl⟩
                subst hw3
                obtain ⟨an, capn, rfl, hnc, hncm, hnl, hnp⟩ := Hn.out
                have hnm : ats.length ≤ 9223372036854775807 := by unfold maxLen at hncm; omega
                have Hnp := Lib.hid hnp
                have Hnl := Lib.hid hnl
                clear hnp hnl
                obtain ⟨m, hmm⟩ : ∃ m, m = ats.length := ⟨_, rfl⟩
                have HM := Lib.hid hmm
                rw [← hmm] at hnc hnm ⊢
                clear hmm hbq hgd HC2 Hn hncm
                go_wp2_with fail
                go_loopw [13, 14] (fun i z wr => ∃ (k : Nat), k ≤ m ∧ i = .int .i64 k ∧ Below w3.heap.size w3 wr ∧ ∀ j, j < k → beginsN (psTo code code.length) (ofTo code code.length) (ats.getD j 0) = true) (fun i _ _ => m - (intOf i).toNat)
                case atStart => exact ⟨0, by omega, rfl, Below.refl _ _, fun j h => absurd h (Nat.not_lt_zero j)⟩
                case round =>
                  obtain ⟨k, hk, rfl, hbw, hgd⟩ := hrel
                  by_cases hlt2 : k < m
                  · obtain ⟨nb, noff, rfl, hnb, hnc2⟩ := Hnp.out (by rw [← HM.out]; omega)
                    obtain ⟨sn, hs1, hs2⟩ := hnc2 k (by rw [← HM.out]; exact hlt2)
                    have hq2 := (hbw.cell (p := ⟨nb, noff + k * 2 + 1, none⟩) (Nat.lt_of_lt_of_le hnb Hbx.out.size)).trans ((Hbx.out.cell (p := ⟨nb, noff + k * 2 + 1, none⟩) hnb).trans hs2)
                    have hxl := Hnl.out k
                    have hx1 : IntKind.u64.wrap ((ats.getD k 0 : Nat) : Int) = ((ats.getD k 0 : Nat) : Int) := by rw [IntKind.wrap_u64]; omega
                    have hx2 : IntKind.i64.wrap ((ats.getD k 0 : Nat) : Int) = ((ats.getD k 0 : Nat) : Int) := IntWalk.i64_in _ (by omega)
                    have hx0 : (0 : Int) ≤ ((ats.getD k 0 : Nat) : Int) := by omega
                    have hnl : IntKind.u64.wrap (code.length : Int) = (code.length : Int) := by rw [IntKind.wrap_u64]; have := Hs.out; omega
                    have hki : (k : Int) < (m : Int) := by omega
                    have hk0 : (0 : Int) ≤ (k : Int) := by omega
                    rw [HN.out.symm] at hnl
                    have Hbg := Lib.hid ((tiles (code := code) H3.out.2 code.length).begins (ats.getD k 0))
                    have Hbw := Lib.hid (hbw)
                    have Hgd := Lib.hid hgd
                    have Hcl := Lib.hid (fun (x : Nat) (hx : x < code.length) => (hbw.cell (p := ⟨cb, coff + x * 2, none⟩) (Nat.lt_of_lt_of_le hcb Hbx.out.size)).trans ((Hbx.out.cell (p := ⟨cb, coff + x * 2, none⟩) hcb).trans (Hcc.out x hx).1))
                    have Hno := Lib.hid (show beginsN (psTo code code.length) (ofTo code code.length) (ats.getD k 0) = false → RefPost code js ats w (.returned (.tuple #[.int .i64 k, .int .i64 135])) wr from
                      fun h => ⟨Hbx.out.trans (hbw.mono Hbx.out.size), .inl ⟨k, 135, rfl, .name He.out H3.out Hall.out Hg.out k (by rw [← HM.out]; exact hlt2) hgd h⟩⟩)
                    have Hgo := Lib.hid (show beginsN (psTo code code.length) (ofTo code code.length) (ats.getD k 0) = true → ∃ (k' : Nat), k' ≤ m ∧ (Value.int .i64 ((k : Int) + 1)) = .int .i64 k' ∧ Below w3.heap.size w3 wr ∧ ∀ j, j < k' → beginsN (psTo code code.length) (ofTo code code.length) (ats.getD j 0) = true from
                      fun h => ⟨k + 1, by omega, by go_num, hbw, fun j hj => by
                        by_cases e : j = k
                        · rw [e]; exact h
                        · exact hgd j (by omega)⟩)
                    clear hbw hgd hnc2 hs1 hs2
                    generalize ats.getD k 0 = x at *
                    have hN := HN.out
                    by_cases hxl2 : x < code.length
                    · have hq := Hcl.out x hxl2
                      have d1 : decide ((n : Int) ≤ (x : Int)) = false := decide_eq_false (by omega)
                      have hxn : (x : Int) < (n : Int) := by omega
                      have Hbg2 := Lib.hid (show beginsN (psTo code code.length) (ofTo code code.length) x = (opAt code x == 3) from by rw [Hbg.out, decide_eq_true hxl2, Bool.true_and])
                      have hop : (code.getD x (0, 0)).1 = opAt code x := rfl
                      rw [hop] at hq
                      clear hN Hcl Hbg hop Hnp
                      by_cases h3 : opAt code x = 3
                      · have Hy := Lib.hid (Hgo.out (by rw [Hbg2.out, h3]; rfl))
                        rw [h3] at hq
                        clear Hgo Hno Hbg2 h3
                        go_wp2_with fail
                        go_roundw
                        case rel => exact Hy.out
                        case measure => simp [intOf]; omega
                      · have Hy := Lib.hid (Hno.out (by rw [Hbg2.out]; exact beq_eq_false_iff_ne.2 h3))
                        have d2 : ((opAt code x : Int) != 3) = true := bne_iff_ne.2 (by omega)
                        clear Hgo Hno Hbg2
                        generalize opAt code x = o at *
                        go_wp2_with fail
                        exact bodyPost_ret (v := .tuple #[.int .i64 k, .int .i64 ((135 : Nat) : Int)]) (by simp [results, Try.results18, go_sem]) rfl Hy.out
                    · have d1 : decide ((n : Int) ≤ (x : Int)) = true := decide_eq_true (by omega)
                      have d2 : decide (n ≤ x) = true := decide_eq_true (by omega)
                      have Hy := Lib.hid (Hno.out (by rw [Hbg.out, decide_eq_false hxl2, Bool.false_and]))
                      clear hN Hcl Hbg Hnp Hgo Hno
                      go_wp2_with fail
                      exact bodyPost_ret (v := .tuple #[.int .i64 k, .int .i64 ((135 : Nat) : Int)]) (by simp [results, Try.results18, go_sem]) rfl Hy.out
                  · obtain rfl : k = m := by omega
                    have Hx := Lib.hid (show RefPost code js ats w (.returned (.tuple #[.int .i64 0, .int .i64 0])) wr from
                      ⟨Hbx.out.trans (hbw.mono Hbx.out.size), .inr ⟨rfl, He.out, H3.out, Hall.out, Hg.out, fun j hj => hgd j (by rw [HM.out]; exact hj)⟩⟩)
                    clear hbw hgd
                    go_wp2
                    exact bodyPost_ret (v := .tuple #[.int .i64 0, .int .i64 0]) (by simp [results, Try.results18, go_sem]) rfl Hx.out
      · have HB := Lib.hid (show FindBad code js ats 0 130 from .first He.out (fun h => h3 h.2))
        generalize (code.getD 0 (0, 0)).1 = o at *
        have hd : ((o : Int) == 3) = false := by simp; omega
        have hd2 : ((o : Int) != 3) = true := by simp; omega
        clear hcc
        go_wp2
        exact bodyPost_ret (v := .tuple #[.int .i64 ((0 : Nat) : Int), .int .i64 ((130 : Nat) : Int)]) (by simp [results, Try.results18, go_sem]) rfl ⟨Hb1.out, .inl ⟨_, _, rfl, HB.out⟩⟩
  · have HB := Lib.hid (show FindBad code js ats (encRes code).2.1 (encRes code).2.2 from .enc h0)
    generalize (encRes code).2.1 = ei at *
    generalize (encRes code).2.2 = ec at *
    have hd : ((ec : Int) == 0) = false := by simp; omega
    go_wp2
    exact bodyPost_ret (v := .tuple #[.int .i64 ei, .int .i64 ec]) (by simp [results, Try.results18, go_sem]) rfl ⟨Hb1.out, .inl ⟨_, _, rfl, HB.out⟩⟩
end Go.Proofs.Ytofkamnmgpkehab
