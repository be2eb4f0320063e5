import Derived.Test.YtflpbgdghaaiaaaGreatS5
import Derived.Test.YtflpbgdghaaiaaaGreatS2
import Derived.Laws.Bits64b
import Derived.Laws.BytesArg
import Derived.StillTailTactics
import Derived.Test.YtflpbgdghaaiaaaGreatS4
import Derived.Test.YtflpbgdghaaiaaaGreatS1
import Derived.Great.BuildSlice
import Derived.Laws.Closers25b
import Derived.Defers
import Derived.Recover
import Derived.Test.YtflpbgdghaaiaaaGreatS3
namespace Go.Proofs.YtflpbgdghaaiaaaGreat
open Go.RowKit
set_option linter.unusedVariables false
theorem part_getD (b : List Nat) (i w k : Nat) (hk : k < w) : ((b.drop i).take w).getD k 0 = b.getD (i + k) 0 := by
  simp [List.getD_eq_getElem?_getD, hk, List.getElem?_drop]
theorem deW_take_succ : ∀ (l : List Nat) (k : Nat), k < l.length → deW (l.take (k + 1)) = deW (l.take k) + 256 ^ k * l.getD k 0
  | [], k, h => by simp at h
  | b :: l, 0, h => by simp [deW]
  | b :: l, k + 1, h => by
    have := deW_take_succ l k (by simpa using h)
    rw [List.take_succ_cons, deW, this, List.take_succ_cons, deW, List.getD_cons_succ, Nat.pow_succ, Nat.mul_add, ← Nat.mul_assoc, Nat.mul_comm 256 (256 ^ k)]
    omega
theorem take_fact (l : List Nat) (k : Nat) (q : Int) (n : Nat) (hq : q = ((256 ^ k : Nat) : Int)) (hk : k < l.length) (h8 : k < 8) (hl : ∀ y ∈ l, y < 256) (hn : n = deW (l.take k)) :
    ∃ x y m : Nat, x = l.getD k 0 ∧ x < 256 ∧ m = deW (l.take (k + 1)) ∧ IntKind.u64.wrap ((x : Int) * q) = (y : Int) ∧ bits .or .u64 (n : Int) (y : Int) = (m : Int) := by
  have hx : l.getD k 0 < 256 := by
    rw [List.getD_eq_getElem?_getD, List.getElem?_eq_getElem hk]; exact hl _ (List.getElem_mem hk)
  have hs := deW_take_succ l k hk
  have hlt : n < 256 ^ k := by
    have := deW_lt (l.take k) (fun y hy => hl y (List.mem_of_mem_take hy))
    rw [List.length_take, Nat.min_eq_left (Nat.le_of_lt hk)] at this
    omega
  have hp : (256 : Nat) ^ (k + 1) ≤ 256 ^ 8 := Nat.pow_le_pow_right (by decide) (by omega)
  have h8' : (256 : Nat) ^ 8 = 18446744073709551616 := by decide
  have hy : l.getD k 0 * 256 ^ k < 256 ^ (k + 1) := by
    rw [Nat.pow_succ, Nat.mul_comm]
    exact Nat.mul_lt_mul_of_pos_left hx (Nat.pow_pos (by decide))
  refine ⟨l.getD k 0, l.getD k 0 * 256 ^ k, deW (l.take (k + 1)), rfl, hx, rfl, ?_, ?_⟩
  · have e : ((l.getD k 0 : Nat) : Int) * q = ((l.getD k 0 * 256 ^ k : Nat) : Int) := by rw [hq, Int.natCast_mul]
    rw [e, IntKind.wrap_u64]
    omega
  · rw [bits_or_u64_nat _ _ (by rw [Nat.pow_succ] at hp; omega) (by omega)]
    congr 1
    have e2 : (256 : Nat) ^ k = 2 ^ (8 * k) := by rw [Nat.pow_mul]
    rw [hs, ← hn, Nat.or_comm, Nat.mul_comm (l.getD k 0)]
    rw [e2] at hlt ⊢
    rw [← Nat.two_pow_add_eq_or_of_lt hlt]
    omega
set_option maxRecDepth 100000 in
set_option maxHeartbeats 1000000 in
theorem has16_any (a : Option Addr) (n c i : Nat) (hn : n ≤ 9223372036854775807) (w : World) :
    Calls Tryz.prog 124 #[.slice a n c, .int .i64 i] w fun e w' => e = .returned (.bool (decide (i + 2 ≤ n))) ∧ w = w' := by
  have h0 : (0 : Int) ≤ (i : Int) := by omega
  have hd : decide ((0 : Int) ≤ (i : Int)) = true := decide_eq_true h0
  go_enter Tryz.func124, Tryz.ntmps124
  go_wp2_with ((with_reducible refine (width16_any _).mono ?_); rintro e w1 ⟨rfl, rfl⟩)
  all_goals
    go_ret
    exact ⟨ret_boolE (by rw [Bool.eq_iff_iff]; simp; omega), rfl⟩
set_option maxRecDepth 100000 in
set_option maxHeartbeats 2000000 in
theorem take16_any (g off n c : Nat) (l : List Nat) (hll : l.length = 2) (hn : 2 ≤ n) (hn9 : n ≤ 9223372036854775807) (hl : ∀ y ∈ l, y < 256) (w : World)
    (hc : ∀ k, k < 2 → w.cell? ⟨g, off + k, none⟩ = some (.int .u8 (l.getD k 0 : Nat))) :
    Calls Tryz.prog 125 #[.slice (some ⟨g, off, none⟩) n c] w fun e w' => e = .returned (.int .u16 (deW l)) ∧ w = w' := by
  have Hc := Lib.hid hc
  have Hl := Lib.hid hl
  have Hll := Lib.hid hll
  have hlt64 : deW l < 65536 := by
    have := deW_lt l hl
    rw [hll] at this
    simpa using this
  have Hlt := Lib.hid hlt64
  obtain ⟨r, hr⟩ : ∃ r, r = deW l := ⟨_, rfl⟩
  rw [← hr]
  have Hr := Lib.hid hr
  clear hc hl hll hlt64 hr
  go_enter Tryz.func125, Tryz.ntmps125
  go_wp2_with fail
  refine (width16_any _).mono ?_
  rintro e w1 ⟨rfl, rfl⟩
  go_wp2_with fail
  go_loop [3, 6] (fun x i => ∃ k N : Nat, k ≤ 2 ∧ i = .int .i64 k ∧ x = .int .u64 N ∧ N = deW (l.take k)) (fun _ i => 2 - (intOf i).toNat)
  case atStart => exact ⟨0, 0, by omega, rfl, rfl, rfl⟩
  case round =>
    obtain ⟨k, N, hk, rfl, rfl, hN⟩ := hrel
    have HN := Lib.hid hN
    clear hN
    by_cases hlt : k < 2
    · have hcell := Hc.out k hlt
      have hkk : k = 0 ∨ k = 1 := by omega
      rcases hkk with rfl | rfl
      · obtain ⟨x, y, M, hx, hxl, hM, hsh, hor⟩ := take_fact l 0 1 N (by decide) (by rw [Hll.out]; decide) (by decide) Hl.out HN.out
        rw [← hx] at hcell
        have HM := Lib.hid hM
        have hcv : IntKind.u64.wrap (x : Int) = (x : Int) := by rw [IntKind.wrap_u64]; omega
        obtain rfl : y = x := by rw [Int.mul_one, hcv] at hsh; omega
        rw [Int.mul_one] at hsh
        rw [Nat.add_zero] at hcell
        have hki : (0 : Int) < (n : Int) := by omega
        clear hx hM
        go_wp2_with fail
        go_round
        case rel => exact ⟨1, M, by omega, by go_num, rfl, HM.out⟩
        case measure => simp [intOf]
      · obtain ⟨x, y, M, hx, hxl, hM, hsh, hor⟩ := take_fact l 1 256 N (by decide) (by rw [Hll.out]; decide) (by decide) Hl.out HN.out
        rw [← hx] at hcell
        have HM := Lib.hid hM
        have hcv : IntKind.u64.wrap (x : Int) = (x : Int) := by rw [IntKind.wrap_u64]; omega
        have hki : (1 : Int) < (n : Int) := by omega
        clear hx hM
        go_wp2_with fail
        go_round
        case rel => exact ⟨2, M, by omega, by go_num, rfl, HM.out⟩
        case measure => simp [intOf]
    · obtain rfl : k = 2 := by omega
      have hN := HN.out
      rw [List.take_of_length_le (by rw [Hll.out]; exact Nat.le_refl _), ← Hr.out] at hN
      subst hN
      have hw : IntKind.u16.wrap (N : Int) = (N : Int) := by have := Hlt.out; rw [← Hr.out] at this; rw [IntKind.wrap_u16]; omega
      go_wp2_with fail
      go_ret
      exact ⟨rfl, rfl⟩
set_option maxRecDepth 100000 in
set_option maxHeartbeats 1000000 in
theorem at16_any (v : Value) (b : List Nat) (i : Nat) (hi : i + 2 ≤ b.length) (w : World) (hv : Bytes w v b) :
    Calls Tryz.prog 102 #[v, .int .i64 i] w fun e w' => e = .returned (.tuple #[.int .u16 (numAt 2 b i), .int .i64 0]) ∧ w = w' := by
  obtain ⟨a, c, rfl, hnc, hcm, -, hp⟩ := hv.opened
  obtain ⟨g, off, rfl, hg, hc⟩ := hp (by omega)
  have hn9 : b.length ≤ 9223372036854775807 := by unfold maxLen at hcm; omega
  have Hh := Lib.hid (has16_any (some ⟨g, off, none⟩) b.length c i hn9 w)
  rw [decide_eq_true hi] at Hh
  have HT := Lib.hid (take16_any g (off + i) (b.length - i) (c - i) ((b.drop i).take 2) (by rw [List.length_take, List.length_drop]; omega) (by omega) (by omega)
    (fun y hy => hv.2 y (List.mem_of_mem_drop (List.mem_of_mem_take hy))) w (fun k hk => by rw [part_getD b i 2 k hk, Nat.add_assoc]; exact hc (i + k) (by omega)))
  have hi0 : (0 : Int) ≤ (i : Int) := by omega
  have hi1 : (i : Int) ≤ (b.length : Int) := by omega
  rw [show deW ((b.drop i).take 2) = numAt 2 b i from rfl] at HT
  clear hv hp hc hcm
  generalize numAt 2 b i = x at *
  go_enter Tryz.func102, Tryz.ntmps102
  go_wp2_with fail
  refine Hh.out.mono ?_
  rintro e w1 ⟨rfl, rfl⟩
  go_wp2_with fail
  refine HT.out.mono ?_
  rintro e w1 ⟨rfl, rfl⟩
  go_wp2_with fail
  go_ret2
  exact ⟨rfl, rfl⟩
set_option maxRecDepth 100000 in
set_option maxHeartbeats 2000000 in
theorem take32_any (g off n c : Nat) (l : List Nat) (hll : l.length = 4) (hn : 4 ≤ n) (hn9 : n ≤ 9223372036854775807) (hl : ∀ y ∈ l, y < 256) (w : World)
    (hc : ∀ k, k < 4 → w.cell? ⟨g, off + k, none⟩ = some (.int .u8 (l.getD k 0 : Nat))) :
    Calls Tryz.prog 127 #[.slice (some ⟨g, off, none⟩) n c] w fun e w' => e = .returned (.int .u32 (deW l)) ∧ w = w' := by
  have Hc := Lib.hid hc
  have Hl := Lib.hid hl
  have Hll := Lib.hid hll
  have hlt64 : deW l < 4294967296 := by
    have := deW_lt l hl
    rw [hll] at this
    simpa using this
  have Hlt := Lib.hid hlt64
  obtain ⟨r, hr⟩ : ∃ r, r = deW l := ⟨_, rfl⟩
  rw [← hr]
  have Hr := Lib.hid hr
  clear hc hl hll hlt64 hr
  go_enter Tryz.func127, Tryz.ntmps127
  go_wp2_with fail
  refine (width_any _).mono ?_
  rintro e w1 ⟨rfl, rfl⟩
  go_wp2_with fail
  go_loop [3, 6] (fun x i => ∃ k N : Nat, k ≤ 4 ∧ i = .int .i64 k ∧ x = .int .u64 N ∧ N = deW (l.take k)) (fun _ i => 4 - (intOf i).toNat)
  case atStart => exact ⟨0, 0, by omega, rfl, rfl, rfl⟩
  case round =>
    obtain ⟨k, N, hk, rfl, rfl, hN⟩ := hrel
    have HN := Lib.hid hN
    clear hN
    by_cases hlt : k < 4
    · have hcell := Hc.out k hlt
      have hkk : k = 0 ∨ k = 1 ∨ k = 2 ∨ k = 3 := by omega
      rcases hkk with rfl | rfl | rfl | rfl
      · obtain ⟨x, y, M, hx, hxl, hM, hsh, hor⟩ := take_fact l 0 1 N (by decide) (by rw [Hll.out]; decide) (by decide) Hl.out HN.out
        rw [← hx] at hcell
        have HM := Lib.hid hM
        have hcv : IntKind.u64.wrap (x : Int) = (x : Int) := by rw [IntKind.wrap_u64]; omega
        obtain rfl : y = x := by rw [Int.mul_one, hcv] at hsh; omega
        rw [Int.mul_one] at hsh
        rw [Nat.add_zero] at hcell
        have hki : (0 : Int) < (n : Int) := by omega
        clear hx hM
        go_wp2_with fail
        go_round
        case rel => exact ⟨1, M, by omega, by go_num, rfl, HM.out⟩
        case measure => simp [intOf]
      · obtain ⟨x, y, M, hx, hxl, hM, hsh, hor⟩ := take_fact l 1 256 N (by decide) (by rw [Hll.out]; decide) (by decide) Hl.out HN.out
        rw [← hx] at hcell
        have HM := Lib.hid hM
        have hcv : IntKind.u64.wrap (x : Int) = (x : Int) := by rw [IntKind.wrap_u64]; omega
        have hki : (1 : Int) < (n : Int) := by omega
        clear hx hM
        go_wp2_with fail
        go_round
        case rel => exact ⟨2, M, by omega, by go_num, rfl, HM.out⟩
        case measure => simp [intOf]
      · obtain ⟨x, y, M, hx, hxl, hM, hsh, hor⟩ := take_fact l 2 65536 N (by decide) (by rw [Hll.out]; decide) (by decide) Hl.out HN.out
        rw [← hx] at hcell
        have HM := Lib.hid hM
        have hcv : IntKind.u64.wrap (x : Int) = (x : Int) := by rw [IntKind.wrap_u64]; omega
        have hki : (2 : Int) < (n : Int) := by omega
        clear hx hM
        go_wp2_with fail
        go_round
        case rel => exact ⟨3, M, by omega, by go_num, rfl, HM.out⟩
        case measure => simp [intOf]
      · obtain ⟨x, y, M, hx, hxl, hM, hsh, hor⟩ := take_fact l 3 16777216 N (by decide) (by rw [Hll.out]; decide) (by decide) Hl.out HN.out
        rw [← hx] at hcell
        have HM := Lib.hid hM
        have hcv : IntKind.u64.wrap (x : Int) = (x : Int) := by rw [IntKind.wrap_u64]; omega
        have hki : (3 : Int) < (n : Int) := by omega
        clear hx hM
        go_wp2_with fail
        go_round
        case rel => exact ⟨4, M, by omega, by go_num, rfl, HM.out⟩
        case measure => simp [intOf]
    · obtain rfl : k = 4 := by omega
      have hN := HN.out
      rw [List.take_of_length_le (by rw [Hll.out]; exact Nat.le_refl _), ← Hr.out] at hN
      subst hN
      have hw : IntKind.u32.wrap (N : Int) = (N : Int) := by have := Hlt.out; rw [← Hr.out] at this; rw [IntKind.wrap_u32]; omega
      go_wp2_with fail
      go_ret
      exact ⟨rfl, rfl⟩
set_option maxRecDepth 100000 in
set_option maxHeartbeats 1000000 in
theorem at32_any (v : Value) (b : List Nat) (i : Nat) (hi : i + 4 ≤ b.length) (w : World) (hv : Bytes w v b) :
    Calls Tryz.prog 126 #[v, .int .i64 i] w fun e w' => e = .returned (.tuple #[.int .u32 (numAt 4 b i), .int .i64 0]) ∧ w = w' := by
  obtain ⟨a, c, rfl, hnc, hcm, -, hp⟩ := hv.opened
  obtain ⟨g, off, rfl, hg, hc⟩ := hp (by omega)
  have hn9 : b.length ≤ 9223372036854775807 := by unfold maxLen at hcm; omega
  have Hh := Lib.hid (has32_any (some ⟨g, off, none⟩) b.length c i hn9 w)
  rw [decide_eq_true hi] at Hh
  have HT := Lib.hid (take32_any g (off + i) (b.length - i) (c - i) ((b.drop i).take 4) (by rw [List.length_take, List.length_drop]; omega) (by omega) (by omega)
    (fun y hy => hv.2 y (List.mem_of_mem_drop (List.mem_of_mem_take hy))) w (fun k hk => by rw [part_getD b i 4 k hk, Nat.add_assoc]; exact hc (i + k) (by omega)))
  have hi0 : (0 : Int) ≤ (i : Int) := by omega
  have hi1 : (i : Int) ≤ (b.length : Int) := by omega
  rw [show deW ((b.drop i).take 4) = numAt 4 b i from rfl] at HT
  clear hv hp hc hcm
  generalize numAt 4 b i = x at *
  go_enter Tryz.func126, Tryz.ntmps126
  go_wp2_with fail
  refine Hh.out.mono ?_
  rintro e w1 ⟨rfl, rfl⟩
  go_wp2_with fail
  refine HT.out.mono ?_
  rintro e w1 ⟨rfl, rfl⟩
  go_wp2_with fail
  go_ret2
  exact ⟨rfl, rfl⟩
set_option maxRecDepth 100000 in
set_option maxHeartbeats 1000000 in
theorem has64_any (a : Option Addr) (n c i : Nat) (hn : n ≤ 9223372036854775807) (w : World) :
    Calls Tryz.prog 141 #[.slice a n c, .int .i64 i] w fun e w' => e = .returned (.bool (decide (i + 8 ≤ n))) ∧ w = w' := by
  have h0 : (0 : Int) ≤ (i : Int) := by omega
  have hd : decide ((0 : Int) ≤ (i : Int)) = true := decide_eq_true h0
  go_enter Tryz.func141, Tryz.ntmps141
  go_wp2_with ((with_reducible refine (width64_any _).mono ?_); rintro e w1 ⟨rfl, rfl⟩)
  all_goals
    go_ret
    exact ⟨ret_boolE (by rw [Bool.eq_iff_iff]; simp; omega), rfl⟩
set_option maxRecDepth 100000 in
set_option maxHeartbeats 2000000 in
theorem take64_any (g off n c : Nat) (l : List Nat) (hll : l.length = 8) (hn : 8 ≤ n) (hn9 : n ≤ 9223372036854775807) (hl : ∀ y ∈ l, y < 256) (w : World)
    (hc : ∀ k, k < 8 → w.cell? ⟨g, off + k, none⟩ = some (.int .u8 (l.getD k 0 : Nat))) :
    Calls Tryz.prog 142 #[.slice (some ⟨g, off, none⟩) n c] w fun e w' => e = .returned (.int .u64 (deW l)) ∧ w = w' := by
  have Hc := Lib.hid hc
  have Hl := Lib.hid hl
  have Hll := Lib.hid hll
  have hlt64 : deW l < 18446744073709551616 := by
    have := deW_lt l hl
    rw [hll] at this
    simpa using this
  have Hlt := Lib.hid hlt64
  obtain ⟨r, hr⟩ : ∃ r, r = deW l := ⟨_, rfl⟩
  rw [← hr]
  have Hr := Lib.hid hr
  clear hc hl hll hlt64 hr
  go_enter Tryz.func142, Tryz.ntmps142
  go_wp2_with fail
  refine (width64_any _).mono ?_
  rintro e w1 ⟨rfl, rfl⟩
  go_wp2_with fail
  go_loop [3, 6] (fun x i => ∃ k N : Nat, k ≤ 8 ∧ i = .int .i64 k ∧ x = .int .u64 N ∧ N = deW (l.take k)) (fun _ i => 8 - (intOf i).toNat)
  case atStart => exact ⟨0, 0, by omega, rfl, rfl, rfl⟩
  case round =>
    obtain ⟨k, N, hk, rfl, rfl, hN⟩ := hrel
    have HN := Lib.hid hN
    clear hN
    by_cases hlt : k < 8
    · have hcell := Hc.out k hlt
      have hkk : k = 0 ∨ k = 1 ∨ k = 2 ∨ k = 3 ∨ k = 4 ∨ k = 5 ∨ k = 6 ∨ k = 7 := by omega
      rcases hkk with rfl | rfl | rfl | rfl | rfl | rfl | rfl | rfl
      · obtain ⟨x, y, M, hx, hxl, hM, hsh, hor⟩ := take_fact l 0 1 N (by decide) (by rw [Hll.out]; decide) (by decide) Hl.out HN.out
        rw [← hx] at hcell
        have HM := Lib.hid hM
        have hcv : IntKind.u64.wrap (x : Int) = (x : Int) := by rw [IntKind.wrap_u64]; omega
        obtain rfl : y = x := by rw [Int.mul_one, hcv] at hsh; omega
        rw [Int.mul_one] at hsh
        rw [Nat.add_zero] at hcell
        have hki : (0 : Int) < (n : Int) := by omega
        clear hx hM
        go_wp2_with fail
        go_round
        case rel => exact ⟨1, M, by omega, by go_num, rfl, HM.out⟩
        case measure => simp [intOf]
      · obtain ⟨x, y, M, hx, hxl, hM, hsh, hor⟩ := take_fact l 1 256 N (by decide) (by rw [Hll.out]; decide) (by decide) Hl.out HN.out
        rw [← hx] at hcell
        have HM := Lib.hid hM
        have hcv : IntKind.u64.wrap (x : Int) = (x : Int) := by rw [IntKind.wrap_u64]; omega
        have hki : (1 : Int) < (n : Int) := by omega
        clear hx hM
        go_wp2_with fail
        go_round
        case rel => exact ⟨2, M, by omega, by go_num, rfl, HM.out⟩
        case measure => simp [intOf]
      · obtain ⟨x, y, M, hx, hxl, hM, hsh, hor⟩ := take_fact l 2 65536 N (by decide) (by rw [Hll.out]; decide) (by decide) Hl.out HN.out
        rw [← hx] at hcell
        have HM := Lib.hid hM
        have hcv : IntKind.u64.wrap (x : Int) = (x : Int) := by rw [IntKind.wrap_u64]; omega
        have hki : (2 : Int) < (n : Int) := by omega
        clear hx hM
        go_wp2_with fail
        go_round
        case rel => exact ⟨3, M, by omega, by go_num, rfl, HM.out⟩
        case measure => simp [intOf]
      · obtain ⟨x, y, M, hx, hxl, hM, hsh, hor⟩ := take_fact l 3 16777216 N (by decide) (by rw [Hll.out]; decide) (by decide) Hl.out HN.out
        rw [← hx] at hcell
        have HM := Lib.hid hM
        have hcv : IntKind.u64.wrap (x : Int) = (x : Int) := by rw [IntKind.wrap_u64]; omega
        have hki : (3 : Int) < (n : Int) := by omega
        clear hx hM
        go_wp2_with fail
        go_round
        case rel => exact ⟨4, M, by omega, by go_num, rfl, HM.out⟩
        case measure => simp [intOf]
      · obtain ⟨x, y, M, hx, hxl, hM, hsh, hor⟩ := take_fact l 4 4294967296 N (by decide) (by rw [Hll.out]; decide) (by decide) Hl.out HN.out
        rw [← hx] at hcell
        have HM := Lib.hid hM
        have hcv : IntKind.u64.wrap (x : Int) = (x : Int) := by rw [IntKind.wrap_u64]; omega
        have hki : (4 : Int) < (n : Int) := by omega
        clear hx hM
        go_wp2_with fail
        go_round
        case rel => exact ⟨5, M, by omega, by go_num, rfl, HM.out⟩
        case measure => simp [intOf]
      · obtain ⟨x, y, M, hx, hxl, hM, hsh, hor⟩ := take_fact l 5 1099511627776 N (by decide) (by rw [Hll.out]; decide) (by decide) Hl.out HN.out
        rw [← hx] at hcell
        have HM := Lib.hid hM
        have hcv : IntKind.u64.wrap (x : Int) = (x : Int) := by rw [IntKind.wrap_u64]; omega
        have hki : (5 : Int) < (n : Int) := by omega
        clear hx hM
        go_wp2_with fail
        go_round
        case rel => exact ⟨6, M, by omega, by go_num, rfl, HM.out⟩
        case measure => simp [intOf]
      · obtain ⟨x, y, M, hx, hxl, hM, hsh, hor⟩ := take_fact l 6 281474976710656 N (by decide) (by rw [Hll.out]; decide) (by decide) Hl.out HN.out
        rw [← hx] at hcell
        have HM := Lib.hid hM
        have hcv : IntKind.u64.wrap (x : Int) = (x : Int) := by rw [IntKind.wrap_u64]; omega
        have hki : (6 : Int) < (n : Int) := by omega
        clear hx hM
        go_wp2_with fail
        go_round
        case rel => exact ⟨7, M, by omega, by go_num, rfl, HM.out⟩
        case measure => simp [intOf]
      · obtain ⟨x, y, M, hx, hxl, hM, hsh, hor⟩ := take_fact l 7 72057594037927936 N (by decide) (by rw [Hll.out]; decide) (by decide) Hl.out HN.out
        rw [← hx] at hcell
        have HM := Lib.hid hM
        have hcv : IntKind.u64.wrap (x : Int) = (x : Int) := by rw [IntKind.wrap_u64]; omega
        have hki : (7 : Int) < (n : Int) := by omega
        clear hx hM
        go_wp2_with fail
        go_round
        case rel => exact ⟨8, M, by omega, by go_num, rfl, HM.out⟩
        case measure => simp [intOf]
    · obtain rfl : k = 8 := by omega
      have hN := HN.out
      rw [List.take_of_length_le (by rw [Hll.out]; exact Nat.le_refl _), ← Hr.out] at hN
      subst hN
      have hw : IntKind.u64.wrap (N : Int) = (N : Int) := by have := Hlt.out; rw [← Hr.out] at this; rw [IntKind.wrap_u64]; omega
      go_wp2_with fail
      go_ret
      exact ⟨rfl, rfl⟩
set_option maxRecDepth 100000 in
set_option maxHeartbeats 1000000 in
theorem at64_any (v : Value) (b : List Nat) (i : Nat) (hi : i + 8 ≤ b.length) (w : World) (hv : Bytes w v b) :
    Calls Tryz.prog 123 #[v, .int .i64 i] w fun e w' => e = .returned (.tuple #[.int .u64 (numAt 8 b i), .int .i64 0]) ∧ w = w' := by
  obtain ⟨a, c, rfl, hnc, hcm, -, hp⟩ := hv.opened
  obtain ⟨g, off, rfl, hg, hc⟩ := hp (by omega)
  have hn9 : b.length ≤ 9223372036854775807 := by unfold maxLen at hcm; omega
  have Hh := Lib.hid (has64_any (some ⟨g, off, none⟩) b.length c i hn9 w)
  rw [decide_eq_true hi] at Hh
  have HT := Lib.hid (take64_any g (off + i) (b.length - i) (c - i) ((b.drop i).take 8) (by rw [List.length_take, List.length_drop]; omega) (by omega) (by omega)
    (fun y hy => hv.2 y (List.mem_of_mem_drop (List.mem_of_mem_take hy))) w (fun k hk => by rw [part_getD b i 8 k hk, Nat.add_assoc]; exact hc (i + k) (by omega)))
  have hi0 : (0 : Int) ≤ (i : Int) := by omega
  have hi1 : (i : Int) ≤ (b.length : Int) := by omega
  rw [show deW ((b.drop i).take 8) = numAt 8 b i from rfl] at HT
  clear hv hp hc hcm
  generalize numAt 8 b i = x at *
  go_enter Tryz.func123, Tryz.ntmps123
  go_wp2_with fail
  refine Hh.out.mono ?_
  rintro e w1 ⟨rfl, rfl⟩
  go_wp2_with fail
  refine HT.out.mono ?_
  rintro e w1 ⟨rfl, rfl⟩
  go_wp2_with fail
  go_ret2
  exact ⟨rfl, rfl⟩
theorem word32_any (v : Value) (b : List Nat) (i : Nat) (hi : i + 4 ≤ b.length) (w : World) (hv : Bytes w v b) :
    Calls Tryz.prog 103 #[v, .int .i64 i] w fun e w' => e = .returned (.int .u32 (numAt 4 b i)) ∧ w = w' := by
  have H := Lib.hid (at32_any v b i hi w hv)
  obtain ⟨a, c, rfl, -⟩ := hv.1
  clear hv
  generalize numAt 4 b i = x at *
  go_enter Tryz.func103, Tryz.ntmps103
  go_wp2_with fail
  refine H.out.mono ?_
  rintro e w1 ⟨rfl, rfl⟩
  go_wp2_with fail
  go_ret
  exact ⟨rfl, rfl⟩
theorem clean_with (b : List Nat) : withN b 24 0 = cleanN b := rfl
theorem ret_int {k : IntKind} {a b : Int} (h : a = b) : Ending.returned (.int k a) = .returned (.int k b) := by rw [h]
theorem clean_lt {b : List Nat} (h : ∀ x ∈ b, x < 256) : ∀ x ∈ cleanN b, x < 256 := by rw [← clean_with]; exact withN_lt h 24 0
theorem clean_length {b : List Nat} (h : 28 ≤ b.length) : (cleanN b).length = b.length := by rw [← clean_with]; exact withN_length (by omega)
def four (b : List Nat) : ByteArray := strOfNums ((b.take 4).map fun (x : Nat) => (x : Int))
theorem four_eq {b : List Nat} (h : ∀ x ∈ b, x < 256) : four b = ⟨#[83, 65, 86, 33]⟩ ↔ b.take 4 = [83, 65, 86, 33] := by
  have h4 : ∀ x ∈ b.take 4, x < 256 := fun x hx => h x (List.mem_of_mem_take hx)
  unfold four strOfNums
  constructor
  · intro e
    have e1 : ((b.take 4).map fun (x : Nat) => UInt8.ofNat x) = [83, 65, 86, 33] := by
      have := congrArg (fun s : ByteArray => s.data.toList) e
      simpa [Function.comp_def] using this
    have e2 := congrArg (List.map UInt8.toNat) e1
    simp only [List.map_map] at e2
    have e3 : (b.take 4).map (UInt8.toNat ∘ fun (x : Nat) => UInt8.ofNat x) = b.take 4 := by
      conv => rhs; rw [← List.map_id (b.take 4)]
      refine List.map_congr_left fun x hx => ?_
      have := h4 x hx
      simp [UInt8.toNat_ofNat']
      omega
    rw [e3] at e2
    exact e2
  · intro e
    rw [e]
    rfl
set_option maxRecDepth 100000 in
set_option maxHeartbeats 4000000 in
theorem look1_any {w : World} {p : Nat} {v : Value} {b : List Nat} (hp : w.cell? ⟨p, 0, none⟩ = some v) (hv : Bytes w v b) (hn : b.length ≤ 140737488351232) :
    Calls Tryz.prog 122 #[.pointer (some ⟨p, 0, none⟩)] w fun e w' => e = .returned (.int .i64 (if (lookN b).2 = 0 then -1 else ((lookN b).1 : Int))) ∧ Below w.heap.size w w' := by
  obtain ⟨R, hR⟩ : ∃ R : Int, R = (if (lookN b).2 = 0 then -1 else ((lookN b).1 : Int)) := ⟨_, rfl⟩
  rw [← hR]
  have HR := Lib.hid hR
  clear hR
  have HV := Lib.hid hv
  obtain ⟨a, c, rfl, hnc, hcm, -, hpc⟩ := hv.opened
  by_cases h48 : b.length < 48
  · have hE := Lib.hid (show R = (b.length : Int) from by rw [HR.out]; unfold lookN; rw [if_pos h48]; rfl)
    have hlt : (b.length : Int) < 48 := by omega
    clear hv hpc
    go_enter Tryz.func122, Tryz.ntmps122
    go_wp2_with fail
    go_ret
    exact ⟨ret_int hE.out.symm, Below.refl _ _⟩
  · obtain ⟨g, off, rfl, hg, hc⟩ := hpc (by omega)
    have hge : ¬ (b.length : Int) < 48 := by omega
    have HW := Lib.hid (with_any _ b 24 0 (by decide) (by omega) (by omega) w hv)
    rw [clean_with, clean_length (by omega)] at HW
    have HWo := Lib.hid (fun (W : World) (hW : Below w.heap.size w W) (i : Nat) (hi : i + 4 ≤ b.length) => word32_any _ b i hi W (HV.out.below hW))
    have H4 := Lib.hid (fun W hW => HWo.out W hW 4 (by omega))
    have H16 := Lib.hid (fun W hW => HWo.out W hW 16 (by omega))
    have H20 := Lib.hid (fun W hW => HWo.out W hW 20 (by omega))
    have H24 := Lib.hid (fun W hW => HWo.out W hW 24 (by omega))
    have hcv : ∀ W, Below w.heap.size w W → ∀ dst, Tryz.prog.underlying dst = some .string → (convert 24 dst (.slice (some ⟨g, off, none⟩) 4 c)).run Tryz.prog W = .ok (.string (four b)) W := fun W hW => by
      refine run_convert_bytes_arg W 24 5 Tryz.underlying24 Tryz.underlying5 g off 4 c ((b.take 4).map fun (x : Nat) => (x : Int)) (by simp; omega) fun i hi => ?_
      refine (hW.cell (p := ⟨g, off + i, none⟩) hg).trans ((hc i (by omega)).trans ?_)
      simp [List.getD_eq_getElem?_getD, hi, show i < b.length by omega]
    have HCv := Lib.hid (fun W hW => hcv W hW 9 Tryz.underlying9)
    have hlb := World.block_lt_of_cell? _ _ hp
    have Hlt := Lib.hid (clean_lt hv.2)
    have HF := Lib.hid (four_eq hv.2)
    have HL := Lib.hid (show lookN b = _ from rfl)
    unfold lookN at HL HR
    rw [if_neg h48] at HL HR
    clear hv hc hcv HWo
    generalize four b = fb at *
    generalize numAt 4 b 4 = n4 at *
    generalize numAt 4 b 16 = n16 at *
    generalize numAt 4 b 20 = n20 at *
    generalize numAt 4 b 24 = n24 at *
    clear HL
    go_enter Tryz.func122, Tryz.ntmps122
    go_wp2_with fail
    refine HW.out.mono ?_
    rintro e w1 ⟨u, rfl, ho, hb1⟩
    have HB1 := Lib.hid hb1
    have hp1 := (hb1.cell (p := ⟨p, 0, none⟩) hlb).trans hp
    have hcv1 := HCv.out w1 hb1
    have HCl := Lib.hid (own_bytes ho Hlt.out)
    have HSm := Lib.hid (sum_bytes u (cleanN b) w1 HCl.out)
    generalize sumN (cleanN b) = sm at *
    have hci : (4 : Int) ≤ (c : Int) := by omega
    clear ho hb1 HW HCl
    by_cases hm : b.take 4 = [83, 65, 86, 33]
    · have hfe := HF.out.2 hm
      have hfq : (fb != ⟨#[83, 65, 86, 33]⟩) = false := by rw [hfe]; decide
      subst hfe
      by_cases q4 : n4 = 1
      · subst q4
        by_cases q16 : 1 < n16
        · have hE := Lib.hid (show R = 16 from by rw [HR.out]; simp [hm, q16])
          have hi16 : (1 : Int) < (n16 : Int) := by omega
          go_wp2_with fail
          refine (H4.out w1 HB1.out).mono ?_
          rintro e w2 ⟨rfl, rfl⟩
          go_wp2_with fail
          refine (H16.out w1 HB1.out).mono ?_
          rintro e w2 ⟨rfl, rfl⟩
          go_wp2_with fail
          go_ret
          exact ⟨ret_int hE.out.symm, HB1.out⟩
        · have hi16 : ¬ (1 : Int) < (n16 : Int) := by omega
          go_wp2_with fail
          refine (H4.out w1 HB1.out).mono ?_
          rintro e w2 ⟨rfl, rfl⟩
          go_wp2_with fail
          refine (H16.out w1 HB1.out).mono ?_
          rintro e w2 ⟨rfl, rfl⟩
          have hn16 : n16 = 0 ∨ n16 = 1 := by omega
          rcases hn16 with rfl | rfl
          · by_cases q20 : n20 = 0
            · subst q20
              by_cases q24 : n24 = sm
              · have hE := Lib.hid (show R = -1 from by rw [HR.out]; simp [hm, q24])
                subst q24
                go_wp2_with fail
                refine (H16.out w1 HB1.out).mono ?_
                rintro e w2 ⟨rfl, rfl⟩
                go_wp2_with fail
                refine (H20.out w1 HB1.out).mono ?_
                rintro e w2 ⟨rfl, rfl⟩
                go_wp2_with fail
                refine (H24.out w1 HB1.out).mono ?_
                rintro e w2 ⟨rfl, rfl⟩
                go_wp2_with fail
                refine HSm.out.mono ?_
                rintro e w2 ⟨rfl, rfl⟩
                go_wp2_with fail
                go_ret
                exact ⟨ret_int hE.out.symm, HB1.out⟩
              · have hE := Lib.hid (show R = 24 from by rw [HR.out]; simp [hm, q24])
                have hne : ((n24 : Int) != (sm : Int)) = true := by rw [bne, int_beq_ne q24]; rfl
                have hne2 : ((n24 : Int) == (sm : Int)) = false := int_beq_ne q24
                go_wp2_with fail
                refine (H16.out w1 HB1.out).mono ?_
                rintro e w2 ⟨rfl, rfl⟩
                go_wp2_with fail
                refine (H20.out w1 HB1.out).mono ?_
                rintro e w2 ⟨rfl, rfl⟩
                go_wp2_with fail
                refine (H24.out w1 HB1.out).mono ?_
                rintro e w2 ⟨rfl, rfl⟩
                go_wp2_with fail
                refine HSm.out.mono ?_
                rintro e w2 ⟨rfl, rfl⟩
                go_wp2_with fail
                go_ret
                exact ⟨ret_int hE.out.symm, HB1.out⟩
            · have hE := Lib.hid (show R = 20 from by rw [HR.out]; simp [hm, q20])
              have hne : ((n20 : Int) != 0) = true := by rw [bne, show ((n20 : Int) == 0) = false from int_beq_ne q20]; rfl
              have hne2 : ((n20 : Int) == 0) = false := int_beq_ne q20
              go_wp2_with fail
              refine (H16.out w1 HB1.out).mono ?_
              rintro e w2 ⟨rfl, rfl⟩
              go_wp2_with fail
              refine (H20.out w1 HB1.out).mono ?_
              rintro e w2 ⟨rfl, rfl⟩
              go_wp2_with fail
              go_ret
              exact ⟨ret_int hE.out.symm, HB1.out⟩
          · by_cases q24 : n24 = sm
            · have hE := Lib.hid (show R = -1 from by rw [HR.out]; simp [hm, q24])
              subst q24
              go_wp2_with fail
              refine (H16.out w1 HB1.out).mono ?_
              rintro e w2 ⟨rfl, rfl⟩
              go_wp2_with fail
              refine (H24.out w1 HB1.out).mono ?_
              rintro e w2 ⟨rfl, rfl⟩
              go_wp2_with fail
              refine HSm.out.mono ?_
              rintro e w2 ⟨rfl, rfl⟩
              go_wp2_with fail
              go_ret
              exact ⟨ret_int hE.out.symm, HB1.out⟩
            · have hE := Lib.hid (show R = 24 from by rw [HR.out]; simp [hm, q24])
              have hne : ((n24 : Int) != (sm : Int)) = true := by rw [bne, int_beq_ne q24]; rfl
              have hne2 : ((n24 : Int) == (sm : Int)) = false := int_beq_ne q24
              go_wp2_with fail
              refine (H16.out w1 HB1.out).mono ?_
              rintro e w2 ⟨rfl, rfl⟩
              go_wp2_with fail
              refine (H24.out w1 HB1.out).mono ?_
              rintro e w2 ⟨rfl, rfl⟩
              go_wp2_with fail
              refine HSm.out.mono ?_
              rintro e w2 ⟨rfl, rfl⟩
              go_wp2_with fail
              go_ret
              exact ⟨ret_int hE.out.symm, HB1.out⟩
      · have hE := Lib.hid (show R = 4 from by rw [HR.out]; simp [hm, q4])
        have hne : ((n4 : Int) != 1) = true := by simp; omega
        have hne2 : ((n4 : Int) == 1) = false := by simp; omega
        go_wp2_with fail
        refine (H4.out w1 HB1.out).mono ?_
        rintro e w2 ⟨rfl, rfl⟩
        go_wp2_with fail
        go_ret
        exact ⟨ret_int hE.out.symm, HB1.out⟩
    · have hfn : fb ≠ ⟨#[83, 65, 86, 33]⟩ := fun h => hm (HF.out.1 h)
      have hfq2 : (fb.toList == [83, 65, 86, 33]) = false := beq_eq_false_iff_ne.2 (fun e => hfn (by
        rw [ByteArray.toList_eq] at e
        obtain ⟨⟨l⟩⟩ := fb
        have e' : l = [83, 65, 86, 33] := e
        rw [e']))
      have hE := Lib.hid (show R = 0 from by rw [HR.out]; simp [hm])
      go_wp2_with fail
      go_ret
      exact ⟨ret_int hE.out.symm, HB1.out⟩
theorem look_two (b : List Nat) : ((lookN b).2 = 0 ∧ 48 ≤ b.length ∧ numAt 4 b 16 ≤ 1) ∨ (lookN b).2 = 200 := by
  unfold lookN
  by_cases c1 : b.length < 48
  · rw [if_pos c1]; exact .inr rfl
  rw [if_neg c1]
  by_cases c2 : b.take 4 ≠ [83, 65, 86, 33]
  · rw [if_pos c2]; exact .inr rfl
  rw [if_neg c2]
  by_cases c3 : numAt 4 b 4 ≠ 1
  · rw [if_pos c3]; exact .inr rfl
  rw [if_neg c3]
  by_cases c4 : 1 < numAt 4 b 16
  · rw [if_pos c4]; exact .inr rfl
  rw [if_neg c4]
  by_cases c5 : numAt 4 b 16 = 0 ∧ numAt 4 b 20 ≠ 0
  · rw [if_pos c5]; exact .inr rfl
  rw [if_neg c5]
  by_cases c6 : numAt 4 b 24 ≠ sumN (cleanN b)
  · rw [if_pos c6]; exact .inr rfl
  rw [if_neg c6]
  exact .inl ⟨rfl, by omega, by omega⟩
section
variable {P : Program}
theorem results_cell_tmp2 {fn : Func} {p q r : Tmp} {ty : TypeId} (h : fn.results = #[.cell p ty, .tmp q, .tmp r]) (tmps : Array Value) (w : World) (g : Nat) (t : TypeId) (cs : Array Value) (fr : Nat × Nat) (d : TypeDesc)
    (hp : tmps.getD p undef = .pointer (some ⟨g, 0, none⟩)) (hg : w.heap[g]? = some (.cells cs t fr))
    (hu : P.underlying ty = some d) (hd : (match d with | .struct _ | .array _ _ => true | _ => false) = true) (hi : (P.info? ty).map (·.size) = some cs.size) (v u : Value) (hv : tmps.getD q undef = v) (hu2 : tmps.getD r undef = u) :
    (results fn tmps).run P w = .ok (.tuple #[.agg cs, v, u]) w := by
  have hp' : tmps[p]?.getD undef = .pointer (some ⟨g, 0, none⟩) := by simpa using hp
  have hv' : tmps[q]?.getD undef = v := by simpa using hv
  have hu' : tmps[r]?.getD undef = u := by simpa using hu2
  simp [results, h, hp', hv', hu', asAddr, run_loadVar_row w g t ty cs fr d hg hu hd hi]
end
def savedV (d : Nat) (k : Bool) (m l pc : Nat) : Value := .agg #[.int .u64 d, .bool k, .int .u32 m, .int .u8 l, .int .u32 pc]
theorem zero288 (w : World) : (zeroValue 177).run Tryz.prog w = .ok (.agg #[.int .u64 0, .bool false, .int .u32 0, .int .u8 0, .int .u32 0]) w := by kernel_rfl
theorem b288_0 (w : World) : (Instr.build 177 #[]).run Tryz.prog w = .ok (.agg #[.int .u64 0, .bool false, .int .u32 0, .int .u8 0, .int .u32 0]) w := by kernel_rfl
theorem b288_5 (a c d e : Int) (k : Bool) (w : World) : (Instr.build 177 #[(0, .int .u64 a), (1, .bool k), (2, .int .u32 c), (3, .int .u8 d), (4, .int .u32 e)]).run Tryz.prog w = .ok (.agg #[.int .u64 a, .bool k, .int .u32 c, .int .u8 d, .int .u32 e]) w := by kernel_rfl
theorem info288 : (Tryz.prog.info? 177).map (·.size) = some 5 := by kernel_rfl
theorem size288 (a b c d e : Value) : (Tryz.prog.info? 177).map (·.size) = some (#[a, b, c, d, e] : Array Value).size := info288
def LookPost (b : List Nat) (w : World) (e : Ending) (w' : World) : Prop :=
  Below w.heap.size w w' ∧ (((lookN b).2 = 200 ∧ e = .returned (.tuple #[savedV 0 false 0 0 0, .int .i64 (lookN b).1, .int .i64 200])) ∨
    ((lookN b).2 = 0 ∧ e = .returned (.tuple #[savedV (numAt 8 b 8) (decide (numAt 4 b 16 = 1)) (numAt 4 b 20) (b.getD 28 0) (numAt 4 b 32), .int .i64 0, .int .i64 0])))
set_option maxRecDepth 100000 in
set_option maxHeartbeats 4000000 in
theorem look_any {w : World} {v : Value} {b : List Nat} (hv : Bytes w v b) (hn : b.length ≤ 140737488351232) : Calls Tryz.prog 100 #[v] w (LookPost b w) := by
  have hmf : ∀ (fn : Fn) (first cap : Array Value) (w : World), (Instr.makeFunc fn first cap).run Tryz.prog w = .ok (.func fn first cap) w := fun _ _ _ _ => rfl
  have hmx := mfollows
  have hz := zero288
  have hb0 := b288_0
  have hb5 := b288_5
  obtain ⟨W0, hW0⟩ : ∃ W0, W0 = (w.alloc (.cells #[v] 24)).alloc (.cells #[.int .u64 0, .bool false, .int .u32 0, .int .u8 0, .int .u32 0] 177) := ⟨_, rfl⟩
  have hbb : Below w.heap.size w W0 := by rw [hW0]; exact Bel.al (Bel.new _ _) _
  have hc0 : W0.cell? ⟨w.heap.size, 0, none⟩ = some v := by rw [hW0]; exact cell_alE (cell1_new w v 24 rfl)
  have HH0 : Hid (W0.heap[w.heap.size + 1]? = some (.cells #[.int .u64 0, .bool false, .int .u32 0, .int .u8 0, .int .u32 0] 177 (0, 0))) := Lib.hid (by
    rw [hW0]
    have := heap_alloc_new (w.alloc (.cells #[v] 24)) (.cells #[.int .u64 0, .bool false, .int .u32 0, .int .u8 0, .int .u32 0] 177)
    simpa using this)
  have hs0 : w.heap.size + 1 < W0.heap.size := by rw [hW0]; simp
  have HL := Lib.hid (look1_any hc0 (hv.below hbb) hn)
  have HV := Lib.hid (hv.below hbb)
  have HB := Lib.hid hbb
  obtain ⟨a, c, rfl, hnc, hcm, -, hpc⟩ := hv.opened
  unfold LookPost
  rcases look_two b with ⟨h0, h48, h16⟩ | h2
  · rw [if_pos h0] at HL
    obtain ⟨g, off, rfl, hg, hc⟩ := hpc (by omega)
    have h28 := hc 28 (by omega)
    have hbl : ((28 : Nat) : Int) < (b.length : Int) := by omega
    have hbl2 : (28 : Int) < (b.length : Int) := by omega
    clear hv hbb hpc hc
    go_enter Tryz.func100, Tryz.ntmps100
    go_wp2_with fail
    rw [← hW0]
    clear hW0
    refine HL.out.mono ?_
    rintro e w1 ⟨rfl, hb1⟩
    have HB1 := Lib.hid (Bel.tr HB.out hb1)
    have hc1 := (hb1.cell (p := ⟨w.heap.size, 0, none⟩) (show w.heap.size < _ by omega)).trans hc0
    have HH1 := Lib.hid ((hb1.block (w.heap.size + 1) hs0).trans HH0.out)
    have HV1 := Lib.hid (HV.out.below hb1)
    have H8 := Lib.hid (at64_any _ b 8 (by omega) w1 HV1.out)
    have H16 := Lib.hid ((word32_any _ b 16 (by omega) w1.drew (HV1.out.below (Below.refl _ _).drew)).mono (fun e w' (h : _ ∧ _) => And.intro h.1 h.2.symm))
    have H20 := Lib.hid ((word32_any _ b 20 (by omega) w1.drew (HV1.out.below (Below.refl _ _).drew)).mono (fun e w' (h : _ ∧ _) => And.intro h.1 h.2.symm))
    have H32 := Lib.hid ((word32_any _ b 32 (by omega) w1.drew (HV1.out.below (Below.refl _ _).drew)).mono (fun e w' (h : _ ∧ _) => And.intro h.1 h.2.symm))
    have e28 := ((Bel.tr HB.out hb1).cell (p := ⟨g, off + 28, none⟩) hg).trans h28
    have HH1d : Hid (w1.drew.heap[w.heap.size + 1]? = some (.cells #[.int .u64 0, .bool false, .int .u32 0, .int .u8 0, .int .u32 0] 177 (0, 0))) := Lib.hid HH1.out
    generalize h_n8 : numAt 8 b 8 = n8 at *
    have E_n8 := Lib.hid h_n8
    clear h_n8
    generalize h_n16 : numAt 4 b 16 = n16 at *
    have E_n16 := Lib.hid h_n16
    clear h_n16
    generalize h_n20 : numAt 4 b 20 = n20 at *
    have E_n20 := Lib.hid h_n20
    clear h_n20
    generalize h_n32 : numAt 4 b 32 = n32 at *
    have E_n32 := Lib.hid h_n32
    clear h_n32
    generalize h_b28 : b.getD 28 0 = b28 at *
    have E_b28 := Lib.hid h_b28
    clear h_b28
    clear hb1 HL h28
    go_wp2_with fail
    refine H8.out.mono ?_
    rintro e w2 ⟨rfl, rfl⟩
    go_wp2_with fail
    have hn16 : n16 = 0 ∨ n16 = 1 := by omega
    rcases hn16 with rfl | rfl
    all_goals
      refine wp_region_still_tail 12 hmx (by kernel_rfl) ?_
      simp only [List.take_succ_cons, List.take_zero, List.drop_succ_cons, List.drop_zero]
      repeat still_step
      still_call (H16.out)
      repeat still_step
      still_call (H20.out)
      repeat still_step
      still_call (H32.out)
      repeat still_step
      refine wpStill_nil ?_
      change wpList _ _ _ _ _ w1.drew
    · have hsz := size288 (.int .u64 n8) (.bool false) (.int .u32 n20) (.int .u8 b28) (.int .u32 n32)
      go_wp2_with (((with_reducible refine wpList_store_row (o := ⟨none, .store 177 (.tmp 2) (.tmp 30), _, _, _, none⟩) rfl 177 _ _ rfl (w.heap.size + 1) #[.int .u64 n8, .bool false, .int .u32 n20, .int .u8 b28, .int .u32 n32] ?_ ?_ 177 _ HH1d.out ?_ ?_ ?_ ?_); rfl; rfl; exact hsz; rfl; (simp [Value.oneCell'])))
      refine bodyPost_ret (v := .tuple #[.agg #[.int .u64 n8, .bool false, .int .u32 n20, .int .u8 b28, .int .u32 n32], .int .i64 0, .int .i64 0]) (results_cell_tmp2 Tryz.results100 _ _ (w.heap.size + 1) 177 _ (0, 0) _ rfl (setRow_heap _ _ _ _ _ _ HH1d.out) Tryz.underlying177 rfl hsz _ _ rfl rfl) rfl ⟨below_setRow HB1.out.drew _ (by omega) _, .inr ⟨h0, ?_⟩⟩
      rw [E_n8.out, E_n16.out, E_n20.out, E_b28.out, E_n32.out]
      rfl
    · have hsz := size288 (.int .u64 n8) (.bool true) (.int .u32 n20) (.int .u8 b28) (.int .u32 n32)
      go_wp2_with (((with_reducible refine wpList_store_row (o := ⟨none, .store 177 (.tmp 2) (.tmp 30), _, _, _, none⟩) rfl 177 _ _ rfl (w.heap.size + 1) #[.int .u64 n8, .bool true, .int .u32 n20, .int .u8 b28, .int .u32 n32] ?_ ?_ 177 _ HH1d.out ?_ ?_ ?_ ?_); rfl; rfl; exact hsz; rfl; (simp [Value.oneCell'])))
      refine bodyPost_ret (v := .tuple #[.agg #[.int .u64 n8, .bool true, .int .u32 n20, .int .u8 b28, .int .u32 n32], .int .i64 0, .int .i64 0]) (results_cell_tmp2 Tryz.results100 _ _ (w.heap.size + 1) 177 _ (0, 0) _ rfl (setRow_heap _ _ _ _ _ _ HH1d.out) Tryz.underlying177 rfl hsz _ _ rfl rfl) rfl ⟨below_setRow HB1.out.drew _ (by omega) _, .inr ⟨h0, ?_⟩⟩
      rw [E_n8.out, E_n16.out, E_n20.out, E_b28.out, E_n32.out]
      rfl
  · rw [if_neg (by omega)] at HL
    have hge : (0 : Int) ≤ (((lookN b).1 : Nat) : Int) := by omega
    clear hv hbb hpc
    generalize (lookN b).1 = pl at *
    go_enter Tryz.func100, Tryz.ntmps100
    go_wp2_with fail
    rw [← hW0]
    clear hW0
    refine HL.out.mono ?_
    rintro e w1 ⟨rfl, hb1⟩
    have HB1 := Lib.hid (Bel.tr HB.out hb1)
    have HH1 := Lib.hid ((hb1.block (w.heap.size + 1) hs0).trans HH0.out)
    have hsz := size288 (.int .u64 0) (.bool false) (.int .u32 0) (.int .u8 0) (.int .u32 0)
    clear hb1 HL
    go_wp2_with (((with_reducible refine wpList_store_row (o := ⟨none, .store 177 (.tmp 2) (.tmp 12), _, _, _, none⟩) rfl 177 _ _ rfl (w.heap.size + 1) #[.int .u64 0, .bool false, .int .u32 0, .int .u8 0, .int .u32 0] ?_ ?_ 177 _ HH1.out ?_ ?_ ?_ ?_); rfl; rfl; exact hsz; rfl; (simp [Value.oneCell'])))
    refine bodyPost_ret (v := .tuple #[.agg #[.int .u64 0, .bool false, .int .u32 0, .int .u8 0, .int .u32 0], .int .i64 pl, .int .i64 200]) (results_cell_tmp2 Tryz.results100 _ _ (w.heap.size + 1) 177 _ (0, 0) _ rfl (setRow_heap _ _ _ _ _ _ HH1.out) Tryz.underlying177 rfl hsz _ _ rfl rfl) rfl ⟨below_setRow HB1.out _ (by omega) _, .inl ⟨h2, ?_⟩⟩
    unfold savedV
    simp
theorem wordsN_append (m : List Nat) : ∀ (j : Nat) (l : List Nat), l.length = 4 * j → wordsN (l ++ m) = wordsN l ++ wordsN m
  | 0, l, h => by
    rw [List.eq_nil_of_length_eq_zero (by omega : l.length = 0)]; rfl
  | j + 1, a :: b :: c :: d :: l, h => by
    have := wordsN_append m j l (by simp only [List.length_cons] at h; omega)
    simp only [List.cons_append, wordsN, this]
  | j + 1, [], h => by simp at h
  | j + 1, [_], h => by simp at h; omega
  | j + 1, [_, _], h => by simp at h; omega
  | j + 1, [_, _, _], h => by simp at h; omega
theorem wordsN_four {l : List Nat} (h : l.length = 4) : wordsN l = [deW l] := by
  match l, h with
  | [a, b, c, d], _ => rfl
theorem wordsN_step {b : List Nat} {j : Nat} (h : 4 * j + 4 ≤ b.length) : wordsN (b.take (4 * (j + 1))) = wordsN (b.take (4 * j)) ++ [deW ((b.drop (4 * j)).take 4)] := by
  have e : b.take (4 * (j + 1)) = b.take (4 * j) ++ (b.drop (4 * j)).take 4 := by
    rw [show 4 * (j + 1) = 4 * j + 4 from by omega, List.take_add]
  rw [e, wordsN_append _ j _ (by rw [List.length_take]; omega), wordsN_four (l := (b.drop (4 * j)).take 4) (by rw [List.length_take, List.length_drop]; omega)]
theorem wordsN_length : ∀ (j : Nat) (l : List Nat), l.length = 4 * j → (wordsN l).length = j
  | 0, l, h => by rw [List.eq_nil_of_length_eq_zero (by omega : l.length = 0)]; rfl
  | j + 1, a :: b :: c :: d :: l, h => by
    have := wordsN_length j l (by simp only [List.length_cons] at h; omega)
    simp only [wordsN, List.length_cons, this]
  | j + 1, [], h => by simp at h
  | j + 1, [_], h => by simp at h; omega
  | j + 1, [_, _], h => by simp at h; omega
  | j + 1, [_, _, _], h => by simp at h; omega
theorem grew_keep {w0 w w' : World} {e sz n k : Nat} {v v' : Value} {xs ys : List Value} (hb : Below w0.heap.size w0 w) (ho : w.ownsRow w0.heap.size e sz v k xs) (hg : Grew w w' v v') (h : w'.ownsRow 0 e sz v' n ys) :
    w'.ownsRow w0.heap.size e sz v' n ys ∧ Below w0.heap.size w0 w' :=
  ⟨own_from h (fun g e => by
    rcases hg.2 g e with h' | h'
    · exact (ho.lt g h').1
    · exact Nat.le_trans hb.size h'), hb.grown hg.1 hb.size (fun g e => (ho.lt g e).1)⟩
set_option maxRecDepth 100000 in
set_option maxHeartbeats 2000000 in
theorem all32_any {w : World} {v : Value} {b : List Nat} (hv : Bytes w v b) (k : Nat) (hk : b.length = 4 * k) (hk2 : k ≤ 65535) :
    Calls Tryz.prog 104 #[v] w fun e w' => ∃ u, e = .returned (.tuple #[u, .int .i64 0]) ∧ w'.ownsRow w.heap.size 25 1 u k (encN .u32 (wordsN b)) ∧ Below w.heap.size w w' := by
  obtain ⟨i0, hi, hz0, hz1, hz2⟩ := info_parts inf25
  have hbs := bs23_1
  have HV := Lib.hid hv
  obtain ⟨a, c, rfl, hnc, hcm, -, hp⟩ := hv.opened
  have Hp := Lib.hid hp
  have hn9 : b.length ≤ 9223372036854775807 := by omega
  have hmod : ((b.length : Nat) : Int) % 4 = 0 := by omega
  have hmod2 : Int.tmod ((b.length : Nat) : Int) 4 = 0 := by rw [Int.tmod_eq_emod_of_nonneg (by omega)]; omega
  have HK := Lib.hid hk
  clear hv hp hk
  go_enter Tryz.func104, Tryz.ntmps104
  go_wp2_with fail
  refine (width_any _).mono ?_
  rintro e w1 ⟨rfl, rfl⟩
  go_wp2_with fail
  go_loopw [5, 6] (fun o i wr => ∃ j : Nat, j ≤ k ∧ i = .int .i64 ((4 * j : Nat) : Int) ∧ wr.ownsRow w.heap.size 25 1 o j (encN .u32 (wordsN (b.take (4 * j)))) ∧ Below w.heap.size w wr) (fun _ i _ => 4 * k + 1 - (intOf i).toNat)
  case atStart => exact ⟨0, by omega, rfl, World.ownsRow_nil _ _ _ _, Below.refl _ _⟩
  case round =>
    obtain ⟨j, hj, rfl, ho, hb⟩ := hrel
    obtain ⟨wo, rfl⟩ : ∃ wo : World, wo = wr := ⟨_, rfl⟩
    have HO := Lib.hid ho
    have HB := Lib.hid hb
    clear ho hb
    by_cases hlt : j < k
    · have hk := HK.out
      obtain ⟨g, off, rfl, hg, hc⟩ := Hp.out (by omega)
      have HT := Lib.hid (fun (W : World) (hW : Below w.heap.size w W) => take32_any g (off + 4 * j) (b.length - 4 * j) (c - 4 * j) ((b.drop (4 * j)).take 4) (by rw [List.length_take, List.length_drop]; omega) (by omega) (by omega)
        (fun y hy => HV.out.2 y (List.mem_of_mem_drop (List.mem_of_mem_take hy))) W (fun t ht => by rw [part_getD b (4 * j) 4 t ht, Nat.add_assoc]; exact (hW.cell (p := ⟨g, off + (4 * j + t), none⟩) hg).trans (hc (4 * j + t) (by omega))))
      have HS := Lib.hid (wordsN_step (b := b) (j := j) (by omega))
      have hi0 : (0 : Int) ≤ ((4 * j : Nat) : Int) := by omega
      have hi1 : ((4 * j : Nat) : Int) ≤ ((b.length : Nat) : Int) := by omega
      have hi2 : ((4 * j : Nat) : Int) < ((b.length : Nat) : Int) := by omega
      have hcq : ¬ c = 4 * j := by omega
      have HOo := Lib.hid (own_base HO.out)
      generalize deW ((b.drop (4 * j)).take 4) = x at *
      generalize hq : 4 * j = q at *
      have Hq := Lib.hid hq
      clear hq hc hk
      go_wp2_with fail
      with_reducible refine (HT.out wo HB.out).mono ?_
      rintro e w2 ⟨rfl, rfl⟩
      go_wp2_with ((with_reducible refine wpList_append1B (o := ⟨some 26, .call { callee := .builtin .append, args := #[.tmp 20, .tmp 25], argTypes := #[23, 23] }, _, _, _, none⟩) rfl _ _ 23 rfl 25 i0 (.int .u32 0) 1 4 Tryz.underlying23 hi hz0 hz1 hz2 ?_ ?_ _ _ _ HOo.out _ _ wo.heap.size ?_ ?_ ?_ ?_ ?_ ?_ ?_ ?_); rfl; decide; rfl; rfl; rfl; rfl; (simp [Value.oneCell']); (unfold maxLen; omega); omega; intro g9 c9 w9 o9 r9 hl9)
      go_roundw
      case rel =>
        have hg9 := grew_keep HB.out HO.out r9 o9
        exact ⟨j + 1, by omega, by have := Hq.out; go_num, by rw [HS.out, encN_append]; exact hg9.1, hg9.2⟩
      case measure => have := Hq.out; simp [intOf]; omega
    · obtain rfl : j = k := by omega
      have hge : ¬ ((4 * j : Nat) : Int) < ((b.length : Nat) : Int) := by have := HK.out; omega
      rw [← HK.out, List.take_length] at HO
      go_wp2_with fail
      go_ret2
      exact ⟨_, rfl, HO.out, HB.out⟩
theorem words_opened {w : World} {v : Value} {l : List Nat} (h : Words w v l) : ∃ (a : Option Addr) (cap : Nat), v = .slice a l.length cap ∧ l.length ≤ cap ∧ cap ≤ maxLen ∧ (a = none → cap = 0) ∧
    (0 < l.length → ∃ b off, a = some ⟨b, off, none⟩ ∧ b < w.heap.size ∧ ∀ k, k < l.length → w.cell? ⟨b, off + k, none⟩ = some (.int .u32 (l.getD k 0 : Nat))) := by
  obtain ⟨⟨a, cap, hv, hl, hn, hm, ha, hp⟩, _⟩ := h
  refine ⟨a, cap, hv, hn, hm, ha, fun h0 => ?_⟩
  obtain ⟨b, off, e, hlt, hc⟩ := hp h0
  exact ⟨b, off, e, hlt, fun k hk => by rw [hc k (by rw [encN_length]; omega), encN_at _ l k hk]⟩
set_option maxRecDepth 100000 in
set_option maxHeartbeats 1000000 in
theorem equal_any {w : World} {v1 v2 : Value} {a b : List Nat} (h1 : Bytes w v1 a) (h2 : Bytes w v2 b) :
    Calls Tryz.prog 106 #[v1, v2] w fun e w' => e = .returned (.bool (decide (a = b))) ∧ Below w.heap.size w w' := by
  obtain ⟨a1, c1, rfl, hn1, hm1, -, hp1⟩ := Bytes.opened h1
  obtain ⟨a2, c2, rfl, -, hm2, -, hp2⟩ := Bytes.opened h2
  have P1 := Lib.hid hp1
  have P2 := Lib.hid hp2
  have hl9 : a.length ≤ 9223372036854775807 := by unfold maxLen at hm1; omega
  clear hp1 hp2 h1 h2 hm1 hm2 hn1
  obtain ⟨R, hR⟩ : ∃ R : Bool, R = decide (a = b) := ⟨_, rfl⟩
  rw [← hR]
  have HR := Lib.hid hR
  clear hR
  by_cases hl : a.length = b.length
  · rw [← hl] at P2 ⊢
    have HX := Lib.hid (fun (h : ∀ j, j < a.length → a.getD j 0 = b.getD j 0) => ext_getD hl h)
    have HL := Lib.hid hl
    generalize hnn : a.length = n at *
    go_enter Tryz.func106, Tryz.ntmps106
    go_wp2_with fail
    go_loopw [13] (fun i wr => ∃ k : Nat, k ≤ n ∧ i = .int .i64 k ∧ (∀ j, j < k → a.getD j 0 = b.getD j 0) ∧ Below w.heap.size w wr) (fun i _ => n - (intOf i).toNat)
    case atStart => exact ⟨0, by omega, rfl, fun j hj => absurd hj (Nat.not_lt_zero j), Below.refl _ _⟩
    case round =>
      obtain ⟨k, hk, rfl, hj, hb⟩ := hrel
      have HJ := Lib.hid hj
      have HB := Lib.hid hb
      clear hj hb
      by_cases hlt : k < n
      · obtain ⟨b1, o1, rfl, hb1, hc1⟩ := P1.out (by omega)
        obtain ⟨b2, o2, rfl, hb2, hc2⟩ := P2.out (by omega)
        have y1 := (HB.out.cell (p := ⟨b1, o1 + k, none⟩) hb1).trans (hc1 k hlt)
        have y2 := (HB.out.cell (p := ⟨b2, o2 + k, none⟩) hb2).trans (hc2 k hlt)
        have hki : (k : Int) < (n : Int) := by omega
        have hk0 : (0 : Int) ≤ (k : Int) := by omega
        clear hc1 hc2
        by_cases heq : a.getD k 0 = b.getD k 0
        · have HE := Lib.hid heq
          rw [heq] at y1
          clear heq
          generalize b.getD k 0 = x at y1 y2
          go_wp2_with fail
          go_quiet (fail)
          go_wp2
          go_roundw
          case rel => exact ⟨k + 1, by omega, by go_num, fun j hj => by
            by_cases e : j = k
            · rw [e]; exact HE.out
            · exact HJ.out j (by omega), below_drewN HB.out nq⟩
          case measure => simp [intOf]; omega
        · have hne : a ≠ b := fun e => heq (by rw [e])
          have hd1 := int_beq_ne heq
          have hd2 : (((a.getD k 0 : Nat) : Int) != ((b.getD k 0 : Nat) : Int)) = true := by rw [bne, hd1]; rfl
          have HF := Lib.hid (HR.out.trans (decide_eq_false hne))
          clear heq
          generalize a.getD k 0 = x1 at y1 hd1 hd2
          generalize b.getD k 0 = x2 at y2 hd1 hd2
          go_wp2_with fail
          go_quiet (fail)
          go_wp2
          go_ret
          exact ⟨ret_boolE HF.out.symm, below_drewN HB.out nq⟩
      · obtain rfl : k = n := by omega
        have HF := Lib.hid (HR.out.trans (decide_eq_true (HX.out HJ.out)))
        go_wp2_with fail
        go_ret
        exact ⟨ret_boolE HF.out.symm, HB.out⟩
  · have hne : a ≠ b := fun e => hl (by rw [e])
    have hd1 := int_beq_ne hl
    have hd2 : (((a.length : Nat) : Int) != ((b.length : Nat) : Int)) = true := by rw [bne, hd1]; rfl
    have HF := Lib.hid (HR.out.trans (decide_eq_false hne))
    go_enter Tryz.func106, Tryz.ntmps106
    go_wp2_with fail
    go_ret
    exact ⟨ret_boolE HF.out.symm, Below.refl _ _⟩
set_option maxRecDepth 100000 in
set_option maxHeartbeats 1000000 in
theorem sameBytes_any {w : World} {v1 v2 : Value} {a b : List Nat} (h1 : Bytes w v1 a) (h2 : Bytes w v2 b) :
    Calls Tryz.prog 13 #[v1, v2] w fun e w' => e = .returned (.bool (decide (a = b))) ∧ Below w.heap.size w w' := by
  obtain ⟨a1, c1, rfl, hn1, hm1, -, hp1⟩ := Bytes.opened h1
  obtain ⟨a2, c2, rfl, -, hm2, -, hp2⟩ := Bytes.opened h2
  have P1 := Lib.hid hp1
  have P2 := Lib.hid hp2
  have hl9 : a.length ≤ 9223372036854775807 := by unfold maxLen at hm1; omega
  clear hp1 hp2 h1 h2 hm1 hm2 hn1
  obtain ⟨R, hR⟩ : ∃ R : Bool, R = decide (a = b) := ⟨_, rfl⟩
  rw [← hR]
  have HR := Lib.hid hR
  clear hR
  by_cases hl : a.length = b.length
  · rw [← hl] at P2 ⊢
    have HX := Lib.hid (fun (h : ∀ j, j < a.length → a.getD j 0 = b.getD j 0) => ext_getD hl h)
    have HL := Lib.hid hl
    generalize hnn : a.length = n at *
    go_enter Tryz.func13, Tryz.ntmps13
    go_wp2_with fail
    go_loopw [5] (fun i wr => ∃ k : Nat, k ≤ n ∧ i = .int .i64 k ∧ (∀ j, j < k → a.getD j 0 = b.getD j 0) ∧ Below w.heap.size w wr) (fun i _ => n - (intOf i).toNat)
    case atStart => exact ⟨0, by omega, rfl, fun j hj => absurd hj (Nat.not_lt_zero j), Below.refl _ _⟩
    case round =>
      obtain ⟨k, hk, rfl, hj, hb⟩ := hrel
      have HJ := Lib.hid hj
      have HB := Lib.hid hb
      clear hj hb
      by_cases hlt : k < n
      · obtain ⟨b1, o1, rfl, hb1, hc1⟩ := P1.out (by omega)
        obtain ⟨b2, o2, rfl, hb2, hc2⟩ := P2.out (by omega)
        have y1 := (HB.out.cell (p := ⟨b1, o1 + k, none⟩) hb1).trans (hc1 k hlt)
        have y2 := (HB.out.cell (p := ⟨b2, o2 + k, none⟩) hb2).trans (hc2 k hlt)
        have hki : (k : Int) < (n : Int) := by omega
        have hk0 : (0 : Int) ≤ (k : Int) := by omega
        clear hc1 hc2
        by_cases heq : a.getD k 0 = b.getD k 0
        · have HE := Lib.hid heq
          rw [heq] at y1
          clear heq
          generalize b.getD k 0 = x at y1 y2
          go_wp2_with fail
          go_quiet (fail)
          go_wp2
          go_roundw
          case rel => exact ⟨k + 1, by omega, by go_num, fun j hj => by
            by_cases e : j = k
            · rw [e]; exact HE.out
            · exact HJ.out j (by omega), below_drewN HB.out nq⟩
          case measure => simp [intOf]; omega
        · have hne : a ≠ b := fun e => heq (by rw [e])
          have hd1 := int_beq_ne heq
          have hd2 : (((a.getD k 0 : Nat) : Int) != ((b.getD k 0 : Nat) : Int)) = true := by rw [bne, hd1]; rfl
          have HF := Lib.hid (HR.out.trans (decide_eq_false hne))
          clear heq
          generalize a.getD k 0 = x1 at y1 hd1 hd2
          generalize b.getD k 0 = x2 at y2 hd1 hd2
          go_wp2_with fail
          go_quiet (fail)
          go_wp2
          go_ret
          exact ⟨ret_boolE HF.out.symm, below_drewN HB.out nq⟩
      · obtain rfl : k = n := by omega
        have HF := Lib.hid (HR.out.trans (decide_eq_true (HX.out HJ.out)))
        go_wp2_with fail
        go_ret
        exact ⟨ret_boolE HF.out.symm, HB.out⟩
  · have hne : a ≠ b := fun e => hl (by rw [e])
    have hd1 := int_beq_ne hl
    have hd2 : (((a.length : Nat) : Int) != ((b.length : Nat) : Int)) = true := by rw [bne, hd1]; rfl
    have HF := Lib.hid (HR.out.trans (decide_eq_false hne))
    go_enter Tryz.func13, Tryz.ntmps13
    go_wp2_with fail
    go_ret
    exact ⟨ret_boolE HF.out.symm, Below.refl _ _⟩
set_option maxRecDepth 100000 in
set_option maxHeartbeats 1000000 in
theorem sameWords_any {w : World} {v1 v2 : Value} {a b : List Nat} (h1 : Words w v1 a) (h2 : Words w v2 b) :
    Calls Tryz.prog 34 #[v1, v2] w fun e w' => e = .returned (.bool (decide (a = b))) ∧ Below w.heap.size w w' := by
  obtain ⟨a1, c1, rfl, hn1, hm1, -, hp1⟩ := words_opened h1
  obtain ⟨a2, c2, rfl, -, hm2, -, hp2⟩ := words_opened h2
  have P1 := Lib.hid hp1
  have P2 := Lib.hid hp2
  have hl9 : a.length ≤ 9223372036854775807 := by unfold maxLen at hm1; omega
  clear hp1 hp2 h1 h2 hm1 hm2 hn1
  obtain ⟨R, hR⟩ : ∃ R : Bool, R = decide (a = b) := ⟨_, rfl⟩
  rw [← hR]
  have HR := Lib.hid hR
  clear hR
  by_cases hl : a.length = b.length
  · rw [← hl] at P2 ⊢
    have HX := Lib.hid (fun (h : ∀ j, j < a.length → a.getD j 0 = b.getD j 0) => ext_getD hl h)
    have HL := Lib.hid hl
    generalize hnn : a.length = n at *
    go_enter Tryz.func34, Tryz.ntmps34
    go_wp2_with fail
    go_loopw [5] (fun i wr => ∃ k : Nat, k ≤ n ∧ i = .int .i64 k ∧ (∀ j, j < k → a.getD j 0 = b.getD j 0) ∧ Below w.heap.size w wr) (fun i _ => n - (intOf i).toNat)
    case atStart => exact ⟨0, by omega, rfl, fun j hj => absurd hj (Nat.not_lt_zero j), Below.refl _ _⟩
    case round =>
      obtain ⟨k, hk, rfl, hj, hb⟩ := hrel
      have HJ := Lib.hid hj
      have HB := Lib.hid hb
      clear hj hb
      by_cases hlt : k < n
      · obtain ⟨b1, o1, rfl, hb1, hc1⟩ := P1.out (by omega)
        obtain ⟨b2, o2, rfl, hb2, hc2⟩ := P2.out (by omega)
        have y1 := (HB.out.cell (p := ⟨b1, o1 + k, none⟩) hb1).trans (hc1 k hlt)
        have y2 := (HB.out.cell (p := ⟨b2, o2 + k, none⟩) hb2).trans (hc2 k hlt)
        have hki : (k : Int) < (n : Int) := by omega
        have hk0 : (0 : Int) ≤ (k : Int) := by omega
        clear hc1 hc2
        by_cases heq : a.getD k 0 = b.getD k 0
        · have HE := Lib.hid heq
          rw [heq] at y1
          clear heq
          generalize b.getD k 0 = x at y1 y2
          go_wp2_with fail
          go_quiet (fail)
          go_wp2
          go_roundw
          case rel => exact ⟨k + 1, by omega, by go_num, fun j hj => by
            by_cases e : j = k
            · rw [e]; exact HE.out
            · exact HJ.out j (by omega), below_drewN HB.out nq⟩
          case measure => simp [intOf]; omega
        · have hne : a ≠ b := fun e => heq (by rw [e])
          have hd1 := int_beq_ne heq
          have hd2 : (((a.getD k 0 : Nat) : Int) != ((b.getD k 0 : Nat) : Int)) = true := by rw [bne, hd1]; rfl
          have HF := Lib.hid (HR.out.trans (decide_eq_false hne))
          clear heq
          generalize a.getD k 0 = x1 at y1 hd1 hd2
          generalize b.getD k 0 = x2 at y2 hd1 hd2
          go_wp2_with fail
          go_quiet (fail)
          go_wp2
          go_ret
          exact ⟨ret_boolE HF.out.symm, below_drewN HB.out nq⟩
      · obtain rfl : k = n := by omega
        have HF := Lib.hid (HR.out.trans (decide_eq_true (HX.out HJ.out)))
        go_wp2_with fail
        go_ret
        exact ⟨ret_boolE HF.out.symm, HB.out⟩
  · have hne : a ≠ b := fun e => hl (by rw [e])
    have hd1 := int_beq_ne hl
    have hd2 : (((a.length : Nat) : Int) != ((b.length : Nat) : Int)) = true := by rw [bne, hd1]; rfl
    have HF := Lib.hid (HR.out.trans (decide_eq_false hne))
    go_enter Tryz.func34, Tryz.ntmps34
    go_wp2_with fail
    go_ret
    exact ⟨ret_boolE HF.out.symm, Below.refl _ _⟩
set_option maxRecDepth 100000 in
set_option maxHeartbeats 4000000 in
theorem sameState_yes {w : World} {vo vd uo ud : Value} {s : St} (h1 : StAt w vo vd s) (h2 : StAt w uo ud s) :
    Calls Tryz.prog 16 #[stV vo vd s, stV uo ud s] w fun e w' => e = .returned (.bool true) ∧ Below w.heap.size w w' := by
  obtain ⟨W0, hW0⟩ : ∃ W0, W0 = (w.alloc (.cells #[.int .u8 s.life, .int .u32 s.pc, .int .u32 s.sp, vo, vd, .int .u32 s.value, .int .u8 s.fault] 32)).alloc (.cells #[.int .u8 s.life, .int .u32 s.pc, .int .u32 s.sp, uo, ud, .int .u32 s.value, .int .u8 s.fault] 32) := ⟨_, rfl⟩
  have hb0 : Below w.heap.size w W0 := by rw [hW0]; exact Bel.al (Bel.new _ _) _
  have HSa := Lib.hid (StB.row (s := s) (vo := vo) (vd := vd) (by rw [hW0, Below.heap_alloc _ _ _ (by simp)]; exact heap_alloc_new w _) : StB W0 w.heap.size vo vd s)
  have HSb := Lib.hid (StB.row (s := s) (vo := uo) (vd := ud) (by
    rw [hW0]
    have := heap_alloc_new (w.alloc (.cells #[.int .u8 s.life, .int .u32 s.pc, .int .u32 s.sp, vo, vd, .int .u32 s.value, .int .u8 s.fault] 32)) (.cells #[.int .u8 s.life, .int .u32 s.pc, .int .u32 s.sp, uo, ud, .int .u32 s.value, .int .u8 s.fault] 32)
    simpa using this) : StB W0 (w.heap.size + 1) uo ud s)
  have HWd := Lib.hid (sameWords_any (h1.o.below hb0) (h2.o.below hb0))
  have HBy := Lib.hid (fun W (hW : Below W0.heap.size W0 W) => sameBytes_any ((h1.d.below hb0).below hW) ((h2.d.below hb0).below hW))
  rw [decide_eq_true rfl] at HWd HBy
  have HB0 := Lib.hid hb0
  obtain ⟨a1, c1, rfl, -⟩ := h1.o.1
  obtain ⟨a2, c2, rfl, -⟩ := h1.d.1
  obtain ⟨a3, c3, rfl, -⟩ := h2.o.1
  obtain ⟨a4, c4, rfl, -⟩ := h2.d.1
  obtain ⟨d0, d1, d2, d3, d4, d5, d6⟩ := HSa.out
  obtain ⟨e0, e1, e2, e3, e4, e5, e6⟩ := HSb.out
  clear h1 h2 hb0
  unfold stV
  go_enter Tryz.func16, Tryz.ntmps16
  go_wp2_with fail
  rw [← hW0]
  clear hW0
  refine HWd.out.mono ?_
  rintro e w1 ⟨rfl, hb1⟩
  have HBy1 := Lib.hid (HBy.out w1 hb1)
  have HB1 := Lib.hid (Bel.tr HB0.out hb1)
  have f4 := (HSa.out.below hb1).c4
  have g4 := (HSb.out.below hb1).c4
  clear d0 d1 d2 d3 d4 d5 d6 e0 e1 e2 e3 e4 e5 e6 hb1
  go_wp2_with fail
  refine HBy1.out.mono ?_
  rintro e w2 ⟨rfl, hb2⟩
  have HB2 := Lib.hid (Bel.tr HB1.out hb2)
  clear hb2
  go_wp2_with fail
  go_ret
  exact ⟨rfl, HB2.out⟩
def stOf (b base : List Nat) (rs : List (Nat × List Nat)) : St :=
  ⟨b.getD 28 0, numAt 4 b 32, numAt 4 b 36, wordsN ((b.drop 48).take (4 * numAt 2 b 30)), mendN base rs, numAt 4 b 40, b.getD 29 0⟩
section
variable {m : Mo} {b base : List Nat} {delta mark : Nat}
theorem read_e1 (h : (lookN b).2 = 200) : readN m b delta mark base = .error ((lookN b).1, 200) := by
  unfold readN takenN
  rw [if_pos (by omega)]
  simp only
  rw [← h]
variable (h1 : (lookN b).2 = 0)
include h1
theorem read_e2 (h2 : numAt 8 b 8 ≠ m.dig) : readN m b delta mark base = .error (8, 201) := by
  unfold readN takenN
  rw [if_neg (by omega), if_pos h2]
variable (h2 : numAt 8 b 8 = m.dig)
include h2
theorem read_e3 (h3 : ¬ (numAt 4 b 16 = 1 ↔ delta = 1)) : readN m b delta mark base = .error (16, 202) := by
  unfold readN takenN
  rw [if_neg (by omega), if_neg (by omega), if_pos (fun e => h3 (by rw [e]))]
variable (h3 : numAt 4 b 16 = 1 ↔ delta = 1)
include h3
theorem read_e4 (h4 : numAt 4 b 20 ≠ mark) : readN m b delta mark base = .error (20, 202) := by
  unfold readN takenN
  rw [if_neg (by omega), if_neg (by omega), if_neg (fun e => e (propext h3)), if_pos h4]
variable (h4 : numAt 4 b 20 = mark)
include h4
theorem read_e5 (h5 : b.length < 48 + 4 * numAt 2 b 30) : readN m b delta mark base = .error (28, 200) := by
  unfold readN takenN
  rw [if_neg (by omega), if_neg (by omega), if_neg (fun e => e (propext h3)), if_neg (by omega), if_pos h5]
variable (h5 : ¬ b.length < 48 + 4 * numAt 2 b 30)
include h5
theorem read_e6 (h6 : rdRuns b (numAt 4 b 44) (48 + 4 * numAt 2 b 30) [] = none) : readN m b delta mark base = .error (28, 200) := by
  unfold readN takenN
  rw [if_neg (by omega), if_neg (by omega), if_neg (fun e => e (propext h3)), if_neg (by omega), if_neg h5, h6]
variable {rs : List (Nat × List Nat)} (h6 : rdRuns b (numAt 4 b 44) (48 + 4 * numAt 2 b 30) [] = some rs)
include h6
theorem read_e7 (h7 : mendOk base.length 0 rs = false) : readN m b delta mark base = .error (28, 200) := by
  unfold readN takenN
  rw [if_neg (by omega), if_neg (by omega), if_neg (fun e => e (propext h3)), if_neg (by omega), if_neg h5, h6]
  simp only
  rw [if_pos h7]
variable (h7 : mendOk base.length 0 rs = true)
include h7
theorem read_e8 (h8 : fileN m.dig delta mark base (stOf b base rs) ≠ b) : readN m b delta mark base = .error (28, 200) := by
  unfold stOf at h8
  unfold readN takenN
  rw [if_neg (by omega), if_neg (by omega), if_neg (fun e => e (propext h3)), if_neg (by omega), if_neg h5, h6]
  simp only
  rw [if_neg (by rw [h7]; simp), if_neg h8]
variable (h8 : fileN m.dig delta mark base (stOf b base rs) = b)
include h8
theorem read_e9 : readN m b delta mark base = if m.fits (stOf b base rs) = true then .ok (stOf b base rs) else .error (28, 3) := by
  unfold stOf at h8 ⊢
  unfold readN takenN
  rw [if_neg (by omega), if_neg (by omega), if_neg (fun e => e (propext h3)), if_neg (by omega), if_neg h5, h6]
  simp only
  rw [if_neg (by rw [h7]; simp), if_pos h8]
end
def faultC (p e : Int) : List PanicEntry := [{ v := .iface 125 (.agg #[.int .i64 p, .int .i64 e]), recovered := false }]
theorem b392_2 (x y : Int) (w : World) : (Instr.build 125 #[(0, .int .i64 x), (1, .int .i64 y)]).run Tryz.prog w = .ok (.agg #[.int .i64 x, .int .i64 y]) w := by kernel_rfl
set_option maxRecDepth 100000 in
theorem ask_yes (p e : Int) (w : World) : Calls Tryz.prog 101 #[.bool true, .int .i64 p, .int .i64 e] w fun r w' => r = .returned (.tuple #[]) ∧ w = w' := by
  have hb := b392_2
  go_enter Tryz.func101, Tryz.ntmps101
  go_wp2_with fail
  go_end0
  exact ⟨rfl, rfl⟩
set_option maxRecDepth 100000 in
theorem ask_no (p e : Int) (w : World) : Calls Tryz.prog 101 #[.bool false, .int .i64 p, .int .i64 e] w fun r w' => r = .panicked (faultC p e) ∧ w = w' := by
  have hb := b392_2
  go_enter Tryz.func101, Tryz.ntmps101
  go_wp2_with fail
  exact ⟨rfl, rfl, rfl⟩
section
variable {P : Program}
def dstV (f : Operand → Value) (o : Oper) : Value := match o.dst with | some t => f (.tmp t) | none => undef
def keepV (o : Oper) (v : Value) : Value := match o.dst with | some _ => v | none => undef
structure FInvS (ops : Array Oper) (a : Act) (R0 : World → Prop) (Ψ : Nat → Value → World → Prop) (listed : Array Bool) (a' : Act) (W : World) : Prop where
  lz : listed.size = ops.size
  sz : a'.tmps.size = a.tmps.size
  df : a'.defers = a.defers
  out : ∀ (t : Tmp), (∀ (j : Nat) (oj : Oper), ops[j]? = some oj → oj.dst = some t → listed.getD j true = false) → a'.tmps[t]? = a.tmps[t]?
  ps : ∀ (j : Nat) (oj : Oper), ops[j]? = some oj → listed.getD j true = true → Ψ j (dstV a'.eval oj) W
  r : R0 W
theorem FInvS.done {ops : Array Oper} {a : Act} {R0 : World → Prop} {Ψ : Nat → Value → World → Prop} {listed : Array Bool} {a' : Act} {W : World} (hf : FreeOk ops)
    (hsz : ∀ (i : Nat) (oi : Oper) (t : Tmp), ops[i]? = some oi → oi.dst = some t → t < a.tmps.size) (h : FInvS ops a R0 Ψ listed a' W) (hall : ∀ i, i < ops.size → listed.getD i true = true) :
    ∃ V : Nat → Value, (∀ (i : Nat) (oi : Oper), ops[i]? = some oi → Ψ i (V i) W) ∧ a' = putAll a ops.toList 0 V := by
  refine ⟨fun i => match ops[i]? with | some oi => (match oi.dst with | some t => a'.eval (.tmp t) | none => undef) | none => undef, fun i oi hi => ?_, ?_⟩
  · have := h.ps i oi hi (hall i (Array.getElem?_eq_some_iff.1 hi).1)
    simp only [hi]
    exact this
  · obtain ⟨T', D'⟩ := a'
    have hd := putAll_defers (fun i => match ops[i]? with | some oi => (match oi.dst with | some t => (⟨T', D'⟩ : Act).eval (.tmp t) | none => undef) | none => undef) ops.toList a 0
    have key : ∀ (t : Nat), T'[t]? = (putAll a ops.toList 0 (fun i => match ops[i]? with | some oi => (match oi.dst with | some t => (⟨T', D'⟩ : Act).eval (.tmp t) | none => undef) | none => undef)).tmps[t]? := by
      intro t
      by_cases hw : ∃ (i : Nat) (oi : Oper), ops[i]? = some oi ∧ oi.dst = some t
      · obtain ⟨i, oi, hi, ht⟩ := hw
        have hlt := hsz i oi t hi ht
        rw [putAll_at _ ht ops.toList a 0 i hlt (by simpa using hi) (fun j' o' h1 h2 => hf.u j' o' i oi t (by simpa using h1) hi h2 ht), Nat.zero_add]
        simp only [hi, ht]
        have hlt' : t < T'.size := Nat.lt_of_lt_of_eq hlt (show T'.size = a.tmps.size from h.sz).symm
        rw [Array.getElem?_eq_getElem hlt']
        simp [Act.eval, Array.getD_eq_getD_getElem?, hlt']
      · have hn : ∀ (j : Nat) (oj : Oper), ops[j]? = some oj → oj.dst ≠ some t := fun j oj hj e => hw ⟨j, oj, hj, e⟩
        rw [putAll_out _ ops.toList a 0 (fun o ho e => by
          obtain ⟨j, hj, rfl⟩ := List.getElem_of_mem ho
          exact hn j _ (by first | (simp; done) | (simp at hj ⊢; exact ⟨hj, rfl⟩)) e)]
        exact h.out t (fun j oj hj e => absurd e (hn j oj hj))
    generalize putAll a ops.toList 0 _ = b at *
    obtain ⟨T, D⟩ := b
    have e1 : T' = T := Array.ext_getElem? key
    have e2 : D' = D := h.df.trans hd.symm
    rw [e1, e2]
theorem wpAny_freeS {ops : Array Oper} (hf : FreeOk ops) {Q : Exit → Act → World → Prop} {a : Act} (hsz : ∀ (i : Nat) (oi : Oper) (t : Tmp), ops[i]? = some oi → oi.dst = some t → t < a.tmps.size)
    (R0 : World → Prop) (Rel : World → World → Prop) (Ψ : Nat → Value → World → Prop) (hst : ∀ i v W W', Rel W W' → Ψ i v W → Ψ i v W')
    (hob : ∀ (i : Nat) (oi : Oper), ops[i]? = some oi → ∀ (ρ : Operand → Value) (W : World), R0 W → (∀ v, ρ (.const v) = v) → (∀ g, ρ (.global g) = .pointer (some ⟨g, 0, none⟩)) → (∀ f, ρ (.func f) = .func (.func f) #[] #[]) →
      (∀ t, (∀ (j : Nat) (oj : Oper), ops[j]? = some oj → oj.dst ≠ some t) → ρ (.tmp t) = a.eval (.tmp t)) → (∀ (j : Nat) (oj : Oper) (t : Tmp), ops[j]? = some oj → oj.dst = some t → t ∈ oi.looksAt ops → Ψ j (ρ (.tmp t)) W) →
      (∀ (j : Nat) (oj : Oper), ops[j]? = some oj → (∃ e ∈ oi.after, Region.binds .any e = true ∧ e.on = j) → Ψ j (dstV ρ oj) W) →
      outs P oi ρ W fun v W' => R0 W' ∧ Rel W W' ∧ Ψ i (keepV oi v) W')
    (hfin : ∀ (V : Nat → Value) (W : World), R0 W → (∀ (i : Nat) (oi : Oper), ops[i]? = some oi → Ψ i (V i) W) → Q .normal (putAll a ops.toList 0 V) W) :
    ∀ (fuel : Nat) (listed : Array Bool) (a' : Act) (W : World), FInvS ops a R0 Ψ listed a' W → unl ops.size listed ≤ fuel → wpAny P .any ops Q fuel listed a' W := by
  have fin : ∀ (listed : Array Bool) (a' : Act) (W : World), FInvS ops a R0 Ψ listed a' W → Region.ready .any ops listed = [] → Q .normal a' W := fun listed a' W h hr => by
    obtain ⟨V, h1, h2⟩ := h.done hf hsz (all_listed hf h.lz hr)
    rw [h2]
    exact hfin V W h.r h1
  intro fuel
  induction fuel with
  | zero =>
    intro listed a' W h hu
    have hr : Region.ready .any ops listed = [] := by
      have h0 : (List.range ops.size).filter (fun i => !listed.getD i true) = [] := List.eq_nil_of_length_eq_zero (by unfold unl at hu; omega)
      refine List.eq_nil_iff_forall_not_mem.2 fun i hi => ?_
      obtain ⟨h1, oi, h2, -⟩ := mem_ready.1 hi
      have : i ∈ (List.range ops.size).filter (fun i => !listed.getD i true) := List.mem_filter.2 ⟨List.mem_range.2 (Array.getElem?_eq_some_iff.1 h2).1, by rw [h1]; rfl⟩
      rw [h0] at this
      cases this
    exact ⟨hr, fin listed a' W h hr⟩
  | succ fuel ih =>
    intro listed a' W h hu
    refine ⟨fin listed a' W h, fun i hi => ?_⟩
    obtain ⟨h1, oi, h2, h3⟩ := mem_ready.1 hi
    have hlt : i < ops.size := (Array.getElem?_eq_some_iff.1 h2).1
    have hli : i < listed.size := by have := h.lz; omega
    have hlst : ∀ (j : Nat) (oj : Oper), ops[j]? = some oj → (∃ e ∈ oi.after, Region.binds .any e = true ∧ e.on = j) → listed.getD j true = true := fun j oj hj ⟨e, he, hb, ho⟩ => by
      have := h3 e he hb
      rw [ho] at this
      rw [lget_any true false (by have := h.lz; have := (Array.getElem?_eq_some_iff.1 hj).1; omega)]
      exact this
    unfold wpOp
    simp only [h2]
    rw [if_pos (show Region.wanted oi (yielded ops a'.tmps) = true from by simp [Region.wanted, hf.g i oi h2])]
    refine .inl (outs_wp (R := fun v W' => R0 W' ∧ Rel W W' ∧ Ψ i (keepV oi v) W') (hob i oi h2 a'.eval W h.r (fun _ => rfl) (fun _ => rfl) (fun _ => rfl) (fun t ht => ?_) (fun j oj t hj hd hl => ?_) (fun j oj hj he => ?_)) ?_)
    · have := h.out t (fun j oj hj e => absurd e (ht j oj hj))
      simp [Act.eval, Array.getD_eq_getD_getElem?, this]
    · have := h.ps j oj hj (hlst j oj hj (hf.d i oi j oj t h2 hj hd hl))
      unfold dstV at this
      rw [hd] at this
      exact this
    · exact h.ps j oj hj (hlst j oj hj he)
    · rintro v W' ⟨r1, r2, r3⟩
      refine ih _ _ _ ⟨by simpa using h.lz, by rw [put_size]; exact h.sz, by rw [put_defers]; exact h.df, fun t ht => ?_, fun j oj hj hl => ?_, r1⟩ ?_
      · have hne : oi.dst ≠ some t := fun e => by
          have := ht i oi h2 e
          rw [lget_eq true true hli] at this
          cases this
        rw [put_get_ne _ _ hne]
        refine h.out t fun j oj hj e => ?_
        have h4 := ht j oj hj e
        by_cases hji : i = j
        · subst hji; exact h1
        · rw [lget_ne true true hji] at h4; exact h4
      · by_cases hji : i = j
        · subst hji
          obtain rfl : oi = oj := by rw [h2] at hj; injection hj
          unfold keepV at r3
          unfold dstV
          cases hd : oi.dst with
          | none => rw [hd] at r3; exact r3
          | some t =>
            rw [hd] at r3
            have hlt2 : t < a'.tmps.size := by rw [h.sz]; exact hsz i oi t h2 hd
            have : ((a'.put (some t) v).eval (.tmp t)) = v := by
              simp [Act.eval, Array.getD_eq_getD_getElem?, put_get a' v hlt2]
            simp only [this]
            exact r3
        · rw [lget_ne true true hji] at hl
          have h5 := hst j _ W W' r2 (h.ps j oj hj hl)
          have e : dstV (a'.put oi.dst v).eval oj = dstV a'.eval oj := by
            unfold dstV
            cases hd : oj.dst with
            | none => rfl
            | some t =>
              have hne : oi.dst ≠ some t := fun e => hji (hf.u i oi j oj t h2 hj e hd)
              simp [Act.eval, Array.getD_eq_getD_getElem?, put_get_ne a' v hne]
          rw [e]
          exact h5
      · have := unl_lt hlt h.lz h1
        omega
def szS (ops : Array Oper) (n : Nat) : Bool := ops.toList.all fun o => match o.dst with | some t => decide (t < n) | none => true
def aftB (o : Oper) (j : Nat) : Bool := o.after.any fun e => Region.binds .any e && e.on == j
def ToldS (P : Program) (ops : Array Oper) (a : Act) (R0 : World → Prop) (Rel : World → World → Prop) (Ψ : Nat → Value → World → Prop) (i : Nat) (oi : Oper) : Prop :=
  ∀ (ρ : Operand → Value) (W : World), R0 W → (∀ v, ρ (.const v) = v) → (∀ g, ρ (.global g) = .pointer (some ⟨g, 0, none⟩)) → (∀ f, ρ (.func f) = .func (.func f) #[] #[]) →
    (∀ t, noW ops t = true → ρ (.tmp t) = a.eval (.tmp t)) → (∀ j t, isW ops j t = true → (oi.looksAt ops).contains t = true → Ψ j (ρ (.tmp t)) W) →
    (∀ j, j < ops.size → aftB oi j = true → ∃ v, Ψ j v W) →
    outs P oi ρ W fun v W' => R0 W' ∧ Rel W W' ∧ Ψ i (keepV oi v) W'
theorem wp_region_toldS {id : Nat} {Q : Exit → Act → World → Prop} {a : Act} {w : World} {l : List Oper} (hm : P.follows .mixedOrders = true) (hB : freeB l.toArray = true) (n : Nat) (hn : a.tmps.size = n) (hs : szS l.toArray n = true)
    (R0 : World → Prop) (Rel : World → World → Prop) (Ψ : Nat → Value → World → Prop) (hst : ∀ i v W W', Rel W W' → Ψ i v W → Ψ i v W') (h0 : R0 { w with drawn := w.drawn + 1 })
    (hob : AllOb (ToldS P l.toArray a R0 Rel Ψ) l 0)
    (hfin : ∀ (V : Nat → Value) (W : World), R0 W → (∀ i, i < l.length → Ψ i (V i) W) → Q .normal (putAll a l 0 V) W) : (Code.region id l.toArray true).wp P Q a w := by
  have hf := freeOk hB
  have hsz : ∀ (i : Nat) (oi : Oper) (t : Tmp), l.toArray[i]? = some oi → oi.dst = some t → t < a.tmps.size := fun i oi t hi ht => by
    have := List.all_eq_true.1 hs oi (List.mem_of_getElem? (by simpa using hi))
    rw [ht] at this
    exact Nat.lt_of_lt_of_eq (of_decide_eq_true this) hn.symm
  refine wp_region_any hm (wpAny_freeS hf hsz R0 Rel Ψ hst (fun i oi hi ρ W r c g f ho hd ha => ?_) (fun V W r hV => ?_) l.toArray.size _ a _ ⟨by simp, rfl, rfl, fun t _ => rfl, fun j oj hj hl => ?_, h0⟩ ?_)
  · have h1 := allOb_get l 0 hob i oi (by simpa using hi)
    rw [Nat.zero_add] at h1
    refine h1 ρ W r c g f (fun t ht => ho t fun j oj hj e => ?_) (fun j t hw hl => ?_) (fun j hj hw => ?_)
    · have := List.all_eq_true.1 ht oj (by
        have := List.mem_of_getElem? (l := l) (by simpa using hj)
        simpa using this)
      rw [e] at this
      simp at this
    · unfold isW at hw
      cases hj : (l.toArray)[j]? with
      | none => rw [hj] at hw; cases hw
      | some oj =>
        rw [hj] at hw
        exact hd j oj t hj (by simpa using hw) (by simpa using hl)
    · unfold aftB at hw
      rw [Array.any_eq_true'] at hw
      obtain ⟨e, he, h5⟩ := hw
      rw [Bool.and_eq_true] at h5
      exact ⟨_, ha j _ (Array.getElem?_eq_getElem hj) ⟨e, he, h5.1, by simpa using h5.2⟩⟩
  · have := hfin V W r (fun i hi => hV i l[i] (by simp [hi]))
    simpa using this
  · rw [getD_replicate_in (by exact (Array.getElem?_eq_some_iff.1 hj).1)] at hl
    cases hl
  · unfold unl
    exact Nat.le_trans (List.length_filter_le _ _) (by simp)
theorem outs_store_row {o : Oper} {ρ : Operand → Value} {W : World} {R : Value → World → Prop} (ty : TypeId) (x y : Operand) (ho : o.op = .store ty x y)
    (g : Nat) (cells : Array Value) (hx : ρ x = .pointer (some ⟨g, 0, none⟩)) (hy : ρ y = .agg cells)
    (t : TypeId) (old : Array Value) (hg : W.heap[g]? = some (.cells old t (0, 0))) (hi : (P.info? ty).map (·.size) = some cells.size)
    (hold : old.size = cells.size) (h1 : cells.all (·.oneCell') = true) (h : R undef (W.setRow g cells)) : outs P o ρ W R := by
  unfold outs execOp
  simp only [ho, hx, hy, Instr.storeAt, Instr.sureAddr, Sem.run_bind, Sem.run_pure, Result.andThen_ok, run_storeVar_row W g t ty old cells hg hi hold h1]
  exact h
theorem outs_store_one {o : Oper} {ρ : Operand → Value} {W : World} {R : Value → World → Prop} (ty : TypeId) (x y : Operand) (ho : o.op = .store ty x y)
    (g : Nat) (v : Value) (hx : ρ x = .pointer (some ⟨g, 0, none⟩)) (hy : ρ y = v) (h1 : v.oneCell' = true)
    (t : TypeId) (old : Value) (hg : W.heap[g]? = some (.cells #[old] t (0, 0))) (hi : (P.info? ty).map (·.size) = some 1) (h : R undef (W.setRow g #[v])) : outs P o ρ W R := by
  unfold outs execOp
  simp only [ho, hx, hy, Instr.storeAt, Instr.sureAddr, Sem.run_bind, Sem.run_pure, Result.andThen_ok, run_storeVar_one W g t ty old v hg hi h1]
  exact h
end
set_option linter.unusedSimpArgs false
theorem tmps261 (a b c x : Value) : #[a, b, c] ++ (Array.replicate 14 undef).setIfInBounds 3 x = #[a, b, c, undef, undef, undef, x, undef, undef, undef, undef, undef, undef, undef, undef, undef, undef] := rfl
set_option maxHeartbeats 1000000 in
set_option maxRecDepth 100000 in
theorem rcatch_idle (p q r : Addr) (w : World) :
    CallsD Tryz.prog 62 #[.pointer (some p), .pointer (some q), .pointer (some r)] .returning w fun e u' w' => e = .returned (.tuple #[]) ∧ u' = .returning ∧ w' = w := by
  refine callsD_of_wpS Tryz.func62 rfl fun c₀ cs hu => ?_
  apply wpS_seq
  apply wpS_region
  simp [wpOpsS, go_sem, recoverD, hu, Tryz.ntmps62, Exit.thenS]
  refine wpS_of_wp ?_
  rw [tmps261]
  generalize hQ : (fun (e : Exit) (a' : Act) (w' : World) => bodyPostS Tryz.prog Tryz.f62 c₀ cs (fun e u' w' => e = Ending.returned (Value.tuple #[]) ∧ u' = FrameMode.returning ∧ w' = w) e a' (c₀ :: cs) w') = Q
  go_wp2_with fail
  rw [← hQ]
  cases c₀
  simp_all [bodyPostS, results, Tryz.results62]
def zst : Array Value := #[.int .u8 0, .int .u32 0, .int .u32 0, .slice none 0 0, .slice none 0 0, .int .u32 0, .int .u8 0]
def rcΨ (p0 p1 p2 q : Nat) (pl er : Int) : Nat → Value → World → Prop
  | 0, v, W => v = .agg zst
  | 1, v, W => v = .pointer (some ⟨q, 0, none⟩)
  | 2, v, W => v = .int .i64 pl
  | 3, v, W => v = .pointer (some ⟨q, 1, none⟩)
  | 4, v, W => v = .int .i64 er
  | 5, v, W => W.heap[p0]? = some (.cells zst 32 (0, 0))
  | 6, v, W => W.heap[p1]? = some (.cells #[.int .i64 pl] 3 (0, 0))
  | 7, v, W => W.heap[p2]? = some (.cells #[.int .i64 er] 39 (0, 0))
  | _, _, _ => True
structure RcRel (p0 p1 p2 : Nat) (pl er : Int) (W W' : World) : Prop where
  a : W.heap[p0]? = some (.cells zst 32 (0, 0)) → W'.heap[p0]? = some (.cells zst 32 (0, 0))
  b : W.heap[p1]? = some (.cells #[.int .i64 pl] 3 (0, 0)) → W'.heap[p1]? = some (.cells #[.int .i64 pl] 3 (0, 0))
  c : W.heap[p2]? = some (.cells #[.int .i64 er] 39 (0, 0)) → W'.heap[p2]? = some (.cells #[.int .i64 er] 39 (0, 0))
theorem RcRel.refl (p0 p1 p2 : Nat) (pl er : Int) (W : World) : RcRel p0 p1 p2 pl er W W := ⟨id, id, id⟩
structure RcInv (B : Nat) (w : World) (p0 p1 p2 q : Nat) (pl er : Int) (W : World) : Prop where
  b : Below B w W
  q : W.heap[q]? = some (.cells #[.int .i64 pl, .int .i64 er] 125 (0, 0))
  a0 : ∃ old : Array Value, old.size = 7 ∧ W.heap[p0]? = some (.cells old 32 (0, 0))
  a1 : ∃ x, W.heap[p1]? = some (.cells #[x] 3 (0, 0))
  a2 : ∃ x, W.heap[p2]? = some (.cells #[x] 39 (0, 0))
theorem rcΨ_keep {p0 p1 p2 q : Nat} {pl er : Int} : ∀ (i : Nat) (v : Value) (W W' : World), RcRel p0 p1 p2 pl er W W' → rcΨ p0 p1 p2 q pl er i v W → rcΨ p0 p1 p2 q pl er i v W'
  | 0, _, _, _, _, h => h
  | 1, _, _, _, _, h => h
  | 2, _, _, _, _, h => h
  | 3, _, _, _, _, h => h
  | 4, _, _, _, _, h => h
  | 5, _, _, _, r, h => r.a h
  | 6, _, _, _, r, h => r.b h
  | 7, _, _, _, r, h => r.c h
  | _ + 8, _, _, _, _, _ => trivial
theorem rc_tassert (x y : Int) (w : World) : (Instr.typeAssert (.iface 125 (.agg #[.int .i64 x, .int .i64 y])) 20 125 true).run Tryz.prog w = .ok (.tuple #[.agg #[.int .i64 x, .int .i64 y], .bool true]) w := by kernel_rfl
theorem rc_zero (w : World) : (Instr.build 32 #[]).run Tryz.prog w = .ok (.agg zst) w := by kernel_rfl
theorem rc_i51 : (Tryz.prog.info? 32).map (·.size) = some 7 := by kernel_rfl
theorem rc_i3 : (Tryz.prog.info? 3).map (·.size) = some 1 := by kernel_rfl
theorem rc_i32 : (Tryz.prog.info? 39).map (·.size) = some 1 := by kernel_rfl
theorem rc_mixed : Tryz.prog.follows .mixedOrders = true := by kernel_rfl
set_option maxHeartbeats 1000000 in
set_option maxRecDepth 100000 in
theorem rcatch_panicking {B p0 p1 p2 : Nat} (h01 : p0 ≠ p1) (h02 : p0 ≠ p2) (h12 : p1 ≠ p2) (hB0 : B ≤ p0) (hB1 : B ≤ p1) (hB2 : B ≤ p2) (pl er : Int) (w : World) (old : Array Value) (hold : old.size = 7) (x1 x2 : Value)
    (hr0 : w.heap[p0]? = some (.cells old 32 (0, 0))) (hr1 : w.heap[p1]? = some (.cells #[x1] 3 (0, 0))) (hr2 : w.heap[p2]? = some (.cells #[x2] 39 (0, 0))) :
    CallsD Tryz.prog 62 #[.pointer (some ⟨p0, 0, none⟩), .pointer (some ⟨p1, 0, none⟩), .pointer (some ⟨p2, 0, none⟩)] (.panicking [{ v := .iface 125 (.agg #[.int .i64 pl, .int .i64 er]), recovered := false }]) w fun e u' w' =>
      e = .returned (.tuple #[]) ∧ u' = .panicking [{ v := .iface 125 (.agg #[.int .i64 pl, .int .i64 er]), recovered := true }] ∧ Below B w w' ∧ w'.heap[p0]? = some (.cells zst 32 (0, 0)) ∧
      w'.heap[p1]? = some (.cells #[.int .i64 pl] 3 (0, 0)) ∧ w'.heap[p2]? = some (.cells #[.int .i64 er] 39 (0, 0)) := by
  have hta := rc_tassert
  have lt : ∀ {k : Nat} {x : Obj}, w.heap[k]? = some x → k < w.heap.size := fun h => (Array.getElem?_eq_some_iff.1 h).1
  have l0 := lt hr0
  have l1 := lt hr1
  have l2 := lt hr2
  obtain ⟨W, hW⟩ : ∃ W, W = w.alloc (.cells #[.int .i64 pl, .int .i64 er] 125) := ⟨_, rfl⟩
  have hbW : Below w.heap.size w W := by rw [hW]; exact Bel.new _ _
  have HI : Hid (RcInv B w p0 p1 p2 w.heap.size pl er W.drew) := Lib.hid ⟨(hbW.mono (by omega)).drew, by rw [hW]; exact heap_alloc_new w _,
    ⟨old, hold, (hbW.block p0 l0).trans hr0⟩, ⟨x1, (hbW.block p1 l1).trans hr1⟩, ⟨x2, (hbW.block p2 l2).trans hr2⟩⟩
  have hq0 : w.heap.size ≠ p0 := by omega
  have hq1 : w.heap.size ≠ p1 := by omega
  have hq2 : w.heap.size ≠ p2 := by omega
  clear hbW hr0 hr1 hr2 l0 l1 l2
  refine callsD_of_wpS Tryz.func62 rfl fun c₀ cs hu => ?_
  apply wpS_seq
  apply wpS_region
  simp [wpOpsS, go_sem, recoverD, hu, Tryz.ntmps62, Exit.thenS]
  refine wpS_of_wp ?_
  rw [tmps261]
  generalize hQ : (fun (e : Exit) (a' : Act) (w' : World) => bodyPostS Tryz.prog Tryz.f62 c₀ cs _ e a' _ w') = Q
  go_wp2_with fail
  rw [← hW]
  clear hW
  refine wp_region_toldS rc_mixed (by kernel_rfl) 17 rfl (by kernel_rfl) (RcInv B w p0 p1 p2 w.heap.size pl er) (RcRel p0 p1 p2 pl er) (rcΨ p0 p1 p2 w.heap.size pl er) rcΨ_keep HI.out ⟨?_, ?_, ?_, ?_, ?_, ?_, ?_, ?_, trivial⟩ ?_
  · intro ρ W hW hc hg hf ho hd ha
    exact outs_val _ rfl (by simp only [List.map_toArray, List.map_nil]; exact rc_zero W) ⟨hW, RcRel.refl _ _ _ _ _ _, rfl⟩
  · intro ρ W hW hc hg hf ho hd ha
    have e : ρ (.tmp 4) = .pointer (some ⟨w.heap.size, 0, none⟩) := ho 4 (by kernel_rfl)
    exact outs_run (v := .pointer (some ⟨w.heap.size, 0, none⟩)) (W' := W) (by simp [go_sem, e]) ⟨hW, RcRel.refl _ _ _ _ _ _, rfl⟩
  · intro ρ W hW hc hg hf ho hd ha
    have e : ρ (.tmp 13) = .pointer (some ⟨w.heap.size, 0, none⟩) := hd 1 13 (by kernel_rfl) (by kernel_rfl)
    have hcell := cell_of_row W w.heap.size 0 _ _ _ hW.q
    exact outs_run (v := .int .i64 pl) (W' := W) (by simp [go_sem, e, hcell]) ⟨hW, RcRel.refl _ _ _ _ _ _, rfl⟩
  · intro ρ W hW hc hg hf ho hd ha
    have e : ρ (.tmp 4) = .pointer (some ⟨w.heap.size, 0, none⟩) := ho 4 (by kernel_rfl)
    exact outs_run (v := .pointer (some ⟨w.heap.size, 1, none⟩)) (W' := W) (by simp [go_sem, e]) ⟨hW, RcRel.refl _ _ _ _ _ _, rfl⟩
  · intro ρ W hW hc hg hf ho hd ha
    have e : ρ (.tmp 15) = .pointer (some ⟨w.heap.size, 1, none⟩) := hd 3 15 (by kernel_rfl) (by kernel_rfl)
    have hcell := cell_of_row W w.heap.size 1 _ _ _ hW.q
    exact outs_run (v := .int .i64 er) (W' := W) (by simp [go_sem, e, hcell]) ⟨hW, RcRel.refl _ _ _ _ _ _, rfl⟩
  · intro ρ W hW hc hg hf ho hd ha
    have e : ρ (.tmp 0) = .pointer (some ⟨p0, 0, none⟩) := ho 0 (by kernel_rfl)
    have e2 : ρ (.tmp 12) = .agg zst := hd 0 12 (by kernel_rfl) (by kernel_rfl)
    obtain ⟨o9, h9, hr⟩ := hW.a0
    exact outs_store_row 32 (.tmp 0) (.tmp 12) rfl p0 zst e e2 32 o9 hr rc_i51 h9 (by simp [zst, Value.oneCell'])
      ⟨⟨below_setRow hW.b _ hB0 _, (setRow_other _ _ _ _ hq0).trans hW.q, ⟨zst, rfl, setRow_heap _ _ _ _ _ _ hr⟩, by obtain ⟨x, hx⟩ := hW.a1; exact ⟨x, (setRow_other _ _ _ _ h01.symm).trans hx⟩, by obtain ⟨x, hx⟩ := hW.a2; exact ⟨x, (setRow_other _ _ _ _ h02.symm).trans hx⟩⟩,
        ⟨fun _ => setRow_heap _ _ _ _ _ _ hr, fun h => (setRow_other _ _ _ _ h01.symm).trans h, fun h => (setRow_other _ _ _ _ h02.symm).trans h⟩, setRow_heap _ _ _ _ _ _ hr⟩
  · intro ρ W hW hc hg hf ho hd ha
    have e : ρ (.tmp 1) = .pointer (some ⟨p1, 0, none⟩) := ho 1 (by kernel_rfl)
    have e2 : ρ (.tmp 14) = .int .i64 pl := hd 2 14 (by kernel_rfl) (by kernel_rfl)
    obtain ⟨o9, hr⟩ := hW.a1
    exact outs_store_one 3 (.tmp 1) (.tmp 14) rfl p1 _ e e2 rfl 3 o9 hr rc_i3
      ⟨⟨below_setRow hW.b _ hB1 _, (setRow_other _ _ _ _ hq1).trans hW.q, by obtain ⟨x, hs, hx⟩ := hW.a0; exact ⟨x, hs, (setRow_other _ _ _ _ h01).trans hx⟩, ⟨_, setRow_heap _ _ _ _ _ _ hr⟩, by obtain ⟨x, hx⟩ := hW.a2; exact ⟨x, (setRow_other _ _ _ _ h12.symm).trans hx⟩⟩,
        ⟨fun h => (setRow_other _ _ _ _ h01).trans h, fun _ => setRow_heap _ _ _ _ _ _ hr, fun h => (setRow_other _ _ _ _ h12.symm).trans h⟩, setRow_heap _ _ _ _ _ _ hr⟩
  · intro ρ W hW hc hg hf ho hd ha
    have e : ρ (.tmp 2) = .pointer (some ⟨p2, 0, none⟩) := ho 2 (by kernel_rfl)
    have e2 : ρ (.tmp 16) = .int .i64 er := hd 4 16 (by kernel_rfl) (by kernel_rfl)
    obtain ⟨o9, hr⟩ := hW.a2
    exact outs_store_one 39 (.tmp 2) (.tmp 16) rfl p2 _ e e2 rfl 39 o9 hr rc_i32
      ⟨⟨below_setRow hW.b _ hB2 _, (setRow_other _ _ _ _ hq2).trans hW.q, by obtain ⟨x, hs, hx⟩ := hW.a0; exact ⟨x, hs, (setRow_other _ _ _ _ h02).trans hx⟩, by obtain ⟨x, hx⟩ := hW.a1; exact ⟨x, (setRow_other _ _ _ _ h12).trans hx⟩, ⟨_, setRow_heap _ _ _ _ _ _ hr⟩⟩,
        ⟨fun h => (setRow_other _ _ _ _ h02).trans h, fun h => (setRow_other _ _ _ _ h12).trans h, fun _ => setRow_heap _ _ _ _ _ _ hr⟩, setRow_heap _ _ _ _ _ _ hr⟩
  · intro V W hW hV
    have f5 : W.heap[p0]? = some (.cells zst 32 (0, 0)) := hV 5 (by decide)
    have f6 : W.heap[p1]? = some (.cells #[.int .i64 pl] 3 (0, 0)) := hV 6 (by decide)
    have f7 : W.heap[p2]? = some (.cells #[.int .i64 er] 39 (0, 0)) := hV 7 (by decide)
    have hB := hW.b
    clear hV hW HI
    simp only [putAll, Act.put, List.setIfInBounds_toArray, List.set_cons_zero, List.set_cons_succ]
    rw [← hQ]
    cases c₀
    simp_all [bodyPostS, results, Tryz.results62, Exit.inBlock]
theorem own_words {w : World} {B n : Nat} {v : Value} {l : List Nat} (h : w.ownsRow B 25 1 v n (encN .u32 l)) (hl : ∀ x ∈ l, x < 4294967296) : Words w v l := by
  have hn : n = l.length := by have := h.1; rw [encN_length] at this; omega
  subst hn
  refine ⟨Reads.own (own_base h) (by decide), fun k => ?_⟩
  rw [List.getD_eq_getElem?_getD]
  cases hk : l[k]? with
  | none => decide
  | some x => exact hl x (List.mem_of_getElem? hk)
structure StOwn (w : World) (B : Nat) (vo vd : Value) (s : St) : Prop where
  o : w.ownsRow B 25 1 vo s.ops.length (encN .u32 s.ops)
  d : w.ownsRow B 5 1 vd s.data.length (encN .u8 s.data)
  sm : s.Small
theorem StOwn.below {w w' : World} {B : Nat} {vo vd : Value} {s : St} (h : StOwn w B vo vd s) (hb : Below w.heap.size w w') : StOwn w' B vo vd s := ⟨own_below h.o hb, own_below h.d hb, h.sm⟩
theorem StOwn.down {w : World} {B B' : Nat} {vo vd : Value} {s : St} (h : StOwn w B vo vd s) (hb : B' ≤ B) : StOwn w B' vo vd s := ⟨own_downT h.o hb, own_downT h.d hb, h.sm⟩
theorem StOwn.row {w : World} {B g : Nat} {vo vd : Value} {s : St} {cs : Array Value} (h : StOwn w B vo vd s) (hg : g < B) : StOwn (w.setRow g cs) B vo vd s := ⟨own_setRow h.o hg, own_setRow h.d hg, h.sm⟩
theorem StOwn.at {w : World} {B : Nat} {vo vd : Value} {s : St} (h : StOwn w B vo vd s) : StAt w vo vd s := ⟨own_words h.o h.sm.o, own_bytes h.d h.sm.d, h.sm⟩
def TakenPost (mo : Mo) (b base : List Nat) (delta mark : Nat) (w : World) (e : Ending) (w' : World) : Prop :=
  Below w.heap.size w w' ∧ ((∃ pl er : Nat, readN mo b delta mark base = .error (pl, er) ∧ e = .panicked (faultC pl er)) ∨
    (∃ t vo vd, readN mo b delta mark base = .ok t ∧ e = .returned (stV vo vd t) ∧ StOwn w' w.heap.size vo vd t))
def ReadPost (mo : Mo) (b base : List Nat) (delta mark : Nat) (w : World) (e : Ending) (w' : World) : Prop :=
  Below w.heap.size w w' ∧ ((∃ pl er : Nat, readN mo b delta mark base = .error (pl, er) ∧ e = .returned (.tuple #[.agg zst, .int .i64 pl, .int .i64 er])) ∨
    (∃ t vo vd, readN mo b delta mark base = .ok t ∧ e = .returned (.tuple #[stV vo vd t, .int .i64 0, .int .i64 0]) ∧ StOwn w' w.heap.size vo vd t))
theorem results_cell3 {P : Program} {fn : Func} {p q r : Tmp} {ty ty2 ty3 : TypeId} (h : fn.results = #[.cell p ty, .cell q ty2, .cell r ty3]) (tmps : Array Value) (w : World) (g : Nat) (t : TypeId) (cs : Array Value) (fr : Nat × Nat) (d : TypeDesc)
    (hp : tmps.getD p undef = .pointer (some ⟨g, 0, none⟩)) (hg : w.heap[g]? = some (.cells cs t fr))
    (hu : P.underlying ty = some d) (hd : (match d with | .struct _ | .array _ _ => true | _ => false) = true) (hi : (P.info? ty).map (·.size) = some cs.size) (v u : Value) (a1 a2 : Addr)
    (hq : tmps.getD q undef = .pointer (some a1)) (hr : tmps.getD r undef = .pointer (some a2)) (h1 : (loadVar ty2 a1).run P w = .ok v w) (h2 : (loadVar ty3 a2).run P w = .ok u w) :
    (results fn tmps).run P w = .ok (.tuple #[.agg cs, v, u]) w := by
  have hp' : tmps[p]?.getD undef = .pointer (some ⟨g, 0, none⟩) := by simpa using hp
  have hq' : tmps[q]?.getD undef = .pointer (some a1) := by simpa using hq
  have hr' : tmps[r]?.getD undef = .pointer (some a2) := by simpa using hr
  simp [results, h, hp', hq', hr', asAddr, h1, h2, run_loadVar_row w g t ty cs fr d hg hu hd hi]
theorem FindBad.det {code : List (Nat × Nat)} {js ats : List Nat} {i c i' c' : Nat} (h : FindBad code js ats i c) (h' : FindBad code js ats i' c') : i = i' ∧ c = c' := by
  cases h with
  | enc h =>
    cases h' with
    | enc => exact ⟨rfl, rfl⟩
    | first he => exact absurd he h
    | fault he => exact absurd he h
    | jump he => exact absurd he h
    | name he => exact absurd he h
  | first he h =>
    cases h' with
    | enc h2 => exact absurd he h2
    | first => exact ⟨rfl, rfl⟩
    | fault _ h3 => exact absurd h3 h
    | jump _ h3 => exact absurd h3 h
    | name _ h3 => exact absurd h3 h
  | fault he h3 _ hi hj hf =>
    cases h' with
    | enc h2 => exact absurd he h2
    | first _ h2 => exact absurd h3 h2
    | fault _ _ _ hi' hj' hf' =>
      rcases Nat.lt_trichotomy i i' with e | e | e
      · exact absurd (hj' _ e) hf
      · exact ⟨e, by rw [e]⟩
      · exact absurd (hj _ e) hf'
    | jump _ _ hall => exact absurd (hall _ hi) hf
    | name _ _ hall => exact absurd (hall _ hi) hf
  | jump he h3 hall _ hi hg hb =>
    cases h' with
    | enc h2 => exact absurd he h2
    | first _ h2 => exact absurd h3 h2
    | fault _ _ _ hi' _ hf' => exact absurd (hall _ hi') hf'
    | jump _ _ _ _ hi' hg' hb' =>
      rcases Nat.lt_trichotomy i i' with e | e | e
      · have := hg' _ e; rw [hb] at this; cases this
      · exact ⟨e, rfl⟩
      · have := hg _ e; rw [hb'] at this; cases this
    | name _ _ _ hg' => have := hg' _ hi; rw [hb] at this; cases this
  | name he h3 hall hg _ hi hj hb =>
    cases h' with
    | enc h2 => exact absurd he h2
    | first _ h2 => exact absurd h3 h2
    | fault _ _ _ hi' _ hf' => exact absurd (hall _ hi') hf'
    | jump _ _ _ _ hi' _ hb' => have := hg _ hi'; rw [hb'] at this; cases this
    | name _ _ _ _ _ hi' hj' hb' =>
      rcases Nat.lt_trichotomy i i' with e | e | e
      · have := hj' _ e; rw [hb] at this; cases this
      · exact ⟨e, rfl⟩
      · have := hj _ e; rw [hb'] at this; cases this
theorem FindOk.not_bad {code : List (Nat × Nat)} {js ats : List Nat} {i c : Nat} (h : FindOk code js ats) (hb : FindBad code js ats i c) : False := by
  cases hb with
  | enc h2 => exact absurd h.he h2
  | first _ h2 => exact h2 h.h3
  | fault _ _ _ hi _ hf => exact hf (h.hall _ hi)
  | jump _ _ _ _ hi _ hb => have := h.hg _ hi; rw [hb] at this; cases this
  | name _ _ _ _ _ hi _ hb => have := h.hn _ hi; rw [hb] at this; cases this
theorem TakeOk.not_bad {m : Img} {a c : Nat} (h : TakeOk m) (hb : TakeBad m a c) : False := by
  rcases hb with ⟨h1, _⟩ | ⟨_, h2⟩ | ⟨_, _, h3, _⟩
  · exact h1 h.k
  · exact h.f.not_bad h2
  · exact h3 h.r
theorem TakeBad.det {m : Img} {a c a' c' : Nat} (h : TakeBad m a c) (h' : TakeBad m a' c') : a = a' ∧ c = c' := by
  rcases h with ⟨h1, h2, h3⟩ | ⟨h1, h2⟩ | ⟨h1, h2, h3, h4, h5⟩ <;> rcases h' with ⟨g1, g2, g3⟩ | ⟨g1, g2⟩ | ⟨g1, g2, g3, g4, g5⟩
  · exact ⟨h2.trans g2.symm, h3.trans g3.symm⟩
  · exact absurd g1 h1
  · exact absurd g1 h1
  · exact absurd h1 g1
  · exact h2.det g2
  · exact (g2.not_bad h2).elim
  · exact absurd h1 g1
  · exact (h2.not_bad g2).elim
  · exact ⟨h4.trans g4.symm, h5.trans g5.symm⟩
theorem TakeBad.pos {m : Img} {a c : Nat} (h : TakeBad m a c) : c ≠ 0 := by
  rcases h with ⟨h1, h2, h3⟩ | ⟨h1, h2⟩ | ⟨h1, h2, h3, h4, h5⟩
  · rw [h3]; exact h1
  · exact findBad_pos h2
  · rw [h5]; exact h3
def findOkB (code : List (Nat × Nat)) : Bool := decide ((encRes code).2.2 = 0) && (decide (0 < code.length) && (decide ((code.getD 0 (0, 0)).1 = 3) && (List.range code.length).all fun i => decide (faultAt code i = 0)))
theorem findOk_of {code : List (Nat × Nat)} (h : findOkB code = true) : FindOk code [] [] := by
  unfold findOkB at h
  simp only [Bool.and_eq_true, decide_eq_true_eq, List.all_eq_true, List.mem_range] at h
  exact ⟨h.1, ⟨h.2.1, h.2.2.1⟩, h.2.2.2, fun j hj => absurd hj (Nat.not_lt_zero j), fun j hj => absurd hj (Nat.not_lt_zero j)⟩
def imL : Img := ⟨[(3, 4), (2, 0)], [], [], 0, 64, []⟩
set_option maxRecDepth 100000 in
theorem okL : TakeOk imL := ⟨by decide +kernel, findOk_of (by decide +kernel), by decide +kernel⟩
theorem bitsL : bitsI imL = 8 := by decide +kernel
theorem topL : (moOf imL).top = 192 := by
  show 2 ^ bitsI imL - 64 = 192
  rw [bitsL]
theorem numAt_bd (k : Nat) (b : List Nat) (hb : ∀ x ∈ b, x < 256) (i : Nat) : numAt k b i < 256 ^ k := by
  unfold numAt
  have h1 := deW_lt ((b.drop i).take k) (fun y hy => hb y (List.mem_of_mem_drop (List.mem_of_mem_take hy)))
  have h2 : ((b.drop i).take k).length ≤ k := by rw [List.length_take]; omega
  exact Nat.lt_of_lt_of_le h1 (Nat.pow_le_pow_right (by decide) h2)
theorem zeroS51 (w : World) : (zeroValue 32).run Tryz.prog w = .ok (.agg #[.int .u8 0, .int .u32 0, .int .u32 0, .slice none 0 0, .slice none 0 0, .int .u32 0, .int .u8 0]) w := by kernel_rfl
theorem run_b51 (x : Int) (a : Option Addr) (n c : Nat) (w : World) : (Instr.build 32 #[(2, .int .u32 x), (4, .slice a n c)]).run Tryz.prog w = .ok (.agg #[.int .u8 0, .int .u32 0, .int .u32 x, .slice none 0 0, .slice a n c, .int .u32 0, .int .u8 0]) w := by kernel_rfl
theorem info51 : (Tryz.prog.info? 32).map (·.size) = some 7 := by kernel_rfl
theorem size51 (a b c d e f g : Value) : (Tryz.prog.info? 32).map (·.size) = some (#[a, b, c, d, e, f, g] : Array Value).size := info51
theorem made_bytes (n : Nat) : (madeCells (Value.int .u8 0).cells (n * 1)).toList = encN .u8 (List.replicate n 0) := by
  unfold madeCells encN
  apply List.ext_getElem
  · simp
  · intro i h1 h2
    simp [Value.cells, Nat.mod_one]
theorem fresh_splice {m : Mo} (h : m.im.data.length ≤ 2 ^ m.k) : splice (encN .u8 (List.replicate (2 ^ m.k) 0)) 0 (encN .u8 m.im.data) = encN .u8 m.fresh := by
  unfold splice Mo.fresh
  rw [List.take_zero, List.nil_append, Nat.zero_add, encN_length, encN_append]
  congr 1
  simp only [encN, ← List.map_drop, List.drop_replicate]
def FreshPost (m : Img) (w : World) (e : Ending) (w' : World) : Prop :=
  ∃ vd, e = .returned (.tuple #[stV (.slice none 0 0) vd (moOf m).fst, .int .i64 0]) ∧ w'.ownsRow w.heap.size 5 1 vd (2 ^ bitsI m) (encN .u8 (moOf m).fresh) ∧ Below w.heap.size w w'
theorem fld28_2 (a1 a2 a3 a4 : Option Addr) (l1 n1 l2 n2 l3 n3 l4 n4 : Nat) (z t : Int) (w : World) : (Instr.field 28 (.agg #[.slice a1 l1 n1, .slice a2 l2 n2, .slice a3 l3 n3, .int .u32 z, .int .u32 t, .slice a4 l4 n4]) 2).run Tryz.prog w = .ok (.slice a3 l3 n3) w := by kernel_rfl
set_option maxRecDepth 100000 in
set_option maxHeartbeats 4000000 in
theorem fresh_any {w : World} {mb : Nat} {m : Img} (h : MAt w mb m) : Calls Tryz.prog 10 #[.pointer (some ⟨mb, 0, none⟩)] w (FreshPost m w) := by
  have hz51 := zeroS51
  have hf28 := fld28_2
  have hb51 := run_b51
  obtain ⟨i5, hi5, x0, x1, x2⟩ := info_parts inf5
  have hsz5 : (Tryz.prog.info? 5).map (·.size) = some 1 := by kernel_rfl
  obtain ⟨Wa, hWa⟩ : ∃ Wa, Wa = w.alloc (.cells #[.int .u8 0, .int .u32 0, .int .u32 0, .slice none 0 0, .slice none 0 0, .int .u32 0, .int .u8 0] 32) := ⟨_, rfl⟩
  have hba : Below w.heap.size w Wa := by rw [hWa]; exact Bel.new _ _
  have HHa : Hid (Wa.heap[w.heap.size]? = some (.cells #[.int .u8 0, .int .u32 0, .int .u32 0, .slice none 0 0, .slice none 0 0, .int .u32 0, .int .u8 0] 32 (0, 0))) := Lib.hid (by rw [hWa]; exact heap_alloc_new w _)
  have hsa : w.heap.size < Wa.heap.size := by rw [hWa]; simp
  have hok := moOk h.k
  obtain ⟨s1, s2, s3, s4, s5, s6⟩ := Mo.Ok.sizes hok
  have hroom : m.data.length ≤ 2 ^ bitsI m := by
    have := hok.r
    unfold roomN at this
    have h2 : (moOf m).k = bitsI m := rfl
    have h3 : (moOf m).im = m := rfl
    rw [h2, h3] at this
    omega
  have HSp := Lib.hid (fresh_splice (m := moOf m) hroom)
  have hk8 : 8 ≤ bitsI m := hok.k8
  have hk16 : bitsI m ≤ 16 := hok.k16
  have HNo := Lib.hid (h.below hba).empty
  have HBi := Lib.hid (h.below hba).bits
  have HIm := Lib.hid (fun W (hW : Below Wa.heap.size Wa W) => ((h.below hba).below hW).image)
  have HTo := Lib.hid (fun W (hW : Below Wa.heap.size Wa W) => ((h.below hba).below hW).top)
  have HBa := Lib.hid hba
  have htop : (moOf m).top = 2 ^ bitsI m - 64 := rfl
  have Hst := Lib.hid (show (moOf m).fst = ⟨0, 0, (moOf m).top, [], (moOf m).fresh, 0, 0⟩ from rfl)
  unfold FreshPost
  rw [Hst.out]
  unfold stV
  simp only
  rw [htop] at HTo ⊢
  have hmk : (moOf m).k = bitsI m := rfl
  rw [hmk] at HSp s1 s2 s3 s6
  obtain ⟨K, hK⟩ : ∃ K : Nat, K = 2 ^ bitsI m := ⟨_, rfl⟩
  have hp2 : (2 : Int) ^ bitsI m = (K : Int) := by rw [hK]; simp
  have t1 : 256 ≤ K := by rw [hK]; exact s1
  have t2 : K ≤ 65536 := by rw [hK]; exact s2
  have hroomK : m.data.length ≤ K := by rw [hK]; exact hroom
  clear s1 s2 hroom
  rw [← hK] at HSp HTo ⊢
  have hwK : IntKind.i64.wrap (K : Int) = (K : Int) := IntWalk.i64_in _ (by omega)
  have him : (moOf m).im = m := rfl
  rw [him] at HSp
  generalize (moOf m).fresh = fr at *
  generalize bitsI m = k at *
  clear h hba hok hK hmk him htop Hst s3 s4 s5
  go_enter Tryz.func10, Tryz.ntmps10
  go_wp2_with fail
  rw [← hWa]
  clear hWa
  refine HNo.out.mono ?_
  rintro e w1 ⟨rfl, rfl⟩
  go_wp2_with fail
  refine HBi.out.mono ?_
  rintro e w1 ⟨rfl, rfl⟩
  go_wp2_with (at_make; refine wpList_make_full _ rfl _ _ 24 rfl Wa.heap.size 5 i5 (.int .u8 0) 1 Tryz.underlying24 hi5 x0 x1 .i64 .i64 _ _ K rfl rfl rfl rfl (by rw [x2]; omega) (by unfold maxLen; omega) (Nat.le_refl _) ?_; intro w9 ho9 hg9; rw [made_bytes] at ho9; have hb9 := below_of_none hg9; have HO9 := Lib.hid ho9; have HB9 := Lib.hid hb9; clear ho9 hg9 hb9)
  have HI9 := Lib.hid (HIm.out w9 HB9.out)
  refine HI9.out.mono ?_
  rintro e w2 ⟨uc, uj, ud, un, rfl, hio, hb2⟩
  obtain ⟨a1, n1, rfl, -⟩ := own_sl hio.c
  obtain ⟨a2, n2, rfl, -⟩ := own_sl hio.j
  obtain ⟨a3, n3, rfl, -, -, hpd⟩ := own_sl hio.d
  obtain ⟨a4, n4, rfl, -⟩ := own_sl hio.n
  obtain ⟨cur, q1, q2, q3, q4, q5, q6⟩ := own_cur (own_below HO9.out hb2)
  have hcur : cur = encN .u8 (List.replicate K 0) := by rw [← q5, List.take_of_length_le (by omega)]
  have HB2 := Lib.hid (Bel.tr HB9.out hb2)
  have HQ := Lib.hid q1
  have HTo2 := Lib.hid (HTo.out)
  have hone := encN_one .u8 m.data
  have hmin : (encN .u8 m.data).length = Nat.min m.data.length K := by rw [encN_length]; exact (Nat.min_eq_left (by omega)).symm
  have hle : 0 + (encN .u8 m.data).length ≤ cur.length := by rw [encN_length, q2]; omega
  have HSrc := Lib.hid (show 0 < (encN .u8 m.data).length → ∃ ad, a3 = some ad ∧ ∀ j v, (encN .u8 m.data)[j]? = some v → w2.cell? (ad.add j) = some v from fun h0 => by
    rw [encN_length] at h0
    obtain ⟨g, rfl, hg, hc⟩ := hpd h0
    exact ⟨_, rfl, fun j v hj => by
      rw [Addr.add_mid, Nat.zero_add, hc j (List.getElem?_eq_some_iff.1 hj).1]; exact hj⟩)
  clear hio hb2 HI9 q1 HIm hpd
  go_wp2_with (((with_reducible refine wpList_copy_splice (o := ⟨some 16, .call { callee := .builtin .copy, args := #[.tmp 12, .tmp 15], argTypes := #[24, 24] }, _, _, _, none⟩) rfl (.tmp 12) (.tmp 15) 24 24 rfl 5 Tryz.underlying24 hsz5 (some ⟨Wa.heap.size, 0, none⟩) a3 K K m.data.length n3 ?_ ?_ Wa.heap.size 0 cur 5 HQ.out (encN .u8 m.data) hmin (fun h0 => ⟨rfl, HSrc.out h0⟩) hle hone Wa.heap.size Wa HB2.out (Nat.le_refl _) ?_); rfl; rfl; intro w3 hg3 hb3))
  have HT3 := Lib.hid (HTo2.out w3 hb3)
  refine HT3.out.mono ?_
  rintro e w4 ⟨rfl, rfl⟩
  have HB3 := Lib.hid hb3
  have HG3 := Lib.hid (show w3.ownsRow Wa.heap.size 5 1 (.slice (some ⟨Wa.heap.size, 0, none⟩) K K) K (encN .u8 fr) from by
    have h1 := hg3.out
    rw [hcur, HSp.out] at h1
    have hl : (encN .u8 fr).length = K := by
      rw [← HSp.out]; unfold splice
      simp only [List.length_append, List.length_take, List.length_drop, encN_length, List.length_replicate]; omega
    exact ⟨by rw [hl]; omega, .inr ⟨_, K, _, rfl, Nat.le_refl _, h1, Nat.le_refl _, by unfold maxLen; omega, by simp; omega, by simp [List.take_of_length_le (show (encN .u8 fr).length ≤ K by omega)]⟩⟩)
  have HH3 := Lib.hid ((HB3.out.block w.heap.size hsa).trans HHa.out)
  have hsz := size51 (.int .u8 0) (.int .u32 0) (.int .u32 ((K - 64 : Nat) : Int)) (.slice none 0 0) (.slice (some ⟨Wa.heap.size, 0, none⟩) K K) (.int .u32 0) (.int .u8 0)
  clear hb3 hg3 HT3
  go_wp2_with (((with_reducible refine wpList_store_row (o := ⟨none, .store 32 (.tmp 2) (.tmp 20), _, _, _, none⟩) rfl 32 _ _ rfl w.heap.size #[.int .u8 0, .int .u32 0, .int .u32 ((K - 64 : Nat) : Int), .slice none 0 0, .slice (some ⟨Wa.heap.size, 0, none⟩) K K, .int .u32 0, .int .u8 0] ?_ ?_ 32 _ HH3.out ?_ ?_ ?_ ?_); rfl; rfl; exact hsz; rfl; (simp [Value.oneCell'])))
  refine bodyPost_ret (v := .tuple #[.agg #[.int .u8 0, .int .u32 0, .int .u32 ((K - 64 : Nat) : Int), .slice none 0 0, .slice (some ⟨Wa.heap.size, 0, none⟩) K K, .int .u32 0, .int .u8 0], .int .i64 0]) (results_cell_tmp Tryz.results10 _ _ w.heap.size 32 _ (0, 0) _ rfl (setRow_heap _ _ _ _ _ _ HH3.out) Tryz.underlying32 rfl hsz _ rfl) rfl ⟨_, rfl, ?_, ?_⟩
  · exact own_downT (own_setRow HG3.out hsa) (Nat.le_of_lt hsa)
  · exact below_setRow (Bel.tr HBa.out HB3.out) _ (Nat.le_refl _) _
theorem MAt.made {w : World} {mb : Nat} {m : Img} (h : MAt w mb m) :
    Calls Tryz.prog 32 #[.pointer (some ⟨mb, 0, none⟩)] w fun e w' => e = .returned (.bool true) ∧ w = w' := by
  have H := Lib.hid h.count
  have hpos : (0 : Int) < ((m.code.length : Nat) : Int) := by have := h.k.f.h3.1; omega
  clear h
  generalize m.code.length = n at *
  go_enter Tryz.func32, Tryz.ntmps32
  go_wp2_with fail
  refine H.out.mono ?_
  rintro e w1 ⟨rfl, rfl⟩
  go_wp2_with fail
  go_ret
  exact ⟨ret_boolE (by simp; omega), rfl⟩
theorem digN_lt {m : Img} (h : checkI m = 0) : digN m < 18446744073709551616 := by
  have h1 := sumN_lt (imgB m)
  have h2 := imgB_length_le m h
  have e : digN m = sumN (imgB m) * 4294967296 + (imgB m).length := rfl
  omega
structure StC (w : World) (q o : Nat) (vo vd : Value) (s : St) : Prop where
  c0 : w.cell? ⟨q, o, none⟩ = some (.int .u8 s.life)
  c1 : w.cell? ⟨q, o + 1, none⟩ = some (.int .u32 s.pc)
  c2 : w.cell? ⟨q, o + 2, none⟩ = some (.int .u32 s.sp)
  c3 : w.cell? ⟨q, o + 3, none⟩ = some vo
  c4 : w.cell? ⟨q, o + 4, none⟩ = some vd
  c5 : w.cell? ⟨q, o + 5, none⟩ = some (.int .u32 s.value)
  c6 : w.cell? ⟨q, o + 6, none⟩ = some (.int .u8 s.fault)
set_option maxRecDepth 100000 in
set_option maxHeartbeats 4000000 in
theorem may1_any {w : World} {mb : Nat} {m : Img} (h : MAt w mb m) {q : Nat} {vo vd : Value} {s : St} (hq : StB w q vo vd s) (hs : StAt w vo vd s) (hn : s.ops.length ≤ 140737488355328) :
    Calls Tryz.prog 28 #[.pointer (some ⟨mb, 0, none⟩), .slice (some ⟨q, 0, none⟩) 1 1] w fun e w' => e = .returned (.int .i64 (if (moOf m).fits s = true then 0 else 3)) ∧ Below w.heap.size w w' := by
  have HMd := Lib.hid h.made
  obtain ⟨W0, hW0⟩ : ∃ W0, W0 = w.alloc (.cells #[.int .u8 s.life, .int .u32 s.pc, .int .u32 s.sp, vo, vd, .int .u32 s.value, .int .u8 s.fault] 32) := ⟨_, rfl⟩
  have hb0 : Below w.heap.size w W0 := by rw [hW0]; exact Bel.new _ _
  have HS0 := Lib.hid (StB.row (s := s) (vo := vo) (vd := vd) (by rw [hW0]; exact heap_alloc_new w _) : StB W0 w.heap.size vo vd s)
  have HFi := Lib.hid (fits_any (h.below hb0) (hs.below hb0) hn)
  unfold stV at HFi
  obtain ⟨a1, c1, rfl, -⟩ := hs.o.1
  obtain ⟨a2, c2, rfl, -⟩ := hs.d.1
  obtain ⟨d0, d1, d2, d3, d4, d5, d6⟩ := hq
  obtain ⟨e0, e1, e2, e3, e4, e5, e6⟩ := HS0.out
  have HB0 := Lib.hid hb0
  generalize (moOf m).fits s = ff at *
  clear hs h hb0
  go_enter Tryz.func28, Tryz.ntmps28
  go_wp2_with fail
  refine HMd.out.mono ?_
  rintro e w1 ⟨rfl, rfl⟩
  go_wp2_with fail
  refine wp_loop_rounds 2 ?_
  rw [rounds_succ]
  go_wp2_with fail
  rw [← hW0]
  clear hW0
  refine HFi.out.mono ?_
  rintro e w2 ⟨rfl, hb2⟩
  have HB2 := Lib.hid (Bel.tr HB0.out hb2)
  clear hb2 d0 d1 d2 d3 d4 d5 d6 e0 e1 e2 e3 e4 e5 e6
  cases ff
  · go_wp2_with fail
    go_ret
    exact ⟨rfl, HB2.out⟩
  · go_wp2_with fail
    rw [rounds_succ]
    go_wp2_with fail
    go_ret
    exact ⟨rfl, HB2.out⟩
set_option maxRecDepth 100000 in
set_option maxHeartbeats 4000000 in
theorem may2_any {w : World} {mb : Nat} {m : Img} (h : MAt w mb m) {q : Nat} {vo vd uo ud : Value} {s t : St} (hq : StB w q vo vd s) (hq2 : StC w q 7 uo ud t) (hs : StAt w vo vd s) (ht : StAt w uo ud t)
    (hn : s.ops.length ≤ 140737488355328) (hn2 : t.ops.length ≤ 140737488355328) :
    Calls Tryz.prog 28 #[.pointer (some ⟨mb, 0, none⟩), .slice (some ⟨q, 0, none⟩) 2 2] w fun e w' => e = .returned (.int .i64 (if ((moOf m).fits s && (moOf m).fits t) = true then 0 else 3)) ∧ Below w.heap.size w w' := by
  have HMd := Lib.hid h.made
  obtain ⟨W0, hW0⟩ : ∃ W0, W0 = w.alloc (.cells #[.int .u8 s.life, .int .u32 s.pc, .int .u32 s.sp, vo, vd, .int .u32 s.value, .int .u8 s.fault] 32) := ⟨_, rfl⟩
  have hb0 : Below w.heap.size w W0 := by rw [hW0]; exact Bel.new _ _
  have HS0 := Lib.hid (StB.row (s := s) (vo := vo) (vd := vd) (by rw [hW0]; exact heap_alloc_new w _) : StB W0 w.heap.size vo vd s)
  have HFi := Lib.hid (fits_any (h.below hb0) (hs.below hb0) hn)
  have HFt := Lib.hid (fun W (hW : Below w.heap.size w W) => fits_any (h.below hW) (ht.below hW) hn2)
  unfold stV at HFi HFt
  have hql := World.block_lt_of_cell? _ _ hq.c0
  have HQ2 := Lib.hid (fun W (hW : Below w.heap.size w W) => (⟨(hW.cell (p := ⟨q, 7, none⟩) hql).trans hq2.c0, (hW.cell (p := ⟨q, 8, none⟩) hql).trans hq2.c1, (hW.cell (p := ⟨q, 9, none⟩) hql).trans hq2.c2, (hW.cell (p := ⟨q, 10, none⟩) hql).trans hq2.c3,
    (hW.cell (p := ⟨q, 11, none⟩) hql).trans hq2.c4, (hW.cell (p := ⟨q, 12, none⟩) hql).trans hq2.c5, (hW.cell (p := ⟨q, 13, none⟩) hql).trans hq2.c6⟩ : StC W q 7 uo ud t))
  obtain ⟨a1, c1, rfl, -⟩ := hs.o.1
  obtain ⟨a2, c2, rfl, -⟩ := hs.d.1
  obtain ⟨a3, c3, rfl, -⟩ := ht.o.1
  obtain ⟨a4, c4, rfl, -⟩ := ht.d.1
  obtain ⟨d0, d1, d2, d3, d4, d5, d6⟩ := hq
  obtain ⟨e0, e1, e2, e3, e4, e5, e6⟩ := HS0.out
  have HB0 := Lib.hid hb0
  generalize (moOf m).fits s = ff at *
  generalize (moOf m).fits t = gg at *
  clear hs ht h hb0 hq2
  go_enter Tryz.func28, Tryz.ntmps28
  go_wp2_with fail
  refine HMd.out.mono ?_
  rintro e w1 ⟨rfl, rfl⟩
  go_wp2_with fail
  refine wp_loop_rounds 3 ?_
  rw [rounds_succ]
  go_wp2_with fail
  rw [← hW0]
  clear hW0
  refine HFi.out.mono ?_
  rintro e w2 ⟨rfl, hb2⟩
  have HB2 := Lib.hid (Bel.tr HB0.out hb2)
  clear hb2 d0 d1 d2 d3 d4 d5 d6 e0 e1 e2 e3 e4 e5 e6
  cases ff
  · go_wp2_with fail
    go_ret
    exact ⟨rfl, HB2.out⟩
  · obtain ⟨d0, d1, d2, d3, d4, d5, d6⟩ := HQ2.out w2 HB2.out
    obtain ⟨W3, hW3⟩ : ∃ W3, W3 = w2.alloc (.cells #[.int .u8 t.life, .int .u32 t.pc, .int .u32 t.sp, .slice a3 t.ops.length c3, .slice a4 t.data.length c4, .int .u32 t.value, .int .u8 t.fault] 32) := ⟨_, rfl⟩
    have hb3 : Below w2.heap.size w2 W3 := by rw [hW3]; exact Bel.new _ _
    have HS3 := Lib.hid (StB.row (s := t) (by rw [hW3]; exact heap_alloc_new w2 _) : StB W3 w2.heap.size (.slice a3 t.ops.length c3) (.slice a4 t.data.length c4) t)
    have HB3 := Lib.hid (Bel.tr HB2.out hb3)
    obtain ⟨e0, e1, e2, e3, e4, e5, e6⟩ := HS3.out
    clear hb3
    go_wp2_with fail
    rw [rounds_succ]
    go_wp2_with fail
    rw [← hW3]
    clear hW3
    refine (HFt.out W3 HB3.out).mono ?_
    rintro e w4 ⟨rfl, hb4⟩
    have HB4 := Lib.hid (Bel.tr HB3.out hb4)
    clear hb4 d0 d1 d2 d3 d4 d5 d6 e0 e1 e2 e3 e4 e5 e6
    cases gg
    · go_wp2_with fail
      go_ret
      exact ⟨rfl, HB4.out⟩
    · go_wp2_with fail
      rw [rounds_succ]
      go_wp2_with fail
      go_ret
      exact ⟨rfl, HB4.out⟩
theorem fresh_len {m : Img} (h : TakeOk m) : (moOf m).fresh.length = 2 ^ bitsI m := fresh_length (moOk h)
theorem fresh_lt {m : Img} (h : TakeOk m) (hd : ∀ x ∈ m.data, x < 256) : ∀ x ∈ (moOf m).fresh, x < 256 := by
  intro x hx
  rcases List.mem_append.1 (show x ∈ m.data ++ List.replicate (2 ^ bitsI m - m.data.length) 0 from hx) with hx | hx
  · exact hd x hx
  · rw [(List.mem_replicate.1 hx).2]; decide
theorem callFunc259 (args : Array Value) (W : World) : (callFunc 60 args).run Tryz.prog W = .ok (.enter 60 args) W := by simp [go_sem]
theorem callFunc263 (args : Array Value) (W : World) : (callFunc 59 args).run Tryz.prog W = .ok (.enter 59 args) W := by simp [go_sem]
set_option maxRecDepth 100000 in
set_option maxHeartbeats 2000000 in
theorem wholeBase {w : World} {mb : Nat} {m : Img} (h : MAt w mb m) {p : Nat} (hp : w.cell? ⟨p, 0, none⟩ = some (.pointer (some ⟨mb, 0, none⟩))) : BaseAt w 60 p (moOf m).fresh := by
  refine ⟨World.block_lt_of_cell? _ _ hp, callFunc259, fun W hW => ?_⟩
  have hpW := (hW.cell (p := ⟨p, 0, none⟩) (World.block_lt_of_cell? _ _ hp)).trans hp
  obtain ⟨w0, xc, xj, xd, xn, hx⟩ := h.x
  have HLt := Lib.hid (fresh_lt h.k hx.d.2)
  have HLn := Lib.hid (fresh_len h.k)
  have HF := Lib.hid (fresh_any (h.below hW))
  unfold FreshPost at HF
  have Hst := Lib.hid (show (moOf m).fst = ⟨0, 0, (moOf m).top, [], (moOf m).fresh, 0, 0⟩ from rfl)
  rw [Hst.out] at HF
  unfold stV at HF
  simp only at HF
  generalize (moOf m).fresh = fr at *
  generalize (moOf m).top = tp at *
  clear h hp hx Hst
  go_enter Tryz.func60, Tryz.ntmps60
  go_wp2_with fail
  refine HF.out.mono ?_
  rintro e w1 ⟨vd, rfl, ho, hb⟩
  have hby := own_bytes ho HLt.out
  obtain ⟨a, c, rfl, -⟩ := own_sl ho
  rw [← HLn.out] at *
  have HBy := Lib.hid hby
  have HB := Lib.hid hb
  clear ho hby hb HF
  go_wp2_with fail
  go_ret
  exact ⟨a, c, rfl, HBy.out.below (Bel.new _ _), Bel.al HB.out _⟩
set_option maxRecDepth 100000 in
set_option maxHeartbeats 2000000 in
theorem fromBase {w : World} {q : Nat} {vo vd : Value} {s : St} (hq : StB w q vo vd s) (hs : StAt w vo vd s) : BaseAt w 59 q s.data := by
  refine ⟨World.block_lt_of_cell? _ _ hq.c0, callFunc263, fun W hW => ?_⟩
  have hc := (hq.below hW).c4
  have HD := Lib.hid (hs.d.below hW)
  obtain ⟨a, c, rfl, -⟩ := hs.d.1
  clear hq hs
  go_enter Tryz.func59, Tryz.ntmps59
  go_wp2_with fail
  go_ret
  exact ⟨a, c, rfl, HD.out, Below.refl _ _⟩
theorem zero270 (w : World) : (zeroValue 79).run Tryz.prog w = .ok (.agg #[.int .u32 0, .int .u32 0, .nilFunc]) w := by kernel_rfl
theorem b270_1 (f : Fn) (a c : Array Value) (w : World) : (Instr.build 79 #[(2, .func f a c)]).run Tryz.prog w = .ok (.agg #[.int .u32 0, .int .u32 0, .func f a c]) w := by kernel_rfl
theorem b270_3 (x y : Int) (f : Fn) (a c : Array Value) (w : World) : (Instr.build 79 #[(0, .int .u32 x), (1, .int .u32 y), (2, .func f a c)]).run Tryz.prog w = .ok (.agg #[.int .u32 x, .int .u32 y, .func f a c]) w := by kernel_rfl
theorem info270 : (Tryz.prog.info? 79).map (·.size) = some 3 := by kernel_rfl
theorem size270 (a b c : Value) : (Tryz.prog.info? 79).map (·.size) = some (#[a, b, c] : Array Value).size := info270
theorem bs87_1 (l pc sp v ft : Int) (ao ad : Option Addr) (no co nd cd : Nat) (w : World) : (Instr.buildSlice 115 1 #[(0, .agg #[.int .u8 l, .int .u32 pc, .int .u32 sp, .slice ao no co, .slice ad nd cd, .int .u32 v, .int .u8 ft])]).run Tryz.prog w =
    .ok (.slice (some ⟨w.heap.size, 0, none⟩) 1 1) (w.alloc (.cells #[.int .u8 l, .int .u32 pc, .int .u32 sp, .slice ao no co, .slice ad nd cd, .int .u32 v, .int .u8 ft] 32)) := by kernel_rfl
section
variable {P : Program}
theorem results_cell_one {fn : Func} {p : Tmp} {ty : TypeId} (h : fn.results = #[.cell p ty]) (tmps : Array Value) (w : World) (g : Nat) (t : TypeId) (cs : Array Value) (fr : Nat × Nat) (d : TypeDesc)
    (hp : tmps.getD p undef = .pointer (some ⟨g, 0, none⟩)) (hg : w.heap[g]? = some (.cells cs t fr))
    (hu : P.underlying ty = some d) (hd : (match d with | .struct _ | .array _ _ => true | _ => false) = true) (hi : (P.info? ty).map (·.size) = some cs.size) :
    (results fn tmps).run P w = .ok (.agg cs) w := by
  have hp' : tmps[p]?.getD undef = .pointer (some ⟨g, 0, none⟩) := by simpa using hp
  simp [results, h, hp', asAddr, run_loadVar_row w g t ty cs fr d hg hu hd hi]
end
set_option maxRecDepth 100000 in
set_option maxHeartbeats 2000000 in
theorem whole_any {w : World} {mb : Nat} {m : Img} (h : MAt w mb m) : Calls Tryz.prog 31 #[.pointer (some ⟨mb, 0, none⟩)] w fun e w' =>
    ∃ p, e = .returned (.agg #[.int .u32 0, .int .u32 0, .func (.func 60) #[] #[.pointer (some ⟨p, 0, none⟩)]]) ∧ BaseAt w' 60 p (moOf m).fresh ∧ Below w.heap.size w w' := by
  have hmf : ∀ (fn : Fn) (first cap : Array Value) (w : World), (Instr.makeFunc fn first cap).run Tryz.prog w = .ok (.func fn first cap) w := fun _ _ _ _ => rfl
  have hz := zero270
  have hb1 := b270_1
  obtain ⟨W0, hW0⟩ : ∃ W0, W0 = (w.alloc (.cells #[.pointer (some ⟨mb, 0, none⟩)] 33)).alloc (.cells #[.int .u32 0, .int .u32 0, .nilFunc] 79) := ⟨_, rfl⟩
  have hb0 : Below w.heap.size w W0 := by rw [hW0]; exact Bel.al (Bel.new _ _) _
  have hc0 : W0.cell? ⟨w.heap.size, 0, none⟩ = some (.pointer (some ⟨mb, 0, none⟩)) := by rw [hW0]; exact cell_alE (cell1_new w (.pointer (some ⟨mb, 0, none⟩)) 33 rfl)
  have HH : Hid (W0.heap[w.heap.size + 1]? = some (.cells #[.int .u32 0, .int .u32 0, .nilFunc] 79 (0, 0))) := Lib.hid (by
    rw [hW0]
    have := heap_alloc_new (w.alloc (.cells #[.pointer (some ⟨mb, 0, none⟩)] 33)) (.cells #[.int .u32 0, .int .u32 0, .nilFunc] 79)
    simpa using this)
  have hs0 : W0.heap.size = w.heap.size + 2 := by rw [hW0]; simp
  have HM0 := Lib.hid (h.below hb0)
  have HB0 := Lib.hid hb0
  have HC0 := Lib.hid hc0
  have hsz := size270 (.int .u32 0) (.int .u32 0) (.func (.func 60) #[] #[.pointer (some ⟨w.heap.size, 0, none⟩)])
  have HBs : Hid (∀ cs : Array Value, BaseAt (W0.setRow (w.heap.size + 1) cs) 60 w.heap.size (moOf m).fresh) := Lib.hid (fun cs => by
    have hbb : Below w.heap.size w (W0.setRow (w.heap.size + 1) cs) := below_setRow hb0 _ (by omega) _
    refine wholeBase (h.below hbb) ?_
    have hb2 : Below (w.heap.size + 1) W0 (W0.setRow (w.heap.size + 1) cs) := below_setRow (Below.refl _ _) _ (Nat.le_refl _) _
    exact (hb2.cell (p := ⟨w.heap.size, 0, none⟩) (show w.heap.size < w.heap.size + 1 by omega)).trans hc0)
  have HWs := Lib.hid (show w.heap.size ≤ w.heap.size + 1 from Nat.le_succ _)
  clear h hb0 hc0 hs0
  subst hW0
  go_enter Tryz.func31, Tryz.ntmps31
  go_wp2_with (((with_reducible refine wpList_store_row (o := ⟨none, .store 79 (.tmp 2) (.tmp 4), _, _, _, none⟩) rfl 79 _ _ rfl (w.heap.size + 1) #[.int .u32 0, .int .u32 0, .func (.func 60) #[] #[.pointer (some ⟨w.heap.size, 0, none⟩)]] ?_ ?_ 79 _ HH.out ?_ ?_ ?_ ?_); rfl; rfl; exact hsz; rfl; (simp [Value.oneCell'])))
  refine bodyPost_ret (v := .agg #[.int .u32 0, .int .u32 0, .func (.func 60) #[] #[.pointer (some ⟨w.heap.size, 0, none⟩)]]) (results_cell_one Tryz.results31 _ _ (w.heap.size + 1) 79 _ (0, 0) _ rfl (setRow_heap _ _ _ _ _ _ HH.out) Tryz.underlying79 rfl hsz) rfl ⟨_, rfl, HBs.out _, below_setRow HB0.out _ (by omega) _⟩
def SavePost (m : Img) (s : St) (w : World) (e : Ending) (w' : World) : Prop :=
  Below w.heap.size w w' ∧ (((moOf m).fits s = false ∧ e = .returned (.tuple #[.slice none 0 0, .int .i64 3])) ∨
    ((moOf m).fits s = true ∧ ∃ v, e = .returned (.tuple #[v, .int .i64 0]) ∧ w'.ownsRow w.heap.size 5 1 v (saveN (moOf m) s).length (encN .u8 (saveN (moOf m) s))))
set_option maxRecDepth 100000 in
set_option maxHeartbeats 4000000 in
theorem save_any {w : World} {mb : Nat} {m : Img} (h : MAt w mb m) {vo vd : Value} {s : St} (hs : StAt w vo vd s) (hn : s.ops.length ≤ 140737488355328) :
    Calls Tryz.prog 12 #[.pointer (some ⟨mb, 0, none⟩), stV vo vd s] w (SavePost m s w) := by
  have hbs := bs87_1
  obtain ⟨ao, co, rfl, -⟩ := hs.o.1
  obtain ⟨ad, cd, rfl, -⟩ := hs.d.1
  obtain ⟨W0, hW0⟩ : ∃ W0, W0 = w.alloc (.cells #[.int .u8 s.life, .int .u32 s.pc, .int .u32 s.sp, .slice ao s.ops.length co, .slice ad s.data.length cd, .int .u32 s.value, .int .u8 s.fault] 32) := ⟨_, rfl⟩
  have hb0 : Below w.heap.size w W0 := by rw [hW0]; exact Bel.new _ _
  have HS0 := Lib.hid (StB.row (s := s) (by rw [hW0]; exact heap_alloc_new w _) : StB W0 w.heap.size (.slice ao s.ops.length co) (.slice ad s.data.length cd) s)
  obtain ⟨W1, hW1⟩ : ∃ W1, W1 = W0.alloc (.cells #[.int .u8 s.life, .int .u32 s.pc, .int .u32 s.sp, .slice ao s.ops.length co, .slice ad s.data.length cd, .int .u32 s.value, .int .u8 s.fault] 32) := ⟨_, rfl⟩
  have hb1 : Below W0.heap.size W0 W1 := by rw [hW1]; exact Bel.new _ _
  have hs0 : w.heap.size + 1 = W0.heap.size := by rw [hW0]; simp
  have HS1 := Lib.hid (StB.row (s := s) (by rw [hW1, hs0]; exact heap_alloc_new W0 _) : StB W1 (w.heap.size + 1) (.slice ao s.ops.length co) (.slice ad s.data.length cd) s)
  have HMy := Lib.hid (may1_any ((h.below hb0).below hb1) HS1.out ((hs.below hb0).below hb1) hn)
  have HB1 := Lib.hid (Bel.tr hb0 hb1)
  have HB01 := Lib.hid hb1
  have HM1 := Lib.hid ((h.below hb0).below hb1)
  have HSt1 := Lib.hid ((hs.below hb0).below hb1)
  obtain ⟨d0, d1, d2, d3, d4, d5, d6⟩ := HS0.out
  have hk := h.k
  unfold SavePost
  have HF := Lib.hid (show (moOf m).fits s = true → s.data.length = 2 ^ bitsI m ∧ s.ops.length ≤ 64 from fun hf => ⟨fits_len hf, fits_ops (moOk hk) hf⟩)
  have hk16 : bitsI m ≤ 16 := (moOk hk).k16
  have HFl := Lib.hid (fresh_len hk)
  have HDg := Lib.hid (digN_lt hk.k)
  have hp16 := (Mo.Ok.sizes (moOk hk)).2.1
  have HP16 := Lib.hid (show 2 ^ bitsI m ≤ 65536 from hp16)
  have HSv := Lib.hid (show saveN (moOf m) s = fileN (digN m) 0 0 (moOf m).fresh s from rfl)
  clear hp16 h hs hb0 hb1 hk hs0
  unfold stV
  by_cases hf : (moOf m).fits s = true
  · have HFt := Lib.hid hf
    rw [if_pos hf] at HMy
    clear hf
    go_enter Tryz.func12, Tryz.ntmps12
    go_wp2_with fail
    rw [← hW0, ← hW1]
    clear hW0 hW1
    with_reducible refine HMy.out.mono ?_
    rintro e w2 ⟨rfl, hb2⟩
    have HB2 := Lib.hid (Bel.tr HB1.out hb2)
    have HS2 := Lib.hid (HS0.out.below (Bel.tr HB01.out hb2))
    have HM2 := Lib.hid (HM1.out.below hb2)
    have HSt2 := Lib.hid (HSt1.out.below hb2)
    clear hb2 d0 d1 d2 d3 d4 d5 d6
    obtain ⟨d0, d1, d2, d3, d4, d5, d6⟩ := HS2.out
    have HWh := Lib.hid (fun W (hW : Below w2.heap.size w2 W) => whole_any (HM2.out.below hW))
    have HKp := Lib.hid (fun (W W' : World) (hb : Below W.heap.size W W') (hS : (W.cell? ⟨w.heap.size, 0, none⟩ = some (.int .u8 s.life) ∧ W.cell? ⟨w.heap.size, 1, none⟩ = some (.int .u32 s.pc) ∧ W.cell? ⟨w.heap.size, 2, none⟩ = some (.int .u32 s.sp) ∧ W.cell? ⟨w.heap.size, 3, none⟩ = some (.slice ao s.ops.length co) ∧ W.cell? ⟨w.heap.size, 4, none⟩ = some (.slice ad s.data.length cd) ∧ W.cell? ⟨w.heap.size, 5, none⟩ = some (.int .u32 s.value) ∧ W.cell? ⟨w.heap.size, 6, none⟩ = some (.int .u8 s.fault)) ∧ Below w2.heap.size w2 W) =>
      (⟨(let q := HS2.out.below (Bel.tr hS.2 hb); ⟨q.c0, q.c1, q.c2, q.c3, q.c4, q.c5, q.c6⟩), Bel.tr hS.2 hb⟩ : (W'.cell? ⟨w.heap.size, 0, none⟩ = some (.int .u8 s.life) ∧ W'.cell? ⟨w.heap.size, 1, none⟩ = some (.int .u32 s.pc) ∧ W'.cell? ⟨w.heap.size, 2, none⟩ = some (.int .u32 s.sp) ∧ W'.cell? ⟨w.heap.size, 3, none⟩ = some (.slice ao s.ops.length co) ∧ W'.cell? ⟨w.heap.size, 4, none⟩ = some (.slice ad s.data.length cd) ∧ W'.cell? ⟨w.heap.size, 5, none⟩ = some (.int .u32 s.value) ∧ W'.cell? ⟨w.heap.size, 6, none⟩ = some (.int .u8 s.fault)) ∧ Below w2.heap.size w2 W'))
    have H00 := Lib.hid (HKp.out w2 w2.drew ((Below.refl _ _).drew) ⟨⟨d0, d1, d2, d3, d4, d5, d6⟩, Below.refl _ _⟩)
    have HFi := Lib.hid (fun (W : World) (hW : Below w2.heap.size w2 W) (p : Nat) (hbs : BaseAt W 60 p (moOf m).fresh) => file_any (HM2.out.below hW) (HSt2.out.below hW) (by have := (HF.out HFt.out).2; omega) hbs (by rw [HFl.out, (HF.out HFt.out).1]) (by rw [HFl.out]; exact HP16.out) (digN m) 0 0 rfl HDg.out (by decide) (by decide))
    unfold stV baseV at HFi
    rw [← HSv.out] at HFi
    go_wp2_with fail
    first | (go_region_held3 (fun W => (W.cell? ⟨w.heap.size, 0, none⟩ = some (.int .u8 s.life) ∧ W.cell? ⟨w.heap.size, 1, none⟩ = some (.int .u32 s.pc) ∧ W.cell? ⟨w.heap.size, 2, none⟩ = some (.int .u32 s.sp) ∧ W.cell? ⟨w.heap.size, 3, none⟩ = some (.slice ao s.ops.length co) ∧ W.cell? ⟨w.heap.size, 4, none⟩ = some (.slice ad s.data.length cd) ∧ W.cell? ⟨w.heap.size, 5, none⟩ = some (.int .u32 s.value) ∧ W.cell? ⟨w.heap.size, 6, none⟩ = some (.int .u8 s.fault)) ∧ Below w2.heap.size w2 W)
      (first | assumption | exact H00.out | exact HKp.out _ _ hbF (by assumption) | exact HKp.out _ _ hbW (by assumption))
      (first
        | (go_at_call 31; refine (HWh.out _ ?_).mono ?_; exact (by assumption : (_ ∧ _) ∧ Below w2.heap.size w2 _).2; rintro e wW ⟨p, rfl, hbase, hbW⟩)
        | (go_at_call 29; refine (HFi.out _ ?_ p hbase).mono ?_; exact (by assumption : (_ ∧ _) ∧ Below w2.heap.size w2 _).2; rintro e wF ⟨v, rfl, hoF, hbF⟩; obtain ⟨av, cv, rfl, -⟩ := own_sl hoF))) | fail "held"
    have HBw := Lib.hid (by assumption : (_ ∧ _) ∧ Below w2.heap.size w2 wF).2
    have HOF := Lib.hid (own_downT hoF (show w.heap.size ≤ wW.heap.size by have := HB2.out.size; have h9 : w2.heap.size ≤ wW.heap.size := hbW.size; omega))
    clear hoF hbF hbW hbase
    go_wp2_with fail
    go_ret2
    exact ⟨Bel.tr HB2.out HBw.out, .inr ⟨HFt.out, _, rfl, HOF.out⟩⟩
  · have hf' : (moOf m).fits s = false := by simpa using hf
    have HFt := Lib.hid hf'
    rw [if_neg hf] at HMy
    clear hf hf'
    go_enter Tryz.func12, Tryz.ntmps12
    go_wp2_with fail
    rw [← hW0, ← hW1]
    clear hW0 hW1
    with_reducible refine HMy.out.mono ?_
    rintro e w2 ⟨rfl, hb2⟩
    have HB2 := Lib.hid (Bel.tr HB1.out hb2)
    clear hb2 d0 d1 d2 d3 d4 d5 d6
    go_wp2_with fail
    go_ret2
    exact ⟨HB2.out, .inl ⟨HFt.out, rfl⟩⟩
def tlO : Nat → Option Code → Option Code
  | 0, c => c
  | n + 1, c => tlO n (match c with | some (.seq _ y) => some y | _ => none)
theorem wp_tl {P : Program} {Q : Exit → Act → World → Prop} {a : Act} {w : World} {k : Nat} {b : Option Code} {c c' : Code} (hc : tlO k b = some c) (h : tlO k b = some c') (hw : c'.wp P Q a w) : c.wp P Q a w := by
  rw [hc] at h
  cases h
  exact hw
theorem cells51 {w : World} {g : Nat} {a b c d e f i : Value} (h : w.heap[g]? = some (.cells #[a, b, c, d, e, f, i] 32 (0, 0))) :
    (w.cell? ⟨g, 0, none⟩ = some a ∧ w.cell? ⟨g, 1, none⟩ = some b ∧ w.cell? ⟨g, 2, none⟩ = some c ∧ w.cell? ⟨g, 3, none⟩ = some d ∧ w.cell? ⟨g, 4, none⟩ = some e ∧ w.cell? ⟨g, 5, none⟩ = some f ∧ w.cell? ⟨g, 6, none⟩ = some i) ∧ ∀ j, w.frozen? ⟨g, j, none⟩ = false :=
  ⟨⟨cell_of_row w g 0 _ _ _ h, cell_of_row w g 1 _ _ _ h, cell_of_row w g 2 _ _ _ h, cell_of_row w g 3 _ _ _ h, cell_of_row w g 4 _ _ _ h, cell_of_row w g 5 _ _ _ h, cell_of_row w g 6 _ _ _ h⟩, fun j => frozen_of_row w g j _ _ h⟩
set_option maxRecDepth 100000 in
set_option maxHeartbeats 8000000 in
theorem taken_b {w W : World} {c : Code} (hc : tlO 14 Tryz.f63.body = some c) {mb k r q : Nat} {m : Img} {ab av : Option Addr} {cb cv : Nat} {b : List Nat} {f p : Nat} {base : List Nat} {delta mark : Nat} {rs : List (Nat × List Nat)} {us : List Value} {s : St} {au : Option Addr} {cu : Nat}
    {x2 x3 x4 x7 x8 x9 x11 x12 x14 x16 x17 x18 x19 x20 x21 x22 x23 x24 x25 x26 x27 x28 x29 x30 x31 x32 x33 x34 x35 x36 x37 x38 x39 x40 x41 x42 x43 x44 x45 x46 x47 x48 x49 x50 x51 x52 x53 x54 x55 x56 x57 x58 x59 x60 x61 x62 x63 x64 x65 x66 x67 x68 x69 x70 x71 x72 x73 x74 x75 x76 x77 x78 x79 x80 x81 x82 x83 x84 x85 x86 x87 x88 x89 x90 x91 x92 x93 x94 x95 x96 x97 x98 x99 x100 x101 x102 x103 x104 x105 x106 x107 x108 x109 x110 x111 x112 x113 x114 x115 x116 x117 x118 x119 x120 x121 x122 x123 x124 x125 x126 x127 x128 x129 x130 x131 x132 x133 x134 x135 x136 x137 x138 x139 x140 x141 x142 x143 x144 x145 x146 x147 x148 x149 x150 x151 x152 x153 x154 x155 x156 x157 x158 x159 x160 x161 x162 x163 x164 x165 x166 x167 x168 x169 : Value}
    (hb : Below w.heap.size w W) (hM : MAt w mb m) (hV : Bytes w (.slice ab b.length cb) b) (hBs : BaseAt w f p base) (hbl : base.length = 2 ^ bitsI m)
    (hdg : (moOf m).dig = digN m) (hdl : delta < 4294967296) (hmk : mark < 4294967296)
    (hwr : w.heap.size ≤ r) (hrq : r < q) (hkr : k ≠ r) (hkq : k ≠ q) (hkW : k < W.heap.size) (hwq : q < W.heap.size)
    (hK : W.heap[k]? = some (.cells #[.int .u32 delta, .int .u32 mark, .func (.func f) #[] #[.pointer (some ⟨p, 0, none⟩)]] 79 (0, 0)))
    (hR : W.heap[r]? = some (.cells zst 32 (0, 0)))
    (hQ : W.heap[q]? = some (.cells #[.int .u8 s.life, .int .u32 s.pc, .int .u32 s.sp, .slice au s.ops.length cu, .slice none 0 0, .int .u32 s.value, .int .u8 s.fault] 32 (0, 0)))
    (hU : W.ownsRow (q + 1) 25 1 (.slice au s.ops.length cu) s.ops.length (encN .u32 s.ops)) (hol : s.ops.length ≤ 65535)
    (hRs : RunsAt W (.slice av rs.length cv) rs us) (hsd : s.data = mendN base rs) (hsm : mendOk base.length 0 rs = true → s.Small)
    (H7 : mendOk base.length 0 rs = false → readN (moOf m) b delta mark base = .error (28, 200))
    (H8 : mendOk base.length 0 rs = true → fileN (moOf m).dig delta mark base s ≠ b → readN (moOf m) b delta mark base = .error (28, 200))
    (H9 : mendOk base.length 0 rs = true → fileN (moOf m).dig delta mark base s = b → readN (moOf m) b delta mark base = if (moOf m).fits s = true then .ok s else .error (28, 3)) :
    Code.wp Tryz.prog c (bodyPost Tryz.prog Tryz.f63 (TakenPost (moOf m) b base delta mark w)) ⟨#[.pointer (some ⟨mb, 0, none⟩), .slice ab b.length cb, x2, x3, x4, .pointer (some ⟨k, 0, none⟩), .pointer (some ⟨r, 0, none⟩), x7, x8, x9, .func (.func 101) #[] #[], x11, x12, .pointer (some ⟨q, 0, none⟩), x14, .slice av rs.length cv, x16, x17, x18, x19, x20, x21, x22, x23, x24, x25, x26, x27, x28, x29, x30, x31, x32, x33, x34, x35, x36, x37, x38, x39, x40, x41, x42, x43, x44, x45, x46, x47, x48, x49, x50, x51, x52, x53, x54, x55, x56, x57, x58, x59, x60, x61, x62, x63, x64, x65, x66, x67, x68, x69, x70, x71, x72, x73, x74, x75, x76, x77, x78, x79, x80, x81, x82, x83, x84, x85, x86, x87, x88, x89, x90, x91, x92, x93, x94, x95, x96, x97, x98, x99, x100, x101, x102, x103, x104, x105, x106, x107, x108, x109, x110, x111, x112, x113, x114, x115, x116, x117, x118, x119, x120, x121, x122, x123, x124, x125, x126, x127, x128, x129, x130, x131, x132, x133, x134, x135, x136, x137, x138, x139, x140, x141, x142, x143, x144, x145, x146, x147, x148, x149, x150, x151, x152, x153, x154, x155, x156, x157, x158, x159, x160, x161, x162, x163, x164, x165, x166, x167, x168, x169], []⟩ W := by
  refine wp_tl hc rfl ?_
  have hcf := hBs.cf
  have hk16 : bitsI m ≤ 16 := (moOk hM.k).k16
  have hp16 := (Mo.Ok.sizes (moOk hM.k)).2.1
  have hp0 : 0 < base.length := by rw [hbl]; exact Nat.two_pow_pos _
  have hp1 : base.length ≤ 65536 := by rw [hbl]; exact hp16
  have hdgl : (moOf m).dig < 18446744073709551616 := by rw [hdg]; exact digN_lt hM.k.k
  have HML := Lib.hid (fun (h : mendOk base.length 0 rs = true) => by have := mend_length rs 0 h rs.length; rwa [List.take_length] at this)
  have hK2 := cell_of_row W k 2 _ _ _ hK
  have HCl := Lib.hid ((hBs.below hb).call W (Below.refl _ _))
  have HYes := Lib.hid (fun (p e : Int) (W : World) => ask_yes p e W)
  have HNo := Lib.hid (fun (p e : Int) (W : World) => ask_no p e W)
  have HB := Lib.hid hb
  have HSD := Lib.hid hsd
  have HSM := Lib.hid hsm
  have HU := Lib.hid hU
  have HQ := Lib.hid hQ
  have HK := Lib.hid hK
  have HR := Lib.hid hR
  have HRs := Lib.hid hRs
  have HBL := Lib.hid hbl
  have HDG := Lib.hid hdg
  have HM := Lib.hid hM
  have HV := Lib.hid hV
  have HBs := Lib.hid hBs
  have Hp1 := Lib.hid hp1
  have Hp0 := Lib.hid hp0
  unfold TakenPost
  clear hb hsd hsm hU hQ hK hR hRs hbl hdg hM hV hBs hk16 hp16 hp0 hp1
  go_wp2_with fail
  refine HCl.out.mono ?_
  rintro e w1 ⟨ac, cc, rfl, hby, hb1⟩
  have HMe := Lib.hid (mend_any _ _ base rs us Hp0.out Hp1.out w1 hby (HRs.out.below hb1))
  have HB1 := Lib.hid hb1
  clear hb1 hby HCl hK2
  go_wp2_with fail
  refine HMe.out.mono ?_
  rintro e w2 ⟨hb2, ⟨hno, rfl⟩ | ⟨hok, v, rfl, hod⟩⟩
  · have HBw := Lib.hid (Bel.tr HB.out (Bel.tr HB1.out hb2))
    have HE := Lib.hid (H7 hno)
    clear hb2 hno
    go_wp2_with fail
    refine (HNo.out _ _ _).mono ?_
    rintro e w3 ⟨rfl, rfl⟩
    exact ⟨rfl, HBw.out, .inl ⟨_, _, HE.out, rfl⟩⟩
  · have HB2 := Lib.hid (Bel.tr HB1.out hb2)
    have HBw2 := Lib.hid (Bel.tr HB.out HB2.out)
    have HOk := Lib.hid hok
    have hlen : (mendN base rs).length = base.length := HML.out hok
    have hod' : w2.ownsRow w1.heap.size 5 1 v s.data.length (encN .u8 s.data) := by rw [HSD.out, hlen]; exact hod
    have hdl2 : base.length = s.data.length := by rw [HSD.out, hlen]
    have HDL := Lib.hid hdl2
    clear hlen hod
    obtain ⟨ad, cd, rfl, -⟩ := own_sl hod'
    have hq1 : q < w1.heap.size := Nat.lt_of_lt_of_le hwq HB1.out.size
    have hQ2 := (HB2.out.block q hwq).trans HQ.out
    have hU2 := own_below HU.out HB2.out
    obtain ⟨⟨q0, q1, q2, q3, q4, q5, q6⟩, qf⟩ := cells51 hQ2
    obtain ⟨W3, hW3⟩ : ∃ W3, W3 = w2.setCell ⟨q, 4, none⟩ (.slice ad s.data.length cd) := ⟨_, rfl⟩
    have hb3 : Below q w2 W3 := by rw [hW3]; exact (Below.refl _ _).setCell (p := ⟨q, 4, none⟩) (Nat.le_refl _) _
    have HQ3 := Lib.hid (show W3.heap[q]? = some (.cells #[.int .u8 s.life, .int .u32 s.pc, .int .u32 s.sp, .slice au s.ops.length cu, .slice ad s.data.length cd, .int .u32 s.value, .int .u8 s.fault] 32 (0, 0)) from by
      rw [hW3]; exact heap_setCell_same w2 q 4 _ _ _ hQ2)
    have hU3 : W3.ownsRow (q + 1) 25 1 (.slice au s.ops.length cu) s.ops.length (encN .u32 s.ops) := by rw [hW3]; exact ownsRow_setCell_below hU2 (Nat.lt_succ_self q) _
    have hD3 : W3.ownsRow (q + 1) 5 1 (.slice ad s.data.length cd) s.data.length (encN .u8 s.data) := by rw [hW3]; exact ownsRow_setCell_below (own_downT hod' hq1) (Nat.lt_succ_self q) _
    have HO3 := Lib.hid (⟨hU3, hD3, HSM.out hok⟩ : StOwn W3 (q + 1) _ _ s)
    have HBw3 := Lib.hid (show Below w.heap.size w W3 from HBw2.out.trans (hb3.mono (by omega)))
    have HR3 := Lib.hid (show W3.heap[r]? = some (.cells zst 32 (0, 0)) from ((hb3.block r hrq).trans ((HB2.out.block r (by omega)).trans HR.out)))
    have hK2 := (HB2.out.block k hkW).trans HK.out
    have hK3 : W3.heap[k]? = some (.cells #[.int .u32 delta, .int .u32 mark, .func (.func f) #[] #[.pointer (some ⟨p, 0, none⟩)]] 79 (0, 0)) := by
      rw [hW3]; exact (Below.heap_setCell _ _ _ _ hkq).trans hK2
    have k0 := cell_of_row w2 k 0 _ _ _ hK2
    have k1 := cell_of_row w2 k 1 _ _ _ hK2
    have k2 := cell_of_row w2 k 2 _ _ _ hK2
    have HFi := Lib.hid (file_any (HM.out.below HBw3.out) HO3.out.at hol (HBs.out.below HBw3.out) HDL.out Hp1.out (moOf m).dig delta mark HDG.out hdgl hdl hmk)
    have hqk : q ≠ k := fun e => hkq e.symm
    have hs2 : q < w2.heap.size := Nat.lt_of_lt_of_le hwq HB2.out.size
    unfold stV baseV at HFi
    clear hb2 hok hod' hdl2 hb3 hU3 hD3 hK3 hQ2 hU2 hK2
    go_wp2_with fail
    refine (HYes.out _ _ _).mono ?_
    rintro e w3 ⟨rfl, rfl⟩
    go_wp2_with fail
    rw [← hW3]
    clear hW3 q0 q1 q2 q3 q4 q5 q6 qf k0 k1 k2
    refine HFi.out.mono ?_
    rintro e w4 ⟨vf, rfl, hof, hb4⟩
    have HLt := Lib.hid (file_lt (dig := (moOf m).dig) (delta := delta) (mark := mark) HO3.out.sm HDL.out)
    have HBw4 := Lib.hid (Bel.tr HBw3.out hb4)
    have HEq := Lib.hid (equal_any (own_bytes hof HLt.out) (HV.out.below HBw4.out))
    have hs3 : q < W3.heap.size := World.block_lt_of_cell? W3 ⟨q, 0, none⟩ (cell_of_row W3 q 0 _ _ _ HQ3.out)
    have HB4 := Lib.hid hb4
    obtain ⟨af, cf, rfl, -⟩ := own_sl hof
    clear hof hb4 HFi
    by_cases hfe : fileN (moOf m).dig delta mark base s = b
    · have HE9 := Lib.hid (H9 HOk.out hfe)
      rw [show decide (fileN (moOf m).dig delta mark base s = b) = true from decide_eq_true hfe] at HEq
      rw [hfe] at HEq
      rw [hfe]
      clear hfe
      go_wp2_with fail
      refine HEq.out.mono ?_
      rintro e w5 ⟨rfl, hb5⟩
      have HB5 := Lib.hid (Bel.tr HB4.out hb5)
      have HBw5 := Lib.hid (Bel.tr HBw4.out hb5)
      have HO5 := Lib.hid (HO3.out.below HB5.out)
      have HQ5 := Lib.hid ((HB5.out.block q hs3).trans HQ3.out)
      have HR5 := Lib.hid ((HB5.out.block r (by omega)).trans HR3.out)
      have HFt := Lib.hid (fits_any (HM.out.below HBw5.out) HO5.out.at (by omega))
      clear hb5
      obtain ⟨⟨q0, q1, q2, q3, q4, q5, q6⟩, qf⟩ := cells51 HQ5.out
      unfold stV at HFt
      go_wp2_with fail
      refine (HYes.out _ _ _).mono ?_
      rintro e w6 ⟨rfl, rfl⟩
      by_cases hft : (moOf m).fits s = true
      · have HE := Lib.hid (show readN (moOf m) b delta mark base = .ok s from by rw [HE9.out, if_pos hft])
        rw [hft] at HFt
        clear hft
        go_wp2_with fail
        refine HFt.out.mono ?_
        rintro e w7 ⟨rfl, hb7⟩
        have HB7 := Lib.hid (Bel.tr HB5.out hb7)
        have HBw7 := Lib.hid (Bel.tr HBw5.out hb7)
        have HO7 := Lib.hid (HO3.out.below HB7.out)
        have HQ7 := Lib.hid ((HB7.out.block q hs3).trans HQ3.out)
        have HR7 := Lib.hid ((HB7.out.block r (by omega)).trans HR3.out)
        clear hb7 q0 q1 q2 q3 q4 q5 q6 qf
        obtain ⟨⟨q0, q1, q2, q3, q4, q5, q6⟩, qf⟩ := cells51 HQ7.out
        go_wp2_with fail
        refine (HYes.out _ _ _).mono ?_
        rintro e w8 ⟨rfl, rfl⟩
        go_wp2_with (((with_reducible refine wpList_store_row (o := ⟨none, .store 32 (.tmp 6) (.tmp 169), _, _, _, none⟩) rfl 32 _ _ rfl r #[.int .u8 s.life, .int .u32 s.pc, .int .u32 s.sp, .slice au s.ops.length cu, .slice ad s.data.length cd, .int .u32 s.value, .int .u8 s.fault] ?_ ?_ 32 _ HR7.out ?_ ?_ ?_ ?_); rfl; rfl; exact rc_i51; rfl; (simp [Value.oneCell'])))
        refine bodyPost_ret (v := .agg #[.int .u8 s.life, .int .u32 s.pc, .int .u32 s.sp, .slice au s.ops.length cu, .slice ad s.data.length cd, .int .u32 s.value, .int .u8 s.fault]) (results_cell_one Tryz.results63 _ _ r 32 _ (0, 0) _ rfl (setRow_heap _ _ _ _ _ _ HR7.out) Tryz.underlying32 rfl rc_i51) rfl ?_
        exact ⟨below_setRow HBw7.out _ hwr _, .inr ⟨s, _, _, HE.out, rfl, (HO7.out.row (by omega)).down (by omega)⟩⟩
      · have hft' : (moOf m).fits s = false := by simpa using hft
        have HE := Lib.hid (show readN (moOf m) b delta mark base = .error (28, 3) from by rw [HE9.out, if_neg hft])
        rw [hft'] at HFt
        clear hft hft'
        go_wp2_with fail
        refine HFt.out.mono ?_
        rintro e w7 ⟨rfl, hb7⟩
        have HBw7 := Lib.hid (Bel.tr HBw5.out hb7)
        clear hb7 q0 q1 q2 q3 q4 q5 q6 qf
        go_wp2_with fail
        refine (HNo.out _ _ _).mono ?_
        rintro e w8 ⟨rfl, rfl⟩
        exact ⟨rfl, HBw7.out, .inl ⟨_, _, HE.out, rfl⟩⟩
    · have HE := Lib.hid (H8 HOk.out hfe)
      rw [show decide (fileN (moOf m).dig delta mark base s = b) = false from decide_eq_false hfe] at HEq
      clear hfe
      generalize fileN (moOf m).dig delta mark base s = fl at *
      go_wp2_with fail
      refine HEq.out.mono ?_
      rintro e w5 ⟨rfl, hb5⟩
      have HBw5 := Lib.hid (Bel.tr HBw4.out hb5)
      clear hb5
      go_wp2_with fail
      refine (HNo.out _ _ _).mono ?_
      rintro e w6 ⟨rfl, rfl⟩
      exact ⟨rfl, HBw5.out, .inl ⟨_, _, HE.out, rfl⟩⟩
theorem bytes_part {w : World} {g off c : Nat} {l : List Nat} (h : Bytes w (.slice (some ⟨g, off, none⟩) l.length c) l) (i n : Nat) (hi : i + n ≤ l.length) : Bytes w (.slice (some ⟨g, off + i, none⟩) n (c - i)) ((l.drop i).take n) := by
  obtain ⟨⟨a, cap, hv, hl, hn, hm, ha, hp⟩, hlt⟩ := h
  cases hv
  have hll := encN_length .u8 l
  have hdl : ((l.drop i).take n).length = n := by rw [List.length_take, List.length_drop]; omega
  refine ⟨⟨some ⟨g, off + i, none⟩, c - i, by rw [hdl], by rw [encN_length, hdl, Nat.mul_one], by rw [hdl]; omega, by unfold maxLen at hm ⊢; omega, (fun h => by cases h), fun h0 => ?_⟩, fun x hx => hlt x (List.mem_of_mem_drop (List.mem_of_mem_take hx))⟩
  rw [hdl] at h0
  obtain ⟨b, o, e, hb, hc⟩ := hp (by omega)
  cases e
  refine ⟨g, off + i, rfl, hb, fun j hj => ?_⟩
  rw [encN_length, hdl] at hj
  have h1 := hc (i + j) (by rw [encN_length]; omega)
  rw [Nat.add_assoc, h1, encN_at _ l (i + j) (by omega), encN_at _ ((l.drop i).take n) j (by rw [hdl]; omega)]
  simp [List.getD_eq_getElem?_getD, List.getElem?_drop, List.getElem?_take, hj]
theorem TakenPost.bad {mo : Mo} {b base : List Nat} {delta mark : Nat} {w w' : World} {pl er : Nat} (hb : Below w.heap.size w w') (h : readN mo b delta mark base = .error (pl, er)) : TakenPost mo b base delta mark w (.panicked (faultC pl er)) w' := ⟨hb, .inl ⟨_, _, h, rfl⟩⟩
structure TkL (w W : World) (mb k r q g off : Nat) (m : Img) (cb : Nat) (b : List Nat) (f p : Nat) (base : List Nat) (delta mark n30 b28 b29 n32 n36 n40 : Nat) (ops : List Nat) (au : Option Addr) (cu A : Nat) : Prop where
  hb : Below w.heap.size w W
  hM : MAt w mb m
  hV : Bytes w (.slice (some ⟨g, off, none⟩) b.length cb) b
  hBs : BaseAt w f p base
  hbl : base.length = 2 ^ bitsI m
  hl48 : 48 ≤ b.length
  hn : b.length ≤ 140737488351232
  hdg : (moOf m).dig = digN m
  hdl : delta < 4294967296
  hmk : mark < 4294967296
  hwr : w.heap.size ≤ r
  hrq : r < q
  hkr : k ≠ r
  hkq : k ≠ q
  hkW : k < W.heap.size
  hwq : q < W.heap.size
  hK : W.heap[k]? = some (.cells #[.int .u32 delta, .int .u32 mark, .func (.func f) #[] #[.pointer (some ⟨p, 0, none⟩)]] 79 (0, 0))
  hR : W.heap[r]? = some (.cells zst 32 (0, 0))
  hQ : W.heap[q]? = some (.cells #[.int .u8 b28, .int .u32 n32, .int .u32 n36, .slice au ops.length cu, .slice none 0 0, .int .u32 n40, .int .u8 b29] 32 (0, 0))
  hU : W.ownsRow (q + 1) 25 1 (.slice au ops.length cu) ops.length (encN .u32 ops)
  e28 : b.getD 28 0 = b28
  e29 : b.getD 29 0 = b29
  e32 : numAt 4 b 32 = n32
  e36 : numAt 4 b 36 = n36
  e40 : numAt 4 b 40 = n40
  e30 : numAt 2 b 30 = n30
  eo : wordsN ((b.drop 48).take (4 * n30)) = ops
  ol : ops.length = n30
  h1 : (lookN b).2 = 0
  h2 : numAt 8 b 8 = (moOf m).dig
  h3 : numAt 4 b 16 = 1 ↔ delta = 1
  h4 : numAt 4 b 20 = mark
  hA : A = 48 + 4 * n30
  h5 : A ≤ b.length
theorem wordsN_lt : ∀ (l : List Nat), (∀ x ∈ l, x < 256) → ∀ x ∈ wordsN l, x < 4294967296
  | [], _, x, h => by cases h
  | [_], _, x, h => by cases h
  | [_, _], _, x, h => by cases h
  | [_, _, _], _, x, h => by cases h
  | a :: b :: c :: d :: l, hl, x, h => by
    rw [wordsN] at h
    rcases List.mem_cons.1 h with rfl | h
    · have := deW_lt [a, b, c, d] (fun y hy => hl y (by simp at hy ⊢; omega))
      simpa using this
    · exact wordsN_lt l (fun y hy => hl y (by simp [hy])) x h
theorem mendN_lt (rs : List (Nat × List Nat)) : ∀ (l : List Nat), (∀ x ∈ l, x < 256) → (∀ r ∈ rs, r.1 < 4294967296 ∧ ∀ x ∈ r.2, x < 256) → ∀ x ∈ mendN l rs, x < 256 := by
  induction rs with
  | nil => intro l hl _; exact hl
  | cons r rs ih =>
    intro l hl hr
    refine ih (layAt l r) (fun x hx => ?_) (fun r' hr' => hr r' (List.mem_cons_of_mem _ hr'))
    unfold layAt at hx
    rcases List.mem_append.1 hx with hx | hx
    · rcases List.mem_append.1 hx with hx | hx
      · exact hl x (List.mem_of_mem_take hx)
      · exact (hr r (List.mem_cons_self ..)).2 x hx
    · exact hl x (List.mem_of_mem_drop hx)
theorem rd_step {b : List Nat} {n a : Nat} {rs : List (Nat × List Nat)} (h : a + 8 ≤ b.length) (h2 : numAt 4 b (a + 4) ≤ b.length - a - 8) :
    rdRuns b (n + 1) a rs = rdRuns b n (a + 8 + numAt 4 b (a + 4)) (rs ++ [(numAt 4 b a, (b.drop (a + 8)).take (numAt 4 b (a + 4)))]) := by
  rw [rdRuns, if_pos ⟨h, h2⟩]
theorem rd_none {b : List Nat} {n a : Nat} {rs : List (Nat × List Nat)} (h : ¬ (a + 8 ≤ b.length ∧ numAt 4 b (a + 4) ≤ b.length - a - 8)) : rdRuns b (n + 1) a rs = none := by
  rw [rdRuns, if_neg h]
theorem TkL.fin {w W : World} {mb k r q g off : Nat} {m : Img} {cb : Nat} {b : List Nat} {f p : Nat} {base : List Nat} {delta mark n30 b28 b29 n32 n36 n40 : Nat} {ops : List Nat} {au : Option Addr} {cu A : Nat}
    (F : TkL w W mb k r q g off m cb b f p base delta mark n30 b28 b29 n32 n36 n40 ops au cu A) (hbas : ∀ x ∈ base, x < 256) {rs : List (Nat × List Nat)} (hr : ∀ r ∈ rs, r.1 < 4294967296 ∧ ∀ x ∈ r.2, x < 256) :
    (⟨b28, n32, n36, ops, mendN base rs, n40, b29⟩ : St).Small := by
  refine ⟨?_, ?_, ?_, ?_, mendN_lt rs base hbas hr, ?_, ?_⟩
  · show b28 < 256; rw [← F.e28]; exact F.hV.lt 28
  · show n32 < 4294967296; rw [← F.e32]; exact numAt_bd 4 b F.hV.2 32
  · show n36 < 4294967296; rw [← F.e36]; exact numAt_bd 4 b F.hV.2 36
  · show ∀ x ∈ ops, x < 4294967296
    rw [← F.eo]
    exact wordsN_lt _ (fun x hx => F.hV.2 x (List.mem_of_mem_drop (List.mem_of_mem_take hx)))
  · show n40 < 4294967296; rw [← F.e40]; exact numAt_bd 4 b F.hV.2 40
  · show b29 < 256; rw [← F.e29]; exact F.hV.lt 29
set_option maxRecDepth 100000 in
set_option maxHeartbeats 8000000 in
theorem taken_l {w W : World} {c : Code} (hc : tlO 12 Tryz.f63.body = some c) {mb k r q g off : Nat} {m : Img} {cb : Nat} {b : List Nat} {f p : Nat} {base : List Nat} {delta mark n30 b28 b29 n32 n36 n40 : Nat} {ops : List Nat} {au : Option Addr} {cu A : Nat}
    {x2 x3 x4 x7 x8 x9 x11 x12 x15 x16 x17 x18 x19 x20 x21 x22 x23 x24 x25 x26 x27 x28 x29 x30 x31 x32 x33 x34 x35 x36 x37 x38 x39 x40 x41 x42 x43 x44 x45 x46 x47 x48 x49 x50 x51 x52 x53 x54 x55 x56 x57 x58 x59 x60 x61 x62 x63 x64 x65 x66 x67 x68 x69 x70 x71 x72 x73 x74 x75 x76 x77 x78 x79 x80 x81 x82 x83 x84 x85 x86 x87 x88 x89 x90 x91 x92 x93 x94 x95 x96 x97 x98 x99 x100 x101 x102 x103 x104 x105 x106 x107 x108 x109 x110 x111 x112 x113 x114 x115 x116 x117 x118 x119 x120 x121 x122 x123 x124 x125 x126 x127 x128 x129 x130 x131 x132 x133 x134 x135 x136 x137 x138 x139 x140 x141 x142 x143 x144 x145 x146 x147 x148 x149 x150 x151 x152 x153 x154 x155 x156 x157 x158 x159 x160 x161 x162 x163 x164 x165 x166 x167 x168 x169 : Value}
    (F : TkL w W mb k r q g off m cb b f p base delta mark n30 b28 b29 n32 n36 n40 ops au cu A) (hbas : ∀ x ∈ base, x < 256) :
    Code.wp Tryz.prog c (bodyPost Tryz.prog Tryz.f63 (TakenPost (moOf m) b base delta mark w)) ⟨#[.pointer (some ⟨mb, 0, none⟩), .slice (some ⟨g, off, none⟩) b.length cb, x2, x3, x4, .pointer (some ⟨k, 0, none⟩), .pointer (some ⟨r, 0, none⟩), x7, x8, x9, .func (.func 101) #[] #[], x11, x12, .pointer (some ⟨q, 0, none⟩), .int .i64 A, x15, x16, x17, x18, x19, x20, x21, x22, x23, x24, x25, x26, x27, x28, x29, x30, x31, x32, x33, x34, x35, x36, x37, x38, x39, x40, x41, x42, x43, x44, x45, x46, x47, x48, x49, x50, x51, x52, x53, x54, x55, x56, x57, x58, x59, x60, x61, x62, x63, x64, x65, x66, x67, x68, x69, x70, x71, x72, x73, x74, x75, x76, x77, x78, x79, x80, x81, x82, x83, x84, x85, x86, x87, x88, x89, x90, x91, x92, x93, x94, x95, x96, x97, x98, x99, x100, x101, x102, x103, x104, x105, x106, x107, x108, x109, x110, x111, x112, x113, x114, x115, x116, x117, x118, x119, x120, x121, x122, x123, x124, x125, x126, x127, x128, x129, x130, x131, x132, x133, x134, x135, x136, x137, x138, x139, x140, x141, x142, x143, x144, x145, x146, x147, x148, x149, x150, x151, x152, x153, x154, x155, x156, x157, x158, x159, x160, x161, x162, x163, x164, x165, x166, x167, x168, x169], []⟩ W := by
  refine wp_tl hc rfl ?_
  obtain ⟨i383, hi383, hi3830, hi3831, hi3832⟩ := info_parts inf383
  have hb383 := run_build383
  have hbs := bs160_1
  have hcb : b.length ≤ cb ∧ cb ≤ maxLen := by
    obtain ⟨a, c, e, h1, h2, -⟩ := F.hV.opened
    cases e
    exact ⟨h1, h2⟩
  have hcb1 := hcb.1
  have hbn := F.hn
  have HVW := Lib.hid (F.hV.below F.hb)
  have HCm := Lib.hid hcb.2
  have HYes := Lib.hid (fun (p e : Int) (W : World) => ask_yes p e W)
  have HNo := Lib.hid (fun (p e : Int) (W : World) => ask_no p e W)
  have HW44 := Lib.hid (word32_any _ b 44 (by have := F.hl48; omega) W (F.hV.below F.hb))
  rw [show (((44 : Nat)) : Int) = 44 from rfl] at HW44
  have HF := Lib.hid F
  have HBas := Lib.hid hbas
  have hn5 : ¬ b.length < 48 + 4 * n30 := by have := F.h5; have := F.hA; omega
  have HE6 := Lib.hid (fun h6 => read_e6 (m := moOf m) (b := b) (base := base) (delta := delta) (mark := mark) F.h1 F.h2 F.h3 F.h4 (by rw [F.e30]; exact hn5) h6)
  rw [F.e30, ← F.hA] at HE6
  have h5 := F.h5
  obtain ⟨n44, h44⟩ : ∃ x, x = numAt 4 b 44 := ⟨_, rfl⟩
  have h44b : n44 < 4294967296 := by rw [h44]; exact numAt_bd 4 b F.hV.2 44
  rw [← h44] at HE6 HW44
  have H44 := Lib.hid h44
  obtain ⟨RR, hRR⟩ : ∃ RR, RR = rdRuns b n44 A [] := ⟨_, rfl⟩
  rw [← hRR] at HE6
  have HRR := Lib.hid hRR
  clear F hbas hcb hn5 hRR h44
  go_wp2_with fail
  refine HW44.out.mono ?_
  rintro e w1 ⟨rfl, rfl⟩
  go_wp2_with fail
  go_loopw [14, 15, 90] (fun at_ v i wr => ∃ (kk A' : Nat) (rs : List (Nat × List Nat)) (us : List Value), at_ = .int .i64 A' ∧ i = .int .u32 kk ∧ kk ≤ n44 ∧ A' ≤ b.length ∧ rdRuns b (n44 - kk) A' rs = RR ∧ rs.length ≤ kk ∧ RunsOwn wr W.heap.size v rs us ∧ (∀ r ∈ rs, r.1 < 4294967296 ∧ ∀ x ∈ r.2, x < 256) ∧ Below W.heap.size W wr) (fun _ _ i _ => n44 - (intOf i).toNat)
  case atStart => exact ⟨0, A, [], [], rfl, rfl, Nat.zero_le _, h5, by rw [Nat.sub_zero]; exact HRR.out.symm, Nat.le_refl _, ⟨World.ownsRow_nil _ _ _ _, rfl, fun k u h => by simp at h⟩, (fun r hr => by cases hr), Below.refl _ _⟩
  case round =>
    obtain ⟨kk, A', rs, us, rfl, rfl, hk1, hA1, hrd, hrl, ho, hlt, hb⟩ := hrel
    obtain ⟨W1, hW1⟩ : ∃ W1 : World, W1 = wr := ⟨_, rfl⟩
    rw [← hW1] at ho hb ⊢
    clear hW1
    have HO := Lib.hid ho
    have HB := Lib.hid hb
    have HRD := Lib.hid hrd
    have HLT := Lib.hid hlt
    clear ho hb hrd hlt h5
    by_cases hkn : kk < n44
    · have hki : (kk : Int) < (n44 : Int) := by omega
      have hw8 : IntKind.i64.wrap ((A' : Int) + 8) = (A' : Int) + 8 := IntWalk.i64_in _ (by omega)
      have hw4 : IntKind.i64.wrap ((A' : Int) + 4) = (A' : Int) + 4 := IntWalk.i64_in _ (by omega)
      have hwy : ∀ y : Nat, y < 4294967296 → IntKind.i64.wrap (y : Int) = (y : Int) := fun y hy => by rw [IntWalk.i64_in _ (by omega)]
      have hBW := HB.out
      have HV1 := Lib.hid (HVW.out.below hBW)
      have HBw := Lib.hid (show Below w.heap.size w W1 from Bel.tr HF.out.hb hBW)
      clear hBW
      by_cases c1 : A' + 8 ≤ b.length
      · have hc1 : (A' : Int) + 8 ≤ (b.length : Int) := by omega
        have HX := Lib.hid (fun W' (hW : Below W.heap.size W W') => word32_any _ b A' (by omega) W' (HVW.out.below hW))
        have HY := Lib.hid (word32_any _ b (A' + 4) (by omega) W1 HV1.out)
        rw [Int.natCast_add, show ((4 : Nat) : Int) = 4 from rfl] at HY
        have HRS := Lib.hid (fun h2 => rd_step (b := b) (n := n44 - (kk + 1)) (rs := rs) c1 h2)
        have HRN := Lib.hid (fun h2 => rd_none (b := b) (n := n44 - (kk + 1)) (rs := rs) (a := A') h2)
        rw [show n44 - (kk + 1) + 1 = n44 - kk from by omega, HRD.out] at HRS HRN
        have hxb : numAt 4 b A' < 4294967296 := numAt_bd 4 b HV1.out.2 A'
        have hyb : numAt 4 b (A' + 4) < 4294967296 := numAt_bd 4 b HV1.out.2 (A' + 4)
        generalize numAt 4 b A' = X at *
        generalize numAt 4 b (A' + 4) = Y at *
        have hwY := hwy Y hyb
        clear hwy
        have hws1 : IntKind.i64.wrap ((b.length : Int) - (A' : Int)) = (b.length : Int) - (A' : Int) := IntWalk.i64_in _ (by omega)
        have hws2 : IntKind.i64.wrap ((b.length : Int) - (A' : Int) - 8) = (b.length : Int) - (A' : Int) - 8 := IntWalk.i64_in _ (by omega)
        by_cases c2 : Y ≤ b.length - A' - 8
        · have hc2 : (Y : Int) ≤ (b.length : Int) - (A' : Int) - 8 := by omega
          have HC := Lib.hid (fun W' (hW : Below W.heap.size W W') (o' c' : Nat) (h : (o' = off + (A' + 8) ∧ c' = cb - (A' + 8)) ∨ (o' = off ∧ c' = 0 ∧ Y = 0)) =>
            cloneC_any (.slice (some ⟨g, o', none⟩) Y c') Y (encN .u8 ((b.drop (A' + 8)).take Y)) (by omega) (encN_one .u8 _) W' (by
              rcases h with ⟨rfl, rfl⟩ | ⟨rfl, rfl, rfl⟩
              · have := (bytes_part (HVW.out.below hW) (A' + 8) Y (by omega)).1
                rw [List.length_take, List.length_drop, show min Y (b.length - (A' + 8)) = Y from by omega] at this
                exact this
              · exact ⟨_, _, rfl, by simp [encN], Nat.le_refl _, by unfold maxLen; omega, (fun h => by cases h), fun h => by simp [encN] at h⟩))
          have HRS2 := Lib.hid (HRS.out c2)
          have HBl := Lib.hid (show ((b.drop (A' + 8)).take Y).length = Y by rw [List.length_take, List.length_drop]; omega)
          have HBx := Lib.hid (show ∀ x ∈ (b.drop (A' + 8)).take Y, x < 256 from fun x hx => HV1.out.2 x (List.mem_of_mem_drop (List.mem_of_mem_take hx)))
          clear HRS HRN
          generalize (b.drop (A' + 8)).take Y = BB at *
          by_cases hx : cb = A' + 8
          · have HY0 := Lib.hid (show Y = 0 by omega)
            subst hx
            go_wp2_with fail
            with_reducible refine (HYes.out _ _ _).mono ?_
            rintro e w2 ⟨rfl, rfl⟩
            go_wp2_with fail
            with_reducible refine HY.out.mono ?_
            rintro e w2 ⟨rfl, rfl⟩
            go_wp2_with fail
            with_reducible refine (HYes.out _ _ _).mono ?_
            rintro e w2 ⟨rfl, rfl⟩
            go_wp2_with fail
            clear hc1 hc2 hws1 hws2 hw4 hw8
            have hb63 : rs.length + 1 ≤ maxLen := by unfold maxLen; omega
            have hb47 : (rs.length + 1) * 32 ≤ 140737488355328 := by omega
            have hsA : A' + 8 ≤ A' + 8 := by omega
            have hw9 : IntKind.i64.wrap ((A' : Int) + 8 + (Y : Int)) = (A' : Int) + 8 + (Y : Int) := IntWalk.i64_in _ (by omega)
            have hw10 : IntKind.i64.wrap (8 + (Y : Int)) = 8 + (Y : Int) := IntWalk.i64_in _ (by omega)
            have hw11 : IntKind.i64.wrap ((A' : Int) + (8 + (Y : Int))) = (A' : Int) + (8 + (Y : Int)) := IntWalk.i64_in _ (by omega)
            have hw12 : IntKind.u32.wrap ((kk : Int) + 1) = (kk : Int) + 1 := by rw [IntKind.wrap_u32]; omega
            have hs1 : (0 : Int) ≤ (A' : Int) + 8 := by omega
            have hs2 : (A' : Int) + 8 ≤ (A' : Int) + 8 + (Y : Int) := by omega
            have hs3 : (A' : Int) + 8 + (Y : Int) ≤ (A' : Int) + 8 := by omega
            have hT1 : ((A' : Int) + 8).toNat = A' + 8 := by omega
            have hT2 : ((A' : Int) + 8 + (Y : Int)).toNat = A' + 8 + Y := by omega
            have hw8 : IntKind.i64.wrap ((A' : Int) + 8) = (A' : Int) + 8 := IntWalk.i64_in _ (by omega)
            have H00 := Lib.hid (show Below W.heap.size W W1.drew from HB.out.drew)
            have H01 := Lib.hid (show Below W1.heap.size W1 W1.drew from (Below.refl _ _).drew)
            have HHC := Lib.hid (fun W' hW => HC.out W' hW off 0 (.inr ⟨rfl, rfl, HY0.out⟩))
            have HOr := Lib.hid (fun (W' : World) (hW : Below W1.heap.size W1 W') => own_base (HO.out.below hW).row)
            have HKa := Lib.hid (fun (W' W'' : World) (v' : Value) (hg : Grew W' W'' u15 v') (h : Below W.heap.size W W') => (h.grown hg.1 h.size (fun g e => (HO.out.row.lt g e).1) : Below W.heap.size W W''))
            clear HC HY
            go_region_held3 (fun w' => Below W.heap.size W w')
              (first | assumption | exact H00.out | exact HKa.out _ _ _ hg3 (by assumption) | exact Bel.tr (by assumption) hbC | exact Bel.al (by assumption) _)
              (first
                | (go_at_call 103; with_reducible refine (HX.out _ ?_).mono ?_; exact (by assumption : Below W.heap.size W _); rintro e wX ⟨rfl, rfl⟩)
                | (go_at_call 99; with_reducible refine (HHC.out _ ?_).mono ?_; exact (by assumption : Below W.heap.size W _); rintro e wC ⟨vC, rfl, hoC, hbC⟩; obtain ⟨aC, cC, rfl, -⟩ := own_sl hoC)
                | (refine step_append_grew rfl (.tmp 113) (.tmp 127) 164 rfl 170 i383 (.agg #[.int .u32 0, .slice none 0 0]) 2 32 Tryz.underlying164 hi383 hi3830 hi3831 hi3832 rfl (by decide) _ _ _ rfl (HOr.out _ (Bel.al (Bel.tr H01.out hbC) _)) ⟨_, 0, none⟩ 1 1 [_, _] rfl rfl (news_new _ #[_, _] 170) ?_ ?_ ?_ ?_; exact (by simp [Value.oneCell']); exact hb63; exact hb47; intro v3 w3 hr3 hg3 hn3))
            have HRo := Lib.hid (RunsOwn.snoc (r := (X, BB)) (HO.out.below (Bel.al (Bel.tr H01.out hbC) _)) (by
                show World.ownsRow _ _ _ _ _ BB.length (encN .u8 BB)
                rw [HBl.out]
                exact own_downT (own_below hoC (Bel.new _ _)) (show W.heap.size ≤ W1.heap.size from HB.out.size)) hg3
              (own_from hr3 (fun g' e => by
                rcases hg3.2 g' e with h' | h'
                · exact (HO.out.row.lt g' h').1
                · exact Nat.le_trans (Bel.al (Bel.tr H00.out hbC) _).size h')))
            have HB3 := Lib.hid (by assumption : Below W.heap.size W w3)
            clear hr3 hg3 hn3 hoC hbC
            go_wp2_with fail
            go_roundw
            case rel => exact ⟨kk + 1, A' + (8 + Y), rs ++ [(X, BB)], us ++ [_], by go_num, by go_num, by omega, by omega, by rw [HRS2.out, Nat.add_assoc], by simp; omega, HRo.out, (fun r' hr' => by
              rcases List.mem_append.1 hr' with h | h
              · exact HLT.out r' h
              · rw [List.mem_singleton.1 h]; exact ⟨hxb, HBx.out⟩), HB3.out⟩
            case measure => simp [intOf]; omega
          · go_wp2_with fail
            with_reducible refine (HYes.out _ _ _).mono ?_
            rintro e w2 ⟨rfl, rfl⟩
            go_wp2_with fail
            with_reducible refine HY.out.mono ?_
            rintro e w2 ⟨rfl, rfl⟩
            go_wp2_with fail
            with_reducible refine (HYes.out _ _ _).mono ?_
            rintro e w2 ⟨rfl, rfl⟩
            go_wp2_with fail
            clear hc1 hc2 hws1 hws2 hw4 hw8
            have hb63 : rs.length + 1 ≤ maxLen := by unfold maxLen; omega
            have hb47 : (rs.length + 1) * 32 ≤ 140737488355328 := by omega
            have hsA : A' + 8 ≤ cb := by omega
            have hw9 : IntKind.i64.wrap ((A' : Int) + 8 + (Y : Int)) = (A' : Int) + 8 + (Y : Int) := IntWalk.i64_in _ (by omega)
            have hw10 : IntKind.i64.wrap (8 + (Y : Int)) = 8 + (Y : Int) := IntWalk.i64_in _ (by omega)
            have hw11 : IntKind.i64.wrap ((A' : Int) + (8 + (Y : Int))) = (A' : Int) + (8 + (Y : Int)) := IntWalk.i64_in _ (by omega)
            have hw12 : IntKind.u32.wrap ((kk : Int) + 1) = (kk : Int) + 1 := by rw [IntKind.wrap_u32]; omega
            have hs1 : (0 : Int) ≤ (A' : Int) + 8 := by omega
            have hs2 : (A' : Int) + 8 ≤ (A' : Int) + 8 + (Y : Int) := by omega
            have hs3 : (A' : Int) + 8 + (Y : Int) ≤ (cb : Int) := by omega
            have hT1 : ((A' : Int) + 8).toNat = A' + 8 := by omega
            have hT2 : ((A' : Int) + 8 + (Y : Int)).toNat = A' + 8 + Y := by omega
            have hw8 : IntKind.i64.wrap ((A' : Int) + 8) = (A' : Int) + 8 := IntWalk.i64_in _ (by omega)
            have H00 := Lib.hid (show Below W.heap.size W W1.drew from HB.out.drew)
            have H01 := Lib.hid (show Below W1.heap.size W1 W1.drew from (Below.refl _ _).drew)
            have HHC := Lib.hid (fun W' hW => HC.out W' hW (off + (A' + 8)) (cb - (A' + 8)) (.inl ⟨rfl, rfl⟩))
            have HOr := Lib.hid (fun (W' : World) (hW : Below W1.heap.size W1 W') => own_base (HO.out.below hW).row)
            have HKa := Lib.hid (fun (W' W'' : World) (v' : Value) (hg : Grew W' W'' u15 v') (h : Below W.heap.size W W') => (h.grown hg.1 h.size (fun g e => (HO.out.row.lt g e).1) : Below W.heap.size W W''))
            clear HC HY
            go_region_held3 (fun w' => Below W.heap.size W w')
              (first | assumption | exact H00.out | exact HKa.out _ _ _ hg3 (by assumption) | exact Bel.tr (by assumption) hbC | exact Bel.al (by assumption) _)
              (first
                | (go_at_call 103; with_reducible refine (HX.out _ ?_).mono ?_; exact (by assumption : Below W.heap.size W _); rintro e wX ⟨rfl, rfl⟩)
                | (go_at_call 99; with_reducible refine (HHC.out _ ?_).mono ?_; exact (by assumption : Below W.heap.size W _); rintro e wC ⟨vC, rfl, hoC, hbC⟩; obtain ⟨aC, cC, rfl, -⟩ := own_sl hoC)
                | (refine step_append_grew rfl (.tmp 113) (.tmp 127) 164 rfl 170 i383 (.agg #[.int .u32 0, .slice none 0 0]) 2 32 Tryz.underlying164 hi383 hi3830 hi3831 hi3832 rfl (by decide) _ _ _ rfl (HOr.out _ (Bel.al (Bel.tr H01.out hbC) _)) ⟨_, 0, none⟩ 1 1 [_, _] rfl rfl (news_new _ #[_, _] 170) ?_ ?_ ?_ ?_; exact (by simp [Value.oneCell']); exact hb63; exact hb47; intro v3 w3 hr3 hg3 hn3))
            have HRo := Lib.hid (RunsOwn.snoc (r := (X, BB)) (HO.out.below (Bel.al (Bel.tr H01.out hbC) _)) (by
                show World.ownsRow _ _ _ _ _ BB.length (encN .u8 BB)
                rw [HBl.out]
                exact own_downT (own_below hoC (Bel.new _ _)) (show W.heap.size ≤ W1.heap.size from HB.out.size)) hg3
              (own_from hr3 (fun g' e => by
                rcases hg3.2 g' e with h' | h'
                · exact (HO.out.row.lt g' h').1
                · exact Nat.le_trans (Bel.al (Bel.tr H00.out hbC) _).size h')))
            have HB3 := Lib.hid (by assumption : Below W.heap.size W w3)
            clear hr3 hg3 hn3 hoC hbC
            go_wp2_with fail
            go_roundw
            case rel => exact ⟨kk + 1, A' + (8 + Y), rs ++ [(X, BB)], us ++ [_], by go_num, by go_num, by omega, by omega, by rw [HRS2.out, Nat.add_assoc], by simp; omega, HRo.out, (fun r' hr' => by
              rcases List.mem_append.1 hr' with h | h
              · exact HLT.out r' h
              · rw [List.mem_singleton.1 h]; exact ⟨hxb, HBx.out⟩), HB3.out⟩
            case measure => simp [intOf]; omega
        · have hc2 : ¬ (Y : Int) ≤ (b.length : Int) - (A' : Int) - 8 := by omega
          have HE := Lib.hid (HE6.out (HRN.out (fun h => c2 h.2)))
          go_wp2_with fail
          with_reducible refine (HYes.out _ _ _).mono ?_
          rintro e w2 ⟨rfl, rfl⟩
          go_wp2_with fail
          with_reducible refine HY.out.mono ?_
          rintro e w2 ⟨rfl, rfl⟩
          go_wp2_with fail
          rw [show decide ((Y : Int) ≤ (b.length : Int) - (A' : Int) - 8) = false from decide_eq_false (by omega)]
          with_reducible refine (HNo.out _ _ _).mono ?_
          rintro e w2 ⟨rfl, rfl⟩
          exact ⟨rfl, TakenPost.bad HBw.out HE.out⟩
      · have hc1 : ¬ (A' : Int) + 8 ≤ (b.length : Int) := by omega
        clear hwy
        have HE := Lib.hid (HE6.out (by
          have := rd_none (b := b) (n := n44 - (kk + 1)) (rs := rs) (a := A') (fun h => c1 h.1)
          rw [show n44 - (kk + 1) + 1 = n44 - kk from by omega, HRD.out] at this
          exact this))
        go_wp2_with fail
        with_reducible refine (HNo.out _ _ _).mono ?_
        rintro e w2 ⟨rfl, rfl⟩
        exact ⟨rfl, TakenPost.bad HBw.out HE.out⟩
    · obtain rfl : kk = n44 := by omega
      have hge : ¬ (kk : Int) < (kk : Int) := by omega
      rw [Nat.sub_self] at HRD
      have HS := Lib.hid (show rdRuns b (numAt 4 b 44) A [] = some rs from by rw [← H44.out, ← HRR.out]; exact HRD.out.symm)
      have F := HF.out
      have hn5 : ¬ b.length < 48 + 4 * numAt 2 b 30 := by have := F.h5; have := F.hA; rw [F.e30]; omega
      have HS' : rdRuns b (numAt 4 b 44) (48 + 4 * numAt 2 b 30) [] = some rs := by rw [F.e30, ← F.hA]; exact HS.out
      have hst : stOf b base rs = ⟨b28, n32, n36, ops, mendN base rs, n40, b29⟩ := by
        unfold stOf; rw [F.e28, F.e29, F.e32, F.e36, F.e40, F.e30, F.eo]
      have H7 := read_e7 (m := moOf m) (b := b) (base := base) (delta := delta) (mark := mark) F.h1 F.h2 F.h3 F.h4 hn5 HS'
      have H8 := fun h7 => read_e8 (m := moOf m) (b := b) (base := base) (delta := delta) (mark := mark) F.h1 F.h2 F.h3 F.h4 hn5 HS' h7
      have H9 := fun h7 => read_e9 (m := moOf m) (b := b) (base := base) (delta := delta) (mark := mark) F.h1 F.h2 F.h3 F.h4 hn5 HS' h7
      rw [hst] at H8 H9
      obtain ⟨av, cv, rfl, -⟩ := own_sl HO.out.row
      have hBW := HB.out
      have J7 := Lib.hid H7
      have J8 := Lib.hid H8
      have J9 := Lib.hid H9
      have JB := Lib.hid (show Below w.heap.size w W1 from Bel.tr F.hb hBW)
      have JkW := Lib.hid (show k < W1.heap.size from Nat.lt_of_lt_of_le F.hkW hBW.size)
      have JqW := Lib.hid (show q < W1.heap.size from Nat.lt_of_lt_of_le F.hwq hBW.size)
      have JK := Lib.hid ((hBW.block k F.hkW).trans F.hK)
      have JR := Lib.hid ((hBW.block r (Nat.lt_trans F.hrq F.hwq)).trans F.hR)
      have JQ := Lib.hid ((hBW.block q F.hwq).trans F.hQ)
      have JU := Lib.hid (own_below F.hU hBW)
      have Jol := Lib.hid (show ops.length ≤ 65535 from by rw [F.ol]; have := numAt_bd 2 b F.hV.2 30; rw [F.e30] at this; omega)
      have JRs := Lib.hid (HO.out.at HLT.out)
      have JSm := Lib.hid (fun (_ : mendOk base.length 0 rs = true) => F.fin HBas.out HLT.out)
      clear H7 H8 H9 hst HS' hn5 hBW F
      iterate 16 go_step
      refine taken_b (s := ⟨b28, n32, n36, ops, mendN base rs, n40, b29⟩) ?_ JB.out HF.out.hM HF.out.hV HF.out.hBs HF.out.hbl HF.out.hdg HF.out.hdl HF.out.hmk HF.out.hwr HF.out.hrq HF.out.hkr HF.out.hkq JkW.out JqW.out JK.out JR.out JQ.out JU.out Jol.out JRs.out rfl JSm.out J7.out J8.out J9.out
      rfl
set_option maxRecDepth 100000 in
set_option maxHeartbeats 8000000 in
theorem taken_a {w W : World} {c : Code} (hc : tlO 9 Tryz.f63.body = some c) {mb k r q g off : Nat} {m : Img} {cb : Nat} {b : List Nat} {f p : Nat} {base : List Nat} {delta mark n30 b28 b29 n32 n36 n40 : Nat}
    {x2 x3 x4 x7 x8 x9 x12 x14 x15 x16 x17 x18 x19 x20 x21 x22 x23 x24 x25 x26 x27 x28 x29 x30 x31 x32 x33 x34 x35 x36 x37 x38 x39 x40 x41 x42 x43 x44 x45 x46 x47 x48 x49 x50 x51 x52 x53 x54 x55 x56 x57 x58 x59 x60 x61 x62 x63 x64 x65 x66 x67 x68 x69 x70 x71 x72 x73 x74 x75 x76 x77 x78 x79 x80 x81 x82 x83 x84 x85 x86 x87 x88 x89 x90 x91 x92 x93 x94 x95 x96 x97 x98 x99 x100 x101 x102 x103 x104 x105 x106 x107 x108 x109 x110 x111 x112 x113 x114 x115 x116 x117 x118 x119 x120 x121 x122 x123 x124 x125 x126 x127 x128 x129 x130 x131 x132 x133 x134 x135 x136 x137 x138 x139 x140 x141 x142 x143 x144 x145 x146 x147 x148 x149 x150 x151 x152 x153 x154 x155 x156 x157 x158 x159 x160 x161 x162 x163 x164 x165 x166 x167 x168 x169 : Value}
    (hb : Below w.heap.size w W) (hM : MAt w mb m) (hV : Bytes w (.slice (some ⟨g, off, none⟩) b.length cb) b) (hBs : BaseAt w f p base) (hbl : base.length = 2 ^ bitsI m) (hbas : ∀ x ∈ base, x < 256) (hl48 : 48 ≤ b.length) (hn : b.length ≤ 140737488351232)
    (hdg : (moOf m).dig = digN m) (hdl : delta < 4294967296) (hmk : mark < 4294967296)
    (hwr : w.heap.size ≤ r) (hrq : r < q) (hkr : k ≠ r) (hkq : k ≠ q) (hkW : k < W.heap.size) (hwq : q < W.heap.size)
    (hK : W.heap[k]? = some (.cells #[.int .u32 delta, .int .u32 mark, .func (.func f) #[] #[.pointer (some ⟨p, 0, none⟩)]] 79 (0, 0)))
    (hR : W.heap[r]? = some (.cells zst 32 (0, 0)))
    (hQ : W.heap[q]? = some (.cells #[.int .u8 b28, .int .u32 n32, .int .u32 n36, .slice none 0 0, .slice none 0 0, .int .u32 n40, .int .u8 b29] 32 (0, 0)))
    (e28 : b.getD 28 0 = b28) (e29 : b.getD 29 0 = b29) (e32 : numAt 4 b 32 = n32) (e36 : numAt 4 b 36 = n36) (e40 : numAt 4 b 40 = n40) (e30 : numAt 2 b 30 = n30)
    (h1 : (lookN b).2 = 0) (h2 : numAt 8 b 8 = (moOf m).dig) (h3 : numAt 4 b 16 = 1 ↔ delta = 1) (h4 : numAt 4 b 20 = mark) :
    Code.wp Tryz.prog c (bodyPost Tryz.prog Tryz.f63 (TakenPost (moOf m) b base delta mark w)) ⟨#[.pointer (some ⟨mb, 0, none⟩), .slice (some ⟨g, off, none⟩) b.length cb, x2, x3, x4, .pointer (some ⟨k, 0, none⟩), .pointer (some ⟨r, 0, none⟩), x7, x8, x9, .func (.func 101) #[] #[], .int .u16 n30, x12, .pointer (some ⟨q, 0, none⟩), x14, x15, x16, x17, x18, x19, x20, x21, x22, x23, x24, x25, x26, x27, x28, x29, x30, x31, x32, x33, x34, x35, x36, x37, x38, x39, x40, x41, x42, x43, x44, x45, x46, x47, x48, x49, x50, x51, x52, x53, x54, x55, x56, x57, x58, x59, x60, x61, x62, x63, x64, x65, x66, x67, x68, x69, x70, x71, x72, x73, x74, x75, x76, x77, x78, x79, x80, x81, x82, x83, x84, x85, x86, x87, x88, x89, x90, x91, x92, x93, x94, x95, x96, x97, x98, x99, x100, x101, x102, x103, x104, x105, x106, x107, x108, x109, x110, x111, x112, x113, x114, x115, x116, x117, x118, x119, x120, x121, x122, x123, x124, x125, x126, x127, x128, x129, x130, x131, x132, x133, x134, x135, x136, x137, x138, x139, x140, x141, x142, x143, x144, x145, x146, x147, x148, x149, x150, x151, x152, x153, x154, x155, x156, x157, x158, x159, x160, x161, x162, x163, x164, x165, x166, x167, x168, x169], []⟩ W := by
  refine wp_tl hc rfl ?_
  have hn30 : n30 < 65536 := by rw [← e30]; exact numAt_bd 2 b hV.2 30
  have hcb : b.length ≤ cb ∧ cb ≤ maxLen := by
    obtain ⟨a, c, e, h1, h2, -⟩ := hV.opened
    cases e
    exact ⟨h1, h2⟩
  have hcb1 := hcb.1
  have HYes := Lib.hid (fun (p e : Int) (W : World) => ask_yes p e W)
  have HNo := Lib.hid (fun (p e : Int) (W : World) => ask_no p e W)
  have HE5 := Lib.hid (fun h5 => read_e5 (m := moOf m) (b := b) (base := base) (delta := delta) (mark := mark) h1 h2 h3 h4 h5)
  rw [e30] at HE5
  have HB := Lib.hid hb
  have HV := Lib.hid (hV.below hb)
  have HBas := Lib.hid hbas
  obtain ⟨A, hA⟩ : ∃ A, A = 48 + 4 * n30 := ⟨_, rfl⟩
  have HA := Lib.hid hA
  obtain ⟨⟨q0, q1, q2, q3, q4, q5, q6⟩, qf⟩ := cells51 hQ
  have HQ := Lib.hid hQ
  have HF := Lib.hid (fun (W2 : World) (ops : List Nat) (au : Option Addr) (cu : Nat) (h5 : A ≤ b.length) (hb2 : Below w.heap.size w W2) (hK2 : W2.heap[k]? = W.heap[k]?) (hR2 : W2.heap[r]? = W.heap[r]?) (hs : W.heap.size ≤ W2.heap.size)
    (hQ2 : W2.heap[q]? = some (.cells #[.int .u8 b28, .int .u32 n32, .int .u32 n36, .slice au ops.length cu, .slice none 0 0, .int .u32 n40, .int .u8 b29] 32 (0, 0))) (hU : W2.ownsRow (q + 1) 25 1 (.slice au ops.length cu) ops.length (encN .u32 ops))
    (eo : wordsN ((b.drop 48).take (4 * n30)) = ops) (ol : ops.length = n30) =>
    (⟨hb2, hM, hV, hBs, hbl, hl48, hn, hdg, hdl, hmk, hwr, hrq, hkr, hkq, Nat.lt_of_lt_of_le hkW hs, Nat.lt_of_lt_of_le hwq hs, hK2.trans hK, hR2.trans hR, hQ2, hU, e28, e29, e32, e36, e40, e30, eo, ol, h1, h2, h3, h4, hA, h5⟩ : TkL w W2 mb k r q g off m cb b f p base delta mark n30 b28 b29 n32 n36 n40 ops au cu A))
  have HkW := Lib.hid hkW
  have Hkq := Lib.hid hkq
  have Hrq := Lib.hid hrq
  clear hb hQ hK hR hbl hdg hM hV hBs hcb e28 e29 e32 e36 e40 e30 h1 h2 h3 h4 hkW hkq hkr hdl hmk hbas
  have hw1 : IntKind.i64.wrap (n30 : Int) = (n30 : Int) := by rw [IntWalk.i64_in _ (by omega)]
  have hw2 : IntKind.i64.wrap (4 * (n30 : Int)) = 4 * (n30 : Int) := by rw [IntWalk.i64_in _ (by omega)]
  have hw3 : IntKind.i64.wrap (48 + 4 * (n30 : Int)) = (A : Int) := by rw [IntWalk.i64_in _ (by omega)]; omega
  by_cases h5 : A ≤ b.length
  · have hA1 : (A : Int) ≤ (b.length : Int) := by omega
    have hA2 : (48 : Int) ≤ (A : Int) := by omega
    have hA3 : (A : Int) ≤ (cb : Int) := by omega
    have hA4 : (0 : Int) ≤ (A : Int) := by omega
    have hA5 : 48 ≤ A := by omega
    obtain ⟨ops, ho⟩ : ∃ ops, ops = wordsN ((b.drop 48).take (4 * n30)) := ⟨_, rfl⟩
    have hol : ops.length = n30 := by rw [ho]; exact wordsN_length n30 _ (by rw [List.length_take, List.length_drop]; omega)
    have HO := Lib.hid ho.symm
    have HOl := Lib.hid hol
    have HAll := Lib.hid (fun (o' c' : Nat) (h : (o' = off + 48 ∧ c' = cb - 48) ∨ (o' = off ∧ c' = 0 ∧ cb = 48)) => (all32_any (b := (b.drop 48).take (4 * n30)) (v := .slice (some ⟨g, o', none⟩) (A - 48) c') (w := W) (by
      rw [show A - 48 = 4 * n30 from by omega]
      rcases h with ⟨rfl, rfl⟩ | ⟨rfl, rfl, h⟩
      · exact bytes_part HV.out 48 (4 * n30) (by omega)
      · have e : n30 = 0 := by omega
        rw [e]
        exact ⟨⟨_, _, rfl, by simp [encN], Nat.le_refl _, by unfold maxLen; omega, (fun h => by cases h), fun h => by simp [encN] at h⟩, fun x hx => by simp at hx⟩) n30 (by rw [List.length_take, List.length_drop]; omega) (by omega)))
    rw [← ho] at HAll
    clear hA ho hol
    go_wp2_with fail
    with_reducible refine (HYes.out _ _ _).mono ?_
    rintro e w1 ⟨rfl, rfl⟩
    go_wp2_with fail
    all_goals first | with_reducible refine (HAll.out _ _ (.inl ⟨rfl, rfl⟩)).mono ?_ | with_reducible refine (HAll.out _ _ (.inr ⟨rfl, rfl, by omega⟩)).mono ?_
    all_goals
      try (have h9 : cb = 48 := by omega
           subst h9)
      rintro e w5 ⟨u, rfl, hou, hb5⟩
      rw [← HOl.out] at hou
      obtain ⟨au, cu, rfl, -⟩ := own_sl hou
      have hQ5 := (hb5.block q hwq).trans HQ.out
      have hs5 := hb5.size
      have hG := HF.out (w5.setCell ⟨q, 3, none⟩ (.slice au ops.length cu)) ops au cu h5 ((Bel.tr HB.out hb5).setCell (p := ⟨q, 3, none⟩) (by show w.heap.size ≤ q; omega) _)
        ((Below.heap_setCell _ _ _ _ Hkq.out).trans (hb5.block k HkW.out)) ((Below.heap_setCell _ _ _ _ (show r ≠ q by omega)).trans (hb5.block r (by omega))) (by show W.heap.size ≤ _; simpa [World.setCell] using hs5)
        (heap_setCell_same w5 q 3 _ _ _ hQ5) (ownsRow_setCell_below (own_downT hou hwq) (Nat.lt_succ_self q) _) HO.out HOl.out
      have HG := Lib.hid hG
      clear q0 q1 q2 q3 q4 q5 q6 qf hG
      obtain ⟨⟨q0, q1, q2, q3, q4, q5, q6⟩, qf⟩ := cells51 hQ5
      clear hQ5 hou hb5
      dsimp only
      iterate 19 (try go_step)
      refine taken_l ?_ HG.out HBas.out
      rfl
  · have hA1 : ¬ (A : Int) ≤ (b.length : Int) := by omega
    have HE := Lib.hid (HE5.out (by omega))
    clear hA
    go_wp2_with fail
    with_reducible refine (HNo.out _ _ _).mono ?_
    rintro e w1 ⟨rfl, rfl⟩
    exact ⟨rfl, TakenPost.bad HB.out HE.out⟩
structure TkA (w W : World) (mb k r q g off : Nat) (m : Img) (cb : Nat) (b : List Nat) (f p : Nat) (base : List Nat) (delta mark n30 b28 b29 n32 n36 n40 : Nat) : Prop where
  hb : Below w.heap.size w W
  hM : MAt w mb m
  hV : Bytes w (.slice (some ⟨g, off, none⟩) b.length cb) b
  hBs : BaseAt w f p base
  hbl : base.length = 2 ^ bitsI m
  hbas : ∀ x ∈ base, x < 256
  hl48 : 48 ≤ b.length
  hn : b.length ≤ 140737488351232
  hdg : (moOf m).dig = digN m
  hdl : delta < 4294967296
  hmk : mark < 4294967296
  hwr : w.heap.size ≤ r
  hrq : r < q
  hkr : k ≠ r
  hkq : k ≠ q
  hkW : k < W.heap.size
  hwq : q < W.heap.size
  hK : W.heap[k]? = some (.cells #[.int .u32 delta, .int .u32 mark, .func (.func f) #[] #[.pointer (some ⟨p, 0, none⟩)]] 79 (0, 0))
  hR : W.heap[r]? = some (.cells zst 32 (0, 0))
  hQ : W.heap[q]? = some (.cells #[.int .u8 b28, .int .u32 n32, .int .u32 n36, .slice none 0 0, .slice none 0 0, .int .u32 n40, .int .u8 b29] 32 (0, 0))
  e28 : b.getD 28 0 = b28
  e29 : b.getD 29 0 = b29
  e32 : numAt 4 b 32 = n32
  e36 : numAt 4 b 36 = n36
  e40 : numAt 4 b 40 = n40
  e30 : numAt 2 b 30 = n30
  h1 : (lookN b).2 = 0
  h2 : numAt 8 b 8 = (moOf m).dig
  h3 : numAt 4 b 16 = 1 ↔ delta = 1
  h4 : numAt 4 b 20 = mark
theorem taken_a2 {w W : World} {c : Code} (hc : tlO 9 Tryz.f63.body = some c) {mb k r q g off : Nat} {m : Img} {cb : Nat} {b : List Nat} {f p : Nat} {base : List Nat} {delta mark n30 b28 b29 n32 n36 n40 : Nat}
    {x2 x3 x4 x7 x8 x9 x12 x14 x15 x16 x17 x18 x19 x20 x21 x22 x23 x24 x25 x26 x27 x28 x29 x30 x31 x32 x33 x34 x35 x36 x37 x38 x39 x40 x41 x42 x43 x44 x45 x46 x47 x48 x49 x50 x51 x52 x53 x54 x55 x56 x57 x58 x59 x60 x61 x62 x63 x64 x65 x66 x67 x68 x69 x70 x71 x72 x73 x74 x75 x76 x77 x78 x79 x80 x81 x82 x83 x84 x85 x86 x87 x88 x89 x90 x91 x92 x93 x94 x95 x96 x97 x98 x99 x100 x101 x102 x103 x104 x105 x106 x107 x108 x109 x110 x111 x112 x113 x114 x115 x116 x117 x118 x119 x120 x121 x122 x123 x124 x125 x126 x127 x128 x129 x130 x131 x132 x133 x134 x135 x136 x137 x138 x139 x140 x141 x142 x143 x144 x145 x146 x147 x148 x149 x150 x151 x152 x153 x154 x155 x156 x157 x158 x159 x160 x161 x162 x163 x164 x165 x166 x167 x168 x169 : Value} (F : TkA w W mb k r q g off m cb b f p base delta mark n30 b28 b29 n32 n36 n40) :
    Code.wp Tryz.prog c (bodyPost Tryz.prog Tryz.f63 (TakenPost (moOf m) b base delta mark w)) ⟨#[.pointer (some ⟨mb, 0, none⟩), .slice (some ⟨g, off, none⟩) b.length cb, x2, x3, x4, .pointer (some ⟨k, 0, none⟩), .pointer (some ⟨r, 0, none⟩), x7, x8, x9, .func (.func 101) #[] #[], .int .u16 n30, x12, .pointer (some ⟨q, 0, none⟩), x14, x15, x16, x17, x18, x19, x20, x21, x22, x23, x24, x25, x26, x27, x28, x29, x30, x31, x32, x33, x34, x35, x36, x37, x38, x39, x40, x41, x42, x43, x44, x45, x46, x47, x48, x49, x50, x51, x52, x53, x54, x55, x56, x57, x58, x59, x60, x61, x62, x63, x64, x65, x66, x67, x68, x69, x70, x71, x72, x73, x74, x75, x76, x77, x78, x79, x80, x81, x82, x83, x84, x85, x86, x87, x88, x89, x90, x91, x92, x93, x94, x95, x96, x97, x98, x99, x100, x101, x102, x103, x104, x105, x106, x107, x108, x109, x110, x111, x112, x113, x114, x115, x116, x117, x118, x119, x120, x121, x122, x123, x124, x125, x126, x127, x128, x129, x130, x131, x132, x133, x134, x135, x136, x137, x138, x139, x140, x141, x142, x143, x144, x145, x146, x147, x148, x149, x150, x151, x152, x153, x154, x155, x156, x157, x158, x159, x160, x161, x162, x163, x164, x165, x166, x167, x168, x169], []⟩ W :=
  taken_a hc F.hb F.hM F.hV F.hBs F.hbl F.hbas F.hl48 F.hn F.hdg F.hdl F.hmk F.hwr F.hrq F.hkr F.hkq F.hkW F.hwq F.hK F.hR F.hQ F.e28 F.e29 F.e32 F.e36 F.e40 F.e30 F.h1 F.h2 F.h3 F.h4
end Go.Proofs.YtflpbgdghaaiaaaGreat
