import Derived.Test.YtdigcbkjlppenaaIsaWordRef
namespace Go.Proofs.Ytdigcbkjlppenaa
open Go.RowKit
/-- The operation of a word; 0: there is none. -/
def isW (s : ByteArray) (k : Nat) : Bool := wordOf k == s.toList
def byWord (s : ByteArray) : Nat := ((List.range' 1 59).find? (isW s)).getD 0
theorem byWord_none {s : ByteArray} (h : ∀ j, 1 ≤ j → j < 60 → isW s j = false) : byWord s = 0 := by
  have : (List.range' 1 59).find? (isW s) = none := List.find?_eq_none.2 (fun x hx => by
    rw [List.mem_range'_1] at hx; rw [h x hx.1 (by omega)]; simp)
  rw [byWord, this]; rfl
theorem find_first (p : Nat → Bool) : ∀ (n a k : Nat), a ≤ k → k < a + n → p k = true → (∀ j, a ≤ j → j < k → p j = false) → (List.range' a n).find? p = some k
  | 0, a, k, h1, h2, _, _ => by omega
  | n + 1, a, k, h1, h2, hp, hj => by
    rw [List.range'_succ, List.find?_cons]
    by_cases e : a = k
    · subst e; rw [hp]
    · rw [hj a (Nat.le_refl _) (by omega)]; exact find_first p n (a + 1) k (by omega) (by omega) hp (fun j h => hj j (by omega))
theorem byWord_some {s : ByteArray} {k : Nat} (h1 : 1 ≤ k) (h2 : k < 60) (hk : isW s k = true) (h : ∀ j, 1 ≤ j → j < k → isW s j = false) : byWord s = k := by
  rw [byWord, find_first (isW s) 59 1 k h1 (by omega) hk h]; rfl

set_option maxHeartbeats 400000 in
theorem refByWord_any (s : ByteArray) (w : World) :
    Calls Try.prog 20 #[.string s] w fun e w' => e = .returned (.tuple #[.int .u8 (byWord s), .bool (byWord s != 0)]) ∧ Below w.heap.size w w' := by
  go_enter Try.func20, Try.ntmps20
  go_wp2_with fail
  go_loopw [4] (fun i w' => ∃ k : Nat, 1 ≤ k ∧ k ≤ 60 ∧ i = .int .i64 k ∧ (∀ j, 1 ≤ j → j < k → isW s j = false) ∧ Below w.heap.size w w') (fun i _ => 60 - (intOf i).toNat)
  case atStart => exact ⟨1, by omega, by omega, rfl, fun j h1 h2 => by omega, Below.refl _ _⟩
  case round =>
    obtain ⟨k, hk1, hk2, rfl, hj, hb⟩ := hrel
    have Hj := Lib.hid hj
    clear hj
    by_cases hlt : k < 60
    · go_wp2_with fail
      refine (word_yes k hk1 (by omega) _).mono ?_
      rintro e w1 ⟨rfl, hb1⟩
      go_wp2_with fail
      · have hw : isW s k = true := by assumption
        go_ret2
        have he : byWord s = k := byWord_some hk1 hlt hw Hj.out
        rw [he]
        refine ⟨?_, Bel.tr hb hb1⟩
        have : (k != 0) = true := by simp; omega
        rw [this]; rfl
      · have hw : isW s k = false := by assumption
        go_roundw
        case rel => exact ⟨k + 1, by omega, by omega, by go_num, fun j h1 h2 => by
          by_cases e : j = k
          · subst e; exact hw
          · exact Hj.out j h1 (by omega), Bel.tr hb hb1⟩
        case measure => simp [intOf]; omega
    · have : k = 60 := by omega
      subst this
      go_wp2
      go_ret2
      have he : byWord s = 0 := byWord_none Hj.out
      rw [he]
      exact ⟨rfl, hb⟩

theorem extract_tab (k : Nat) (hk : k < 60) : tabCells.extract (k * 6) (k * 6 + 6) = (rowCells k).toArray := by
  apply Array.ext_getElem?
  intro j
  rw [Array.getElem?_extract]
  by_cases hj : j < 6
  · have h1 : tabCells.size = 360 := by kernel_rfl
    rw [if_pos (by omega), Nat.mul_comm, tab_at k hk j hj, List.getElem?_toArray]
  · have h1 : tabCells.size = 360 := by kernel_rfl
    rw [if_neg (by omega), List.getElem?_toArray]; exact (List.getElem?_eq_none (by show 6 ≤ j; omega)).symm
theorem isAgg26 (w : World) : (isAgg 26).run Try.prog w = .ok true w := by kernel_rfl
theorem sizeOf26 (w : World) : (sizeOf 26).run Try.prog w = .ok 6 w := by kernel_rfl
theorem run_index_tab (k : Nat) (hk : k < 60) (w : World) : (Instr.index 75 (.agg tabCells) (.int .i64 k)).run Try.prog w = .ok (.agg (rowCells k).toArray) w := by
  have hE := extract_tab k hk
  generalize tabCells = T at hE
  have h1 : (0 : Int) ≤ (k : Int) ∧ (k : Int) < ((60 : Nat) : Int) := by omega
  simp only [Instr.index, asIntOf, Sem.run_bind, Sem.run_pure, Result.andThen_ok, run_underlying Try.underlying75, Go.part, isAgg26, sizeOf26, Int.toNat_natCast, if_pos h1, if_true, hE]

set_option maxHeartbeats 400000 in
theorem byWord_any (s : ByteArray) (w : World) :
    Calls Try.prog 19 #[.string s] w fun e w' => e = .returned (.tuple #[.int .u8 (byWord s), .bool (byWord s != 0)]) ∧ Below w.heap.size w w' := by
  have hz := zero26
  unfold zeroRow at hz
  by_cases hs : s.toList = []
  · have h0 : byWord s = 0 := byWord_none (fun j h1 h2 => by
      unfold isW; rw [hs]
      have : ∀ j < 60, 1 ≤ j → (wordOf j == []) = false := by decide
      exact this j h2 h1)
    rw [h0]
    have hs2 : s.toList.isEmpty = true := by rw [hs]; rfl
    have Hs := Lib.hid hs
    clear hs
    go_enter Try.func19, Try.ntmps19
    go_wp2
    go_ret2
    exact ⟨rfl, Below.refl _ _⟩
  · have hs2 : s.toList.isEmpty = false := by simpa using hs
    have Hs := Lib.hid hs
    clear hs
    have hr := rows_any
    have hx := run_index_tab
    unfold rowCells at hx
    generalize tabCells = T at hr hx
    have Hx := Lib.hid hx
    clear hx
    go_enter Try.func19, Try.ntmps19
    go_wp2_with fail
    refine (hr _).mono ?_
    rintro e w1 ⟨rfl, hb0⟩
    clear hr
    go_wp2_with fail
    go_loopw [9] (fun i w' => ∃ k : Nat, k ≤ 60 ∧ i = .int .i64 k ∧ (∀ j, 1 ≤ j → j < k → isW s j = false) ∧ Below w.heap.size w w') (fun i _ => 60 - (intOf i).toNat)
    case atStart => exact ⟨0, by omega, rfl, fun j h1 h2 => by omega, hb0⟩
    case round =>
      obtain ⟨k, hk2, rfl, hj, hb⟩ := hrel
      have Hj := Lib.hid hj
      clear hj
      by_cases hlt : k < 60
      · have hx := Hx.out k hlt
        go_wp2_with fail
        · have hw : isW s k = true := by assumption
          go_ret2
          have hk1 : 1 ≤ k := by
            by_cases e : k = 0
            · subst e
              exact absurd (by unfold isW at hw; exact (beq_iff_eq.1 hw).symm) Hs.out
            · omega
          have he : byWord s = k := byWord_some hk1 hlt hw Hj.out
          rw [he]
          refine ⟨?_, Bel.al hb _⟩
          have : (k != 0) = true := by simp; omega
          rw [this]; rfl
        · have hw : isW s k = false := by assumption
          go_roundw
          case rel => exact ⟨k + 1, by omega, by go_num, fun j h1 h2 => by
            by_cases e : j = k
            · subst e; exact hw
            · exact Hj.out j h1 (by omega), Bel.al hb _⟩
          case measure => simp [intOf]; omega
      · have : k = 60 := by omega
        subst this
        go_wp2
        go_ret2
        have he : byWord s = 0 := byWord_none Hj.out
        rw [he]
        exact ⟨rfl, hb⟩
end Go.Proofs.Ytdigcbkjlppenaa
