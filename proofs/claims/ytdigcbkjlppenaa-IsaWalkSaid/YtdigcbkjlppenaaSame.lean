import Derived.Test.YtdigcbkjlppenaaOwn
namespace Go.Proofs.Ytdigcbkjlppenaa
open Go.RowKit
theorem beq_self_int (x : Int) : (x == x) = true := by simp
theorem below_drewN {B : Nat} {w w' : World} (h : Below B w w') (n : Nat) : Below B w (w'.drewN n) := ⟨h.os, h.tape, h.output, h.size, h.block⟩
set_option maxHeartbeats 1000000 in
theorem sameBytes_true (v u : Value) (l : List Nat) (w : World) (hv : Bytes w v l) (hu : Bytes w u l) :
    Calls Try.prog 38 #[v, u] w fun e w' => e = .returned (.bool true) ∧ Below w.heap.size w w' := by
  obtain ⟨a, cap, rfl, hlc, hcm, hnil, hp⟩ := hv.opened
  obtain ⟨a', cap', rfl, hlc', hcm', hnil', hp'⟩ := hu.opened
  have hlm : l.length ≤ 9223372036854775807 := by unfold maxLen at hcm; omega
  have Hp := Lib.hid hp
  have Hp' := Lib.hid hp'
  clear hp hp' hnil hnil' hv hu
  go_enter Try.func38, Try.ntmps38
  go_wp2_with fail
  go_loopw [5] (fun i wr => ∃ k : Nat, k ≤ l.length ∧ i = .int .i64 k ∧ Below w.heap.size w wr) (fun i _ => l.length - (intOf i).toNat)
  case atStart => exact ⟨0, by omega, rfl, Below.refl _ _⟩
  case round =>
    obtain ⟨k, hk, rfl, hb⟩ := hrel
    by_cases hlt : k < l.length
    · obtain ⟨b, off, rfl, hbl, hc⟩ := Hp.out (by omega)
      obtain ⟨b', off', rfl, hbl', hc'⟩ := Hp'.out (by omega)
      have hq1 : wr.cell? ⟨b, off + k, none⟩ = some (.int .u8 (l.getD k 0 : Nat)) := (hb.cell (p := ⟨b, off + k, none⟩) hbl).trans (hc k hlt)
      have hq2 : wr.cell? ⟨b', off' + k, none⟩ = some (.int .u8 (l.getD k 0 : Nat)) := (hb.cell (p := ⟨b', off' + k, none⟩) hbl').trans (hc' k hlt)
      generalize l.getD k 0 = x at hq1 hq2
      have h0 : (0 : Int) ≤ (k : Int) := by omega
      have h1 : (k : Int) < (l.length : Int) := by omega
      clear hc hc'
      go_wp2_with fail
      go_quiet (fail)
      go_wp2
      go_roundw
      case rel => exact ⟨k + 1, by omega, by go_num, below_drewN hb _⟩
      case measure => simp [intOf]; omega
    · have : k = l.length := by omega
      subst this
      go_wp2
      go_ret
      exact ⟨rfl, hb⟩

set_option maxHeartbeats 1000000 in
theorem sameCode_true (v u : Value) (l : List (Nat × Nat)) (w : World) (hv : Instrs w v l) (hu : Instrs w u l) :
    Calls Try.prog 45 #[v, u] w fun e w' => e = .returned (.bool true) ∧ Below w.heap.size w w' := by
  obtain ⟨a, cap, rfl, hlc, hcm, hnil, hp⟩ := hv.opened
  obtain ⟨a', cap', rfl, hlc', hcm', hnil', hp'⟩ := hu.opened
  have hlm : l.length ≤ 9223372036854775807 := by unfold maxLen at hcm; omega
  have Hp := Lib.hid hp
  have Hp' := Lib.hid hp'
  clear hp hp' hnil hnil' hv hu
  go_enter Try.func45, Try.ntmps45
  go_wp2_with fail
  go_loopw [5] (fun i wr => ∃ k : Nat, k ≤ l.length ∧ i = .int .i64 k ∧ Below w.heap.size w wr) (fun i _ => l.length - (intOf i).toNat)
  case atStart => exact ⟨0, by omega, rfl, Below.refl _ _⟩
  case round =>
    obtain ⟨k, hk, rfl, hb⟩ := hrel
    by_cases hlt : k < l.length
    · obtain ⟨b, off, rfl, hbl, hc⟩ := Hp.out (by omega)
      obtain ⟨b', off', rfl, hbl', hc'⟩ := Hp'.out (by omega)
      have hq1 : wr.cell? ⟨b, off + k * 2, none⟩ = some (.int .u8 (l.getD k (0, 0)).1) := (hb.cell (p := ⟨b, off + k * 2, none⟩) hbl).trans (hc k hlt).1
      have hq2 : wr.cell? ⟨b, off + k * 2 + 1, none⟩ = some (.int .u32 (l.getD k (0, 0)).2) := (hb.cell (p := ⟨b, off + k * 2 + 1, none⟩) hbl).trans (hc k hlt).2
      have hq3 : wr.cell? ⟨b', off' + k * 2, none⟩ = some (.int .u8 (l.getD k (0, 0)).1) := (hb.cell (p := ⟨b', off' + k * 2, none⟩) hbl').trans (hc' k hlt).1
      have hq4 : wr.cell? ⟨b', off' + k * 2 + 1, none⟩ = some (.int .u32 (l.getD k (0, 0)).2) := (hb.cell (p := ⟨b', off' + k * 2 + 1, none⟩) hbl').trans (hc' k hlt).2
      generalize l.getD k (0, 0) = x at hq1 hq2 hq3 hq4
      have h0 : (0 : Int) ≤ (k : Int) := by omega
      have h1 : (k : Int) < (l.length : Int) := by omega
      clear hc hc'
      go_wp2_with fail
      go_quiet (fail)
      go_wp2
      go_roundw
      case rel => exact ⟨k + 1, by omega, by go_num, below_drewN hb _⟩
      case measure => simp [intOf]; omega
    · have : k = l.length := by omega
      subst this
      go_wp2
      go_ret
      exact ⟨rfl, hb⟩

/-- A slice of ints that are not below 0. -/
def Ints (w : World) (v : Value) (l : List Nat) : Prop := Reads w 1 v l.length (encN .i64 l)
theorem Ints.opened {w : World} {v : Value} {l : List Nat} (h : Ints w v l) : ∃ (a : Option Addr) (cap : Nat), v = .slice a l.length cap ∧ l.length ≤ cap ∧ cap ≤ maxLen ∧ (a = none → cap = 0) ∧
    (0 < l.length → ∃ b off, a = some ⟨b, off, none⟩ ∧ b < w.heap.size ∧ ∀ k, k < l.length → w.cell? ⟨b, off + k, none⟩ = some (.int .i64 (l.getD k 0 : Nat))) := by
  obtain ⟨a, cap, hv, hl, hn, hm, ha, hp⟩ := h
  refine ⟨a, cap, hv, hn, hm, ha, fun h0 => ?_⟩
  obtain ⟨b, off, e, hlt, hc⟩ := hp h0
  exact ⟨b, off, e, hlt, fun k hk => by rw [hc k (by rw [encN_length]; omega), encN_at _ l k hk]⟩
set_option maxHeartbeats 1000000 in
theorem sameInts_true (v u : Value) (l : List Nat) (w : World) (hv : Ints w v l) (hu : Ints w u l) :
    Calls Try.prog 41 #[v, u] w fun e w' => e = .returned (.bool true) ∧ Below w.heap.size w w' := by
  obtain ⟨a, cap, rfl, hlc, hcm, hnil, hp⟩ := hv.opened
  obtain ⟨a', cap', rfl, hlc', hcm', hnil', hp'⟩ := hu.opened
  have hlm : l.length ≤ 9223372036854775807 := by unfold maxLen at hcm; omega
  have Hp := Lib.hid hp
  have Hp' := Lib.hid hp'
  clear hp hp' hnil hnil' hv hu
  go_enter Try.func41, Try.ntmps41
  go_wp2_with fail
  go_loopw [5] (fun i wr => ∃ k : Nat, k ≤ l.length ∧ i = .int .i64 k ∧ Below w.heap.size w wr) (fun i _ => l.length - (intOf i).toNat)
  case atStart => exact ⟨0, by omega, rfl, Below.refl _ _⟩
  case round =>
    obtain ⟨k, hk, rfl, hb⟩ := hrel
    by_cases hlt : k < l.length
    · obtain ⟨b, off, rfl, hbl, hc⟩ := Hp.out (by omega)
      obtain ⟨b', off', rfl, hbl', hc'⟩ := Hp'.out (by omega)
      have hq1 : wr.cell? ⟨b, off + k, none⟩ = some (.int .i64 (l.getD k 0 : Nat)) := (hb.cell (p := ⟨b, off + k, none⟩) hbl).trans (hc k hlt)
      have hq2 : wr.cell? ⟨b', off' + k, none⟩ = some (.int .i64 (l.getD k 0 : Nat)) := (hb.cell (p := ⟨b', off' + k, none⟩) hbl').trans (hc' k hlt)
      generalize l.getD k 0 = x at hq1 hq2
      have h0 : (0 : Int) ≤ (k : Int) := by omega
      have h1 : (k : Int) < (l.length : Int) := by omega
      clear hc hc'
      go_wp2_with fail
      go_quiet (fail)
      go_wp2
      go_roundw
      case rel => exact ⟨k + 1, by omega, by go_num, below_drewN hb _⟩
      case measure => simp [intOf]; omega
    · have : k = l.length := by omega
      subst this
      go_wp2
      go_ret
      exact ⟨rfl, hb⟩

end Go.Proofs.Ytdigcbkjlppenaa
