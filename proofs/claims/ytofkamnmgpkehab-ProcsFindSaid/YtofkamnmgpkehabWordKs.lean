import Derived.Test.YtofkamnmgpkehabKept
import Derived.Test.YtofkamnmgpkehabTgts
import Derived.Deep.RegionHeld3
/- Lists of words that are handed in with marks behind them. -/
namespace Go.Proofs.Ytofkamnmgpkehab
open Go.RowKit
theorem mkW_is : ∃ f : Int → Int → Nat, ∀ k i, f k i < 4294967296 ∧ (f k i : Int) = wrap64 (wrap64 (1000003 * wrap64 (k + 1)) + i) % 4294967296 := by
  refine ⟨fun k i => (wrap64 (wrap64 (1000003 * wrap64 (k + 1)) + i) % 4294967296).toNat, fun k i => ?_⟩
  dsimp only
  omega
/-- The mark of a word. -/
noncomputable def mkW : Int → Int → Nat := mkW_is.choose
theorem mkW_lt (k i : Int) : mkW k i < 4294967296 := (mkW_is.choose_spec k i).1
theorem mkW_eq (k i : Int) : (mkW k i : Int) = wrap64 (wrap64 (1000003 * wrap64 (k + 1)) + i) % 4294967296 := (mkW_is.choose_spec k i).2
set_option maxRecDepth 100000 in
theorem markWords_any (k i : Int) (w : World) : Calls Try.prog 38 #[.int .i64 k, .int .i64 i] w fun e w' => e = .returned (.int .u32 (mkW k i)) ∧ w' = w := by
  go_enter Try.func38, Try.ntmps38
  go_wp2
  go_ret
  exact ⟨ret_intE (mkW_eq k i).symm, rfl⟩
noncomputable def marksW (k : Int) (n m : Nat) : List Nat := (List.range m).map fun (i : Nat) => mkW k (n + i : Nat)
theorem marksW_length (k : Int) (n m : Nat) : (marksW k n m).length = m := by simp [marksW]
theorem marksW_succ (k : Int) (n m : Nat) : marksW k n (m + 1) = marksW k n m ++ [mkW k (n + m : Nat)] := by simp [marksW, List.range_succ]
theorem marksW_at (k : Int) (n m i : Nat) (h : i < m) (d : Nat) : (marksW k n m).getD i d = mkW k (n + i : Nat) := by
  unfold marksW
  rw [List.getD_eq_getElem?_getD, List.getElem?_map, List.getElem?_range h]
  rfl
theorem run_bs23_1 (x : Int) (w : World) : (Instr.buildSlice 23 1 #[(0, .int .u32 x)]).run Try.prog w = .ok (.slice (some ⟨w.heap.size, 0, none⟩) 1 1) (w.alloc (.cells #[.int .u32 x] 32)) := by kernel_rfl
theorem reads_cellsW {w : World} {v : Value} {l : List Nat} (h : Reads w 1 v l.length (encN .u32 l)) : ∃ (a : Option Addr) (cap : Nat), v = .slice a l.length cap ∧ l.length ≤ cap ∧ cap ≤ maxLen ∧ (a = none → cap = 0) ∧
    (0 < l.length → ∃ b off, a = some ⟨b, off, none⟩ ∧ b < w.heap.size ∧ ∀ j, j < l.length → w.cell? ⟨b, off + j, none⟩ = some (.int .u32 (l.getD j 0 : Nat))) := by
  obtain ⟨a, cap, hv, hl, hn, hm, ha, hp⟩ := h
  refine ⟨a, cap, hv, hn, hm, ha, fun h0 => ?_⟩
  obtain ⟨b, off, e, hlt, hc⟩ := hp h0
  exact ⟨b, off, e, hlt, fun j hj => by rw [hc j (by rw [encN_length]; omega), encN_at _ l j hj]⟩
def LentPostW (l : List Nat) (w : World) (e : Ending) (w' : World) : Prop :=
  ∃ g cap, e = .returned (.slice (some ⟨g, 0, none⟩) (l.length + 64) cap) ∧ w'.ownsRow 0 32 1 (.slice (some ⟨g, 0, none⟩) (l.length + 64) cap) (l.length + 64) (encN .u32 (l ++ marksW 0 0 64)) ∧ Below w.heap.size w w' ∧ w.heap.size ≤ g
set_option maxRecDepth 100000 in
set_option maxHeartbeats 2000000 in
theorem lentWords_any (v : Value) (l : List Nat) (hl : l.length * 4 ≤ 140737488351232) (w : World) (hv : Reads w 1 v l.length (encN .u32 l)) : Calls Try.prog 17 #[v] w (LentPostW l w) := by
  obtain ⟨a, cap, rfl, hlc, hcm, hnil, hp⟩ := reads_cellsW hv
  obtain ⟨i0, hi, hz0, hz1, hz2⟩ := info_parts info32
  have hb23 := run_bs23_1
  have Hp := Lib.hid hp
  have hlm : l.length ≤ 9223372036854775807 := by omega
  clear hp hnil hv
  go_enter Try.func17, Try.ntmps17
  go_wp2_with fail
  go_loopw [3, 4] (fun u i wr => ∃ k : Nat, k ≤ l.length ∧ i = .int .i64 k ∧ wr.ownsRow 0 32 1 u k (encN .u32 (l.take k)) ∧ Grew w wr (.slice none 0 0) u) (fun _ i _ => l.length - (intOf i).toNat)
  case atStart => exact ⟨0, by omega, rfl, World.ownsRow_nil _ _ _ _, Grew.refl _ _⟩
  case round =>
    obtain ⟨k, hk, rfl, hr, hg⟩ := hrel
    by_cases hlt : k < l.length
    · obtain ⟨b, off, rfl, hbl, hc⟩ := Hp.out (by omega)
      have hq1 : wr.cell? ⟨b, off + k, none⟩ = some (.int .u32 (l.getD k 0 : Nat)) := ((Grew.bel hg).cell (p := ⟨b, off + k, none⟩) hbl).trans (hc k hlt)
      have hts := take_snocD l k 0 hlt
      generalize l.getD k 0 = x at *
      have Hts := Lib.hid hts
      have h1 : (k : Int) < (l.length : Int) := by omega
      clear hts hc
      go_wp2_with ((with_reducible refine wpList_append1 (o := ⟨some 18, .call { callee := .builtin .append, args := #[.tmp 12, .tmp 17], argTypes := #[23, 23] }, _, _, _, none⟩) rfl _ _ 23 rfl 32 i0 (.int .u32 0) 1 4 Try.underlying23 hi hz0 hz1 hz2 ?_ ?_ _ _ _ hr _ _ ?_ ?_ ?_ ?_ ?_ ?_ ?_); rfl; decide; rfl; rfl; rfl; (simp [Value.oneCell']); (unfold maxLen; omega); omega; intro g5 c5 w5 o5 g5' hl5)
      go_roundw
      case rel => exact ⟨k + 1, by omega, by go_num, by rw [Hts.out, encN_append]; exact o5, hg.trans g5'⟩
      case measure => simp [intOf]; omega
    · obtain rfl : k = l.length := by omega
      rw [List.take_length] at hr
      go_wp2_with fail
      go_loopw [3, 5] (fun u i wr => ∃ k : Nat, k ≤ 64 ∧ i = .int .i64 k ∧ wr.ownsRow 0 32 1 u (l.length + k) (encN .u32 (l ++ marksW 0 0 k)) ∧ Grew w wr (.slice none 0 0) u) (fun _ i _ => 64 - (intOf i).toNat)
      case atStart => exact ⟨0, by omega, rfl, by simpa [marksW] using hr, hg⟩
      case round =>
        clear hr hg
        obtain ⟨k, hk, rfl, hr, hg⟩ := hrel
        by_cases hlt2 : k < 64
        · have hts := marksW_succ 0 0 k
          rw [Nat.zero_add] at hts
          have Hts := Lib.hid hts
          clear hts
          go_wp2_with fail
          refine (markWords_any _ _ _).mono ?_
          rintro e w1 ⟨rfl, hw1⟩
          have hw1' := hw1.symm
          subst hw1'
          clear hw1
          generalize mkW 0 k = x at *
          go_wp2_with ((with_reducible refine wpList_append1 (o := ⟨some 27, .call { callee := .builtin .append, args := #[.tmp 23, .tmp 26], argTypes := #[23, 23] }, _, _, _, none⟩) rfl _ _ 23 rfl 32 i0 (.int .u32 0) 1 4 Try.underlying23 hi hz0 hz1 hz2 ?_ ?_ _ _ _ hr _ _ ?_ ?_ ?_ ?_ ?_ ?_ ?_); rfl; decide; rfl; rfl; rfl; (simp [Value.oneCell']); (unfold maxLen; omega); omega; intro g5 c5 w5 o5 g5' hl5)
          go_roundw
          case rel => exact ⟨k + 1, by omega, by go_num, by rw [Hts.out, ← List.append_assoc, encN_append]; exact o5, hg.trans g5'⟩
          case measure => simp [intOf]; omega
        · obtain rfl : k = 64 := by omega
          obtain ⟨g, cap, rfl, hgw, hgl⟩ := own_start hr (by omega)
          have Hr := Lib.hid hr
          clear hr
          go_wp2
          go_ret
          exact ⟨g, cap, rfl, Hr.out, hg.bel, by rcases hg.2 g rfl with h | h; cases h; exact h⟩
end Go.Proofs.Ytofkamnmgpkehab
/- Were the words kept? -/
namespace Go.Proofs.Ytofkamnmgpkehab
open Go.RowKit
set_option maxRecDepth 100000 in
set_option maxHeartbeats 4000000 in
theorem keptWords_true (vf v : Value) (l : List Nat) (hl : l.length * 4 ≤ 140737488351232) (w : World) (hf : Reads w 1 vf (l ++ marksW 0 0 64).length (encN .u32 (l ++ marksW 0 0 64))) (hv : Reads w 1 v l.length (encN .u32 l)) :
    Calls Try.prog 20 #[vf, v] w fun e w' => e = .returned (.bool true) ∧ Below w.heap.size w w' := by
  have hln : (l ++ marksW 0 0 64).length = l.length + 64 := by rw [List.length_append, marksW_length]
  obtain ⟨a, cap, rfl, hlc, hcm, hnil, hp⟩ := reads_cellsW hf
  obtain ⟨a', cap', rfl, hlc', hcm', hnil', hp'⟩ := reads_cellsW hv
  rw [hln] at hp ⊢
  have hlm : l.length ≤ 9223372036854775743 := by omega
  have hsum : IntKind.i64.wrap ((l.length : Int) + 64) = (l.length : Int) + 64 := IntWalk.i64_in _ (by omega)
  have Hp := Lib.hid (hp (by omega))
  have Hp' := Lib.hid hp'
  clear hp hp' hnil hnil' hv hf hln hlc hcm
  go_enter Try.func20, Try.ntmps20
  go_wp2_with fail
  go_loopw [5] (fun i wr => ∃ k : Nat, k ≤ l.length ∧ i = .int .i64 k ∧ Below w.heap.size w wr) (fun i _ => l.length - (intOf i).toNat)
  case atStart => exact ⟨0, by omega, rfl, Below.refl _ _⟩
  case round =>
    obtain ⟨k, hk, rfl, hb⟩ := hrel
    obtain ⟨b, off, rfl, hbl, hc⟩ := Hp.out
    by_cases hlt : k < l.length
    · obtain ⟨b', off', rfl, hbl', hc'⟩ := Hp'.out (by omega)
      have hq1 : wr.cell? ⟨b, off + k, none⟩ = some (.int .u32 (l.getD k 0 : Nat)) := by rw [← getD_left l (marksW 0 0 64) 0 k hlt]; exact (hb.cell (p := ⟨b, off + k, none⟩) hbl).trans (hc k (by omega))
      have hq3 : wr.cell? ⟨b', off' + k, none⟩ = some (.int .u32 (l.getD k 0 : Nat)) := (hb.cell (p := ⟨b', off' + k, none⟩) hbl').trans (hc' k hlt)
      generalize l.getD k 0 = x at hq1 hq3
      have h0 : (0 : Int) ≤ (k : Int) := by omega
      have h1 : (k : Int) < (l.length : Int) := by omega
      have h2 : (k : Int) < ((l.length + 64 : Nat) : Int) := by omega
      clear hc hc'
      go_wp2_with fail
      go_quiet (fail)
      go_wp2
      go_roundw
      case rel => exact ⟨k + 1, by omega, by go_num, below_drewN hb _⟩
      case measure => simp [intOf]; omega
    · have : k = l.length := by omega
      subst this
      have Hc := Lib.hid hc
      clear hc hlt hk
      go_wp2_with fail
      go_loopw [6] (fun i wr => ∃ k : Nat, k ≤ 64 ∧ i = .int .i64 k ∧ Below w.heap.size w wr) (fun i _ => 64 - (intOf i).toNat)
      case atStart => exact ⟨0, by omega, rfl, hb⟩
      case round =>
        clear hb
        obtain ⟨k, hk, rfl, hb⟩ := hrel
        by_cases hlt : k < 64
        · have hq1 : wr.cell? ⟨b, off + (l.length + k), none⟩ = some (.int .u32 (mkW 0 k : Nat)) := by
            have h := Hc.out (l.length + k) (by omega)
            rw [getD_right, marksW_at _ _ _ _ hlt, Nat.zero_add] at h
            exact (hb.cell (p := ⟨b, off + (l.length + k), none⟩) hbl).trans h
          have h0 : (0 : Int) ≤ (l.length : Int) + (k : Int) := by omega
          have h1 : IntKind.i64.wrap ((l.length : Int) + (k : Int)) = (l.length : Int) + (k : Int) := IntWalk.i64_in _ (by omega)
          have h2 : (l.length : Int) + (k : Int) < ((l.length + 64 : Nat) : Int) := by omega
          have h3 : ((l.length : Int) + (k : Int)).toNat = l.length + k := by omega
          have Hm := Lib.hid (fun W => markWords_any 0 k W)
          generalize mkW 0 k = x at hq1 Hm
          have H00 := Lib.hid (show wr.drew.cell? ⟨b, off + (l.length + k), none⟩ = some (.int .u32 (x : Nat)) ∧ Below w.heap.size w wr.drew from ⟨hq1, hb.drew⟩)
          clear hb hq1
          go_wp2_with fail
          go_region_held3 (fun w' => w'.cell? ⟨b, off + (l.length + k), none⟩ = some (.int .u32 (x : Nat)) ∧ Below w.heap.size w w')
            (first | assumption | exact H00.out)
            (first | (go_at_call 38; refine (Hm.out _).mono ?_; rintro e w' ⟨rfl, hw'⟩; subst hw'))
          have hbb := H00.out.2
          clear h1 h3
          go_wp2
          go_roundw
          case rel => exact ⟨k + 1, by omega, by go_num, hbb⟩
          case measure => simp [intOf]; omega
        · have : k = 64 := by omega
          subst this
          go_wp2
          go_ret
          exact ⟨rfl, hb⟩
end Go.Proofs.Ytofkamnmgpkehab
