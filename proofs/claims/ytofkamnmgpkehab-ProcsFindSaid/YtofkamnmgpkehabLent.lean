import Derived.Test.YtofkamnmgpkehabMark
import Derived.Test.YtofkamnmgpkehabSame
import Derived.Test.YtofkamnmgpkehabLittle
import Derived.Deep.RegionHeld3
/- Lists that are handed in with marks behind them. -/
namespace Go.Proofs.Ytofkamnmgpkehab
open Go.RowKit
noncomputable def marksB (k : Int) (n m : Nat) : List Nat := (List.range m).map fun (i : Nat) => mkB k (n + i : Nat)
theorem marksB_length (k : Int) (n m : Nat) : (marksB k n m).length = m := by simp [marksB]
theorem marksB_succ (k : Int) (n m : Nat) : marksB k n (m + 1) = marksB k n m ++ [mkB k (n + m : Nat)] := by simp [marksB, List.range_succ]
noncomputable def marksC (k : Int) (n m : Nat) : List (Nat × Nat) := (List.range m).map fun (i : Nat) => mkC k (n + i : Nat)
theorem marksC_length (k : Int) (n m : Nat) : (marksC k n m).length = m := by simp [marksC]
theorem marksC_succ (k : Int) (n m : Nat) : marksC k n (m + 1) = marksC k n m ++ [mkC k (n + m : Nat)] := by simp [marksC, List.range_succ]
theorem take_snocD {α : Type} (l : List α) (k : Nat) (d : α) (hk : k < l.length) : l.take (k + 1) = l.take k ++ [l.getD k d] := by
  rw [List.take_add_one, List.getElem?_eq_getElem hk]
  simp [List.getElem?_eq_getElem hk]
theorem run_buildSlice41 (x : Int) (w : World) : (Instr.buildSlice 81 1 #[(0, .int .u8 x)]).run Try.prog w = .ok (.slice (some ⟨w.heap.size, 0, none⟩) 1 1) (w.alloc (.cells #[.int .u8 x] 5)) := by kernel_rfl
theorem own_start {w : World} {base e sz n : Nat} {v : Value} {xs : List Value} (h : w.ownsRow base e sz v n xs) (hn : 0 < n) : ∃ g cap, v = .slice (some ⟨g, 0, none⟩) n cap ∧ base ≤ g ∧ g < w.heap.size := by
  obtain ⟨hl, h⟩ := h
  rcases h with ⟨rfl, rfl⟩ | ⟨g, cap, cur, rfl, hb, hg, hn, hm, hcs, ht⟩
  · omega
  · exact ⟨g, cap, rfl, hb, (Array.getElem?_eq_some_iff.1 hg).1⟩
theorem own_from {w : World} {e sz n B : Nat} {v : Value} {xs : List Value} (h : w.ownsRow 0 e sz v n xs) (hB : ∀ g, v.ownBlock = some g → B ≤ g) : w.ownsRow B e sz v n xs := by
  obtain ⟨hl, h⟩ := h
  rcases h with h | ⟨g, cap, cur, hv, hb, rest⟩
  · exact ⟨hl, .inl h⟩
  · exact ⟨hl, .inr ⟨g, cap, cur, hv, hB g (by rw [hv]; rfl), rest⟩⟩
def LentPostB (l : List Nat) (w : World) (e : Ending) (w' : World) : Prop :=
  ∃ g cap, e = .returned (.slice (some ⟨g, 0, none⟩) (l.length + 64) cap) ∧ w'.ownsRow 0 5 1 (.slice (some ⟨g, 0, none⟩) (l.length + 64) cap) (l.length + 64) (encN .u8 (l ++ marksB 0 0 64)) ∧ Below w.heap.size w w' ∧ w.heap.size ≤ g
theorem info36' : (Try.prog.info? 49).map (fun i => (i.zero, i.size, i.bytes)) = some (some (.agg #[.int .u8 0, .int .u32 0]), 2, 8) := by kernel_rfl
theorem run_buildSlice43' (x y : Int) (w : World) : (Instr.buildSlice 22 1 #[(0, .agg #[.int .u8 x, .int .u32 y])]).run Try.prog w = .ok (.slice (some ⟨w.heap.size, 0, none⟩) 1 1) (w.alloc (.cells #[.int .u8 x, .int .u32 y] 49)) := by kernel_rfl
def LentPostC (l : List (Nat × Nat)) (w : World) (e : Ending) (w' : World) : Prop :=
  ∃ g cap, e = .returned (.slice (some ⟨g, 0, none⟩) (l.length + 64) cap) ∧ w'.ownsRow 0 49 2 (.slice (some ⟨g, 0, none⟩) (l.length + 64) cap) (l.length + 64) (encI (l ++ marksC 0 0 64)) ∧ Below w.heap.size w w' ∧ w.heap.size ≤ g
set_option maxRecDepth 100000 in
set_option maxHeartbeats 2000000 in
theorem lentCode_any (v : Value) (l : List (Nat × Nat)) (hl : l.length * 8 ≤ 140737488351232) (w : World) (hv : Instrs w v l) : Calls Try.prog 16 #[v] w (LentPostC l w) := by
  obtain ⟨a, cap, rfl, hlc, hcm, hnil, hp⟩ := hv.opened
  obtain ⟨i0, hi, hz0, hz1, hz2⟩ := info_parts info36'
  have hb43 := run_buildSlice43'
  have Hp := Lib.hid hp
  have hlm : l.length ≤ 9223372036854775807 := by omega
  clear hp hnil hv
  go_enter Try.func16, Try.ntmps16
  go_wp2_with fail
  go_loopw [3, 4] (fun u i wr => ∃ k : Nat, k ≤ l.length ∧ i = .int .i64 k ∧ wr.ownsRow 0 49 2 u k (encI (l.take k)) ∧ Grew w wr (.slice none 0 0) u) (fun _ i _ => l.length - (intOf i).toNat)
  case atStart => exact ⟨0, by omega, rfl, World.ownsRow_nil _ _ _ _, Grew.refl _ _⟩
  case round =>
    obtain ⟨k, hk, rfl, hr, hg⟩ := hrel
    by_cases hlt : k < l.length
    · obtain ⟨b, off, rfl, hbl, hc⟩ := Hp.out (by omega)
      have hq1 : wr.cell? ⟨b, off + k * 2, none⟩ = some (.int .u8 (l.getD k (0, 0)).1) := ((Grew.bel hg).cell (p := ⟨b, off + k * 2, none⟩) hbl).trans (hc k hlt).1
      have hq2 : wr.cell? ⟨b, off + k * 2 + 1, none⟩ = some (.int .u32 (l.getD k (0, 0)).2) := ((Grew.bel hg).cell (p := ⟨b, off + k * 2 + 1, none⟩) hbl).trans (hc k hlt).2
      have hts := take_snocD l k (0, 0) hlt
      generalize l.getD k (0, 0) = x at *
      obtain ⟨o, x⟩ := x
      have Hts := Lib.hid hts
      have h1 : (k : Int) < (l.length : Int) := by omega
      clear hts hc
      simp only at hq1 hq2
      go_wp2_with ((with_reducible refine wpList_append1 (o := ⟨some 18, .call { callee := .builtin .append, args := #[.tmp 12, .tmp 17], argTypes := #[22, 22] }, _, _, _, none⟩) rfl _ _ 22 rfl 49 i0 (.agg #[.int .u8 0, .int .u32 0]) 2 8 Try.underlying22 hi hz0 hz1 hz2 ?_ ?_ _ _ _ hr _ _ ?_ ?_ ?_ ?_ ?_ ?_ ?_); rfl; decide; rfl; rfl; rfl; (simp [Value.oneCell']); (unfold maxLen; omega); omega; intro g5 c5 w5 o5 g5' hl5)
      go_roundw
      case rel => exact ⟨k + 1, by omega, by go_num, by rw [Hts.out, encI_append]; exact o5, hg.trans g5'⟩
      case measure => simp [intOf]; omega
    · obtain rfl : k = l.length := by omega
      rw [List.take_length] at hr
      go_wp2_with fail
      go_loopw [3, 5] (fun u i wr => ∃ k : Nat, k ≤ 64 ∧ i = .int .i64 k ∧ wr.ownsRow 0 49 2 u (l.length + k) (encI (l ++ marksC 0 0 k)) ∧ Grew w wr (.slice none 0 0) u) (fun _ i _ => 64 - (intOf i).toNat)
      case atStart => exact ⟨0, by omega, rfl, by simpa [marksC] using hr, hg⟩
      case round =>
        clear hr hg
        obtain ⟨k, hk, rfl, hr, hg⟩ := hrel
        by_cases hlt2 : k < 64
        · have hts := marksC_succ 0 0 k
          rw [Nat.zero_add] at hts
          have Hts := Lib.hid hts
          clear hts
          go_wp2_with fail
          refine (markCode_any _ _ _).mono ?_
          rintro e w1 ⟨rfl, hb⟩
          have hr1 := own_below hr hb
          have hg1 := hg.then hb
          generalize mkC 0 k = x at *
          obtain ⟨o, x⟩ := x
          simp only at *
          clear hr hg hb
          go_wp2_with ((with_reducible refine wpList_append1 (o := ⟨some 27, .call { callee := .builtin .append, args := #[.tmp 23, .tmp 26], argTypes := #[22, 22] }, _, _, _, none⟩) rfl _ _ 22 rfl 49 i0 (.agg #[.int .u8 0, .int .u32 0]) 2 8 Try.underlying22 hi hz0 hz1 hz2 ?_ ?_ _ _ _ hr1 _ _ ?_ ?_ ?_ ?_ ?_ ?_ ?_); rfl; decide; rfl; rfl; rfl; (simp [Value.oneCell']); (unfold maxLen; omega); omega; intro g5 c5 w5 o5 g5' hl5)
          go_roundw
          case rel => exact ⟨k + 1, by omega, by go_num, by rw [Hts.out, ← List.append_assoc, encI_append]; exact o5, hg1.trans g5'⟩
          case measure => simp [intOf]; omega
        · obtain rfl : k = 64 := by omega
          obtain ⟨g, cap, rfl, hgw, hgl⟩ := own_start hr (by omega)
          have Hr := Lib.hid hr
          clear hr
          go_wp2
          go_ret
          exact ⟨g, cap, rfl, Hr.out, hg.bel, by rcases hg.2 g rfl with h | h; cases h; exact h⟩
end Go.Proofs.Ytofkamnmgpkehab
