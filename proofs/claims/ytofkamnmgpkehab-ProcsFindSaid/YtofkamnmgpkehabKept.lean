import Derived.Test.YtofkamnmgpkehabLent
/- Lists that were handed in are as they were. -/
namespace Go.Proofs.Ytofkamnmgpkehab
open Go.RowKit
theorem getD_left {α : Type} (l m : List α) (d : α) (k : Nat) (h : k < l.length) : (l ++ m).getD k d = l.getD k d := by
  rw [List.getD_eq_getElem?_getD, List.getD_eq_getElem?_getD, List.getElem?_append_left h]
theorem getD_right {α : Type} (l m : List α) (d : α) (k : Nat) : (l ++ m).getD (l.length + k) d = m.getD k d := by
  rw [List.getD_eq_getElem?_getD, List.getD_eq_getElem?_getD, List.getElem?_append_right (by omega), Nat.add_sub_cancel_left]
theorem marksB_at (k : Int) (n m i : Nat) (h : i < m) (d : Nat) : (marksB k n m).getD i d = mkB k (n + i : Nat) := by
  unfold marksB
  simp only [List.getD_eq_getElem?_getD, List.getElem?_map, List.getElem?_range h, Option.map_some, Option.getD_some]
theorem marksC_at (k : Int) (n m i : Nat) (h : i < m) (d : Nat × Nat) : (marksC k n m).getD i d = mkC k (n + i : Nat) := by
  unfold marksC
  simp only [List.getD_eq_getElem?_getD, List.getElem?_map, List.getElem?_range h, Option.map_some, Option.getD_some]
set_option maxRecDepth 100000 in
set_option maxHeartbeats 1000000 in
theorem keptCode_true (vf v : Value) (l : List (Nat × Nat)) (hl : l.length * 8 ≤ 140737488351232) (w : World) (hf : Instrs w vf (l ++ marksC 0 0 64)) (hv : Instrs w v l) :
    Calls Try.prog 19 #[vf, v] w fun e w' => e = .returned (.bool true) ∧ Below w.heap.size w w' := by
  obtain ⟨a, cap, rfl, hlc, hcm, hnil, hp⟩ := hf.opened
  obtain ⟨a', cap', rfl, hlc', hcm', hnil', hp'⟩ := hv.opened
  have hln : (l ++ marksC 0 0 64).length = l.length + 64 := by rw [List.length_append, marksC_length]
  rw [hln] at hp hlc ⊢
  have hlm : l.length ≤ 9223372036854775807 := by omega
  have Hp := Lib.hid (hp (by omega))
  have Hp' := Lib.hid hp'
  clear hp hp' hnil hnil' hv hf hln
  go_enter Try.func19, Try.ntmps19
  go_wp2_with fail
  go_loopw [5] (fun i wr => ∃ k : Nat, k ≤ l.length ∧ i = .int .i64 k ∧ Below w.heap.size w wr) (fun i _ => l.length - (intOf i).toNat)
  case atStart => exact ⟨0, by omega, rfl, Below.refl _ _⟩
  case round =>
    obtain ⟨k, hk, rfl, hb⟩ := hrel
    obtain ⟨b, off, rfl, hbl, hc⟩ := Hp.out
    by_cases hlt : k < l.length
    · obtain ⟨b', off', rfl, hbl', hc'⟩ := Hp'.out (by omega)
      have hq1 : wr.cell? ⟨b, off + k * 2, none⟩ = some (.int .u8 (l.getD k (0, 0)).1) := by rw [← getD_left l (marksC 0 0 64) (0, 0) k hlt]; exact (hb.cell (p := ⟨b, off + k * 2, none⟩) hbl).trans (hc k (by omega)).1
      have hq2 : wr.cell? ⟨b, off + k * 2 + 1, none⟩ = some (.int .u32 (l.getD k (0, 0)).2) := by rw [← getD_left l (marksC 0 0 64) (0, 0) k hlt]; exact (hb.cell (p := ⟨b, off + k * 2 + 1, none⟩) hbl).trans (hc k (by omega)).2
      have hq3 : wr.cell? ⟨b', off' + k * 2, none⟩ = some (.int .u8 (l.getD k (0, 0)).1) := (hb.cell (p := ⟨b', off' + k * 2, none⟩) hbl').trans (hc' k hlt).1
      have hq4 : wr.cell? ⟨b', off' + k * 2 + 1, none⟩ = some (.int .u32 (l.getD k (0, 0)).2) := (hb.cell (p := ⟨b', off' + k * 2 + 1, none⟩) hbl').trans (hc' k hlt).2
      generalize l.getD k (0, 0) = x at hq1 hq2 hq3 hq4
      have h0 : (0 : Int) ≤ (k : Int) := by omega
      have h1 : (k : Int) < (l.length : Int) := by omega
      have h2 : (k : Int) < ((l.length + 64 : Nat) : Int) := by omega
      clear hc hc'
      go_wp2_with fail
      go_quiet (fail)
      go_wp2
      go_roundw
      case rel => exact ⟨k + 1, by omega, by go_num, below_drewN hb _⟩
      case measure => simp [intOf]; omega
    · have : k = l.length := by omega
      subst this
      have Hc := Lib.hid hc
      clear hc hlt hk
      go_wp2_with fail
      go_loopw [6] (fun i wr => ∃ k : Nat, k ≤ 64 ∧ i = .int .i64 k ∧ Below w.heap.size w wr) (fun i _ => 64 - (intOf i).toNat)
      case atStart => exact ⟨0, by omega, rfl, hb⟩
      case round =>
        clear hb
        obtain ⟨k, hk, rfl, hb⟩ := hrel
        by_cases hlt : k < 64
        · have hq1 : wr.cell? ⟨b, off + (l.length + k) * 2, none⟩ = some (.int .u8 (mkC 0 k).1) ∧ wr.cell? ⟨b, off + (l.length + k) * 2 + 1, none⟩ = some (.int .u32 (mkC 0 k).2) := by
            have h := Hc.out (l.length + k) (by omega)
            rw [getD_right, marksC_at _ _ _ _ hlt, Nat.zero_add] at h
            exact ⟨(hb.cell (p := ⟨b, off + (l.length + k) * 2, none⟩) hbl).trans h.1, (hb.cell (p := ⟨b, off + (l.length + k) * 2 + 1, none⟩) hbl).trans h.2⟩
          have h0 : (0 : Int) ≤ (l.length : Int) + (k : Int) := by omega
          have h1 : IntKind.i64.wrap ((l.length : Int) + (k : Int)) = (l.length : Int) + (k : Int) := IntWalk.i64_in _ (by omega)
          have h2 : (l.length : Int) + (k : Int) < ((l.length + 64 : Nat) : Int) := by omega
          have h3 : ((l.length : Int) + (k : Int)).toNat = l.length + k := by omega
          have hm := fun W => markCode_any 0 k W
          generalize mkC 0 k = x at hq1 hm
          obtain ⟨o, x⟩ := x
          simp only at hq1 hm
          have hbr : b < wr.heap.size := Nat.lt_of_lt_of_le hbl hb.size
          have keep : ∀ W W' : World, Below W.heap.size W W' → (W.cell? ⟨b, off + (l.length + k) * 2, none⟩ = some (.int .u8 o) ∧ W.cell? ⟨b, off + (l.length + k) * 2 + 1, none⟩ = some (.int .u32 x) ∧ Below w.heap.size w W) →
              W'.cell? ⟨b, off + (l.length + k) * 2, none⟩ = some (.int .u8 o) ∧ W'.cell? ⟨b, off + (l.length + k) * 2 + 1, none⟩ = some (.int .u32 x) ∧ Below w.heap.size w W' := by
            intro W W' h ⟨e1, e2, e3⟩
            have hbW : b < W.heap.size := Nat.lt_of_lt_of_le hbl e3.size
            exact ⟨(h.cell (p := ⟨b, _, none⟩) hbW).trans e1, (h.cell (p := ⟨b, _, none⟩) hbW).trans e2, Bel.tr e3 h⟩
          have hmm := fun W hS => (hm W).mono fun e w' (hh : _ ∧ _) => And.intro hh.1 (keep W w' hh.2 hS)
          have Hm := Lib.hid hmm
          have h00 := keep wr wr.drew (Below.refl _ _).drew ⟨hq1.1, hq1.2, hb⟩
          have H00 := Lib.hid h00
          clear hm hmm keep h00 hq1
          go_wp2_with fail
          go_region_held3 (fun w' => w'.cell? ⟨b, off + (l.length + k) * 2, none⟩ = some (.int .u8 o) ∧ w'.cell? ⟨b, off + (l.length + k) * 2 + 1, none⟩ = some (.int .u32 x) ∧ Below w.heap.size w w')
            (first | assumption | exact H00.out)
            (first | (go_at_call 37; refine (Hm.out _ ?_).mono ?_; assumption; rintro e w' ⟨rfl, hS⟩))
          clear h1 h3
          have hbb := hS.2.2
          clear hS
          go_wp2
          go_roundw
          case rel => exact ⟨k + 1, by omega, by go_num, hbb⟩
          case measure => simp [intOf]; omega
        · have : k = 64 := by omega
          subst this
          go_wp2
          go_ret
          exact ⟨rfl, hb⟩
end Go.Proofs.Ytofkamnmgpkehab
