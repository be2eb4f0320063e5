import Derived.Test.YtofkamnmgpkehabWordKs
import Derived.Test.YtofkamnmgpkehabApartP
/- Lists written over. -/
namespace Go.Proofs.Ytofkamnmgpkehab
open Go.RowKit
theorem grownBy_reflO (w : World) (row : Option Nat) : w.grownBy w row := grownBy_refl _ _
set_option maxRecDepth 100000 in
set_option maxHeartbeats 2000000 in
theorem overWords_any (g n cap : Nat) (xs : List Value) (hn : n ≤ 140737488355328) (w : World) (ho : w.ownsRow 0 32 1 (.slice (some ⟨g, 0, none⟩) n cap) n xs) :
    Calls Try.prog 22 #[.slice (some ⟨g, 0, none⟩) n cap] w fun e w' => (∃ v, e = .returned v) ∧ w.grownBy w' (some g) := by
  have Ho := Lib.hid ho
  clear ho
  go_enter Try.func22, Try.ntmps22
  go_wp2_with fail
  go_loopw [2] (fun i wr => ∃ (k : Nat) (ys : List Value), k ≤ n ∧ i = .int .i64 k ∧ wr.ownsRow 0 32 1 (.slice (some ⟨g, 0, none⟩) n cap) n ys ∧ w.grownBy wr (some g)) (fun i _ => n - (intOf i).toNat)
  case atStart => exact ⟨0, xs, by omega, rfl, Ho.out, grownBy_refl _ _⟩
  case round =>
    obtain ⟨k, ys, hk, rfl, ho, hg⟩ := hrel
    by_cases hlt : k < n
    · have hc1 : wr.cell? ⟨g, k, none⟩ = some (ys.getD k undef) := by
        rw [ho.cellAt k (by omega), List.getD_eq_getElem?_getD, List.getElem?_eq_getElem (by rw [ho.1]; omega)]; rfl
      have hc2 : wr.frozen? ⟨g, k, none⟩ = false := ho.frozenAt k
      have g0 : (0 : Int) ≤ (k : Int) := by omega
      have g1 : (k : Int) < (n : Int) := by omega
      have hm49 := markWords_any (-1) k wr
      have hst := ho.stored k (.int .u32 (mkW (-1) k))
      generalize mkW (-1) k = x at hm49 hst
      have Hm49 := Lib.hid hm49
      have Hst := Lib.hid hst
      clear hm49 hst ho
      go_wp2_with (go_at_call 38; refine Hm49.out.mono ?_; rintro e w' ⟨rfl, rfl⟩)
      go_roundw
      case rel => exact ⟨k + 1, _, by omega, by go_num, Hst.out.1, grownBy_trans hg Hst.out.2 (fun q e => .inl e)⟩
      case measure => simp [intOf]; omega
    · go_wp2
      go_end0
      exact ⟨⟨_, rfl⟩, hg⟩
set_option maxRecDepth 100000 in
set_option maxHeartbeats 2000000 in
theorem overCode_any (g n cap : Nat) (xs : List Value) (hn : n ≤ 140737488355328) (w : World) (ho : w.ownsRow 0 49 2 (.slice (some ⟨g, 0, none⟩) n cap) n xs) :
    Calls Try.prog 21 #[.slice (some ⟨g, 0, none⟩) n cap] w fun e w' => (∃ v, e = .returned v) ∧ w.grownBy w' (some g) := by
  have Ho := Lib.hid ho
  clear ho
  go_enter Try.func21, Try.ntmps21
  go_wp2_with fail
  go_loopw [2] (fun i wr => ∃ (k : Nat) (ys : List Value), k ≤ n ∧ i = .int .i64 k ∧ wr.ownsRow 0 49 2 (.slice (some ⟨g, 0, none⟩) n cap) n ys ∧ w.grownBy wr (some g)) (fun i _ => n - (intOf i).toNat)
  case atStart => exact ⟨0, xs, by omega, rfl, Ho.out, grownBy_refl _ _⟩
  case round =>
    obtain ⟨k, ys, hk, rfl, ho, hg⟩ := hrel
    by_cases hlt : k < n
    · have g0 : (0 : Int) ≤ (k : Int) := by omega
      have g1 : (k : Int) < (n : Int) := by omega
      have Hm := Lib.hid (markCode_any (-1) k wr)
      generalize mkC (-1) k = x at Hm
      obtain ⟨o, y⟩ := x
      simp only at Hm
      have Ho2 := Lib.hid ho
      clear ho
      go_wp2_with fail
      refine Hm.out.mono ?_
      rintro e w1 ⟨rfl, hb1⟩
      have ho := own_below Ho2.out hb1
      have hl := ho.1
      have hc1 : w1.cell? ⟨g, k * 2, none⟩ = some (ys.getD (k * 2) undef) := by
        rw [ho.cellAt (k * 2) (by omega), List.getD_eq_getElem?_getD, List.getElem?_eq_getElem (by rw [ho.1]; omega)]; rfl
      have hc2 : w1.cell? ⟨g, k * 2 + 1, none⟩ = some (ys.getD (k * 2 + 1) undef) := by
        rw [ho.cellAt (k * 2 + 1) (by omega), List.getD_eq_getElem?_getD, List.getElem?_eq_getElem (by rw [ho.1]; omega)]; rfl
      have hf1 : w1.frozen? ⟨g, k * 2, none⟩ = false := ho.frozenAt _
      have hf2 : w1.frozen? ⟨g, k * 2 + 1, none⟩ = false := ho.frozenAt _
      have s1 := ho.stored (k * 2) (.int .u8 o)
      have s2 := s1.1.stored (k * 2 + 1) (.int .u32 y)
      have Hst := Lib.hid (And.intro s2.1 (grownBy_trans (grownBy_trans (grownBy_trans hg (below_grownBy hb1 none) (fun q e => by cases e)) s1.2 (fun q e => .inl e)) s2.2 (fun q e => .inl e)))
      clear ho s1 s2 hb1 hl hg
      go_wp2
      go_roundw
      case rel => exact ⟨k + 1, _, by omega, by go_num, Hst.out.1, Hst.out.2⟩
      case measure => simp [intOf]; omega
    · go_wp2
      go_end0
      exact ⟨⟨_, rfl⟩, hg⟩
end Go.Proofs.Ytofkamnmgpkehab
