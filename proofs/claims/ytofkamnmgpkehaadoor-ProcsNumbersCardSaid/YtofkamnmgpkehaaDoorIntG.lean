import Derived.Test.YtofkamnmgpkehaaDoorIntF
/- One call of a set of ints. -/
namespace Go.Proofs.YtofkamnmgpkehaaDoor.I
open Go.RowKit
attribute [local go_sem] Oper.semAt_some
set_option maxRecDepth 100000 in
set_option maxHeartbeats 4000000 in
theorem step_neg {w : World} {B b N : Nat} {vw : Value} {ws l : List Nat} (hA : SetAt w B b vw N ws) (hT : TabAt w) (hi : IsB N ws l) (vl : Value) (ho : w.ownsRow 0 3 1 vl l.length (encN .i64 l)) (On Kind X : Int) (hX : X < 0) (hk0 : 0 ≤ Kind) (hk4 : Kind ≤ 4) :
    Calls Tryd.prog 18 #[.pointer (some ⟨b, 0, none⟩), vl, .int .i64 N, .agg #[.int .i64 On, .int .i64 Kind, .int .i64 X]] w fun e w' => StepTo w B b N vw vl e w' := by
  have hx0 : decide (X < 0) = true := decide_eq_true hX
  have hx1 : decide ((0 : Int) ≤ X) = false := decide_eq_false (by omega)
  have hnb := Bel.new w (.cells #[.int .i64 On, .int .i64 Kind, .int .i64 X] 30)
  have HA := Lib.hid (hA.below hnb)
  have HT := Lib.hid (hT.below hnb)
  have HO := Lib.hid (own_below ho hnb)
  have Hnb := Lib.hid hnb
  have HI := Lib.hid hi
  have HIn := Lib.hid (inints_neg vl l X hX (w.alloc (.cells #[.int .i64 On, .int .i64 Kind, .int .i64 X] 30)) (Reads.own (own_below ho hnb) Nat.one_pos))
  obtain ⟨al, cl, rfl, hlc, hcm, -⟩ := own_sl ho
  have hcb1 : (w.alloc (.cells #[.int .i64 On, .int .i64 Kind, .int .i64 X] 30)).cell? ⟨w.heap.size, 1, none⟩ = some (.int .i64 Kind) := by simp [go_sem]
  have hcb2 : (w.alloc (.cells #[.int .i64 On, .int .i64 Kind, .int .i64 X] 30)).cell? ⟨w.heap.size, 2, none⟩ = some (.int .i64 X) := by simp [go_sem]
  clear hA hT hi ho hnb hcm
  go_enter Tryd.func18, Tryd.ntmps18
  go_wp2_with fail
  refine HIn.out.mono ?_
  rintro e w2 ⟨rfl, hb2⟩
  have HA2 := Lib.hid (HA.out.below hb2)
  have HT2 := Lib.hid (HT.out.below hb2)
  have HO2 := Lib.hid (own_below HO.out hb2)
  have Hb02 := Lib.hid (Bel.tr Hnb.out hb2)
  have hcb1 := (hb2.cell (p := ⟨w.heap.size, 1, none⟩) (by simp)).trans hcb1
  have hcb2 := (hb2.cell (p := ⟨w.heap.size, 2, none⟩) (by simp)).trans hcb2
  clear hb2 HA HT HO HIn
  have hkc : Kind = 0 ∨ Kind = 1 ∨ Kind = 2 ∨ Kind = 3 ∨ Kind = 4 := by omega
  rcases hkc with rfl | rfl | rfl | rfl | rfl
  · have HAdd := Lib.hid (add_neg HA2.out X hX)
    go_wp2_with fail
    refine HAdd.out.mono ?_
    rintro e w3 ⟨rfl, rfl⟩
    go_wp2_with fail
    go_ret2
    exact ⟨_, l, ws, by simp, bgb Hb02.out (grownBy_refl _ _) (Below.refl _ _), HA2.out, HI.out, HO2.out, fun g e => .inl e⟩
  · have HDr := Lib.hid (drop_neg HA2.out X hX)
    go_wp2_with fail
    refine HDr.out.mono ?_
    rintro e w3 ⟨rfl, rfl⟩
    go_wp2_with fail
    go_ret2
    exact ⟨_, l, ws, by simp, bgb Hb02.out (grownBy_refl _ _) (Below.refl _ _), HA2.out, HI.out, HO2.out, fun g e => .inl e⟩
  · have HHas := Lib.hid (has_neg HA2.out X hX)
    go_wp2_with fail
    refine HHas.out.mono ?_
    rintro e w3 ⟨rfl, rfl⟩
    go_wp2_with fail
    go_ret2
    exact ⟨_, l, ws, by simp, bgb Hb02.out (grownBy_refl _ _) (Below.refl _ _), HA2.out, HI.out, HO2.out, fun g e => .inl e⟩
  · have HH := len_any HA2.out
    rw [HI.out.1.len] at HH
    have HLen := Lib.hid HH
    clear HH
    have hbb : ((l.length : Int) == (l.length : Int)) = true := by simp
    go_wp2_with fail
    refine HLen.out.mono ?_
    rintro e w3 ⟨rfl, rfl⟩
    go_wp2_with fail
    go_ret2
    exact ⟨_, l, ws, by simp, bgb Hb02.out (grownBy_refl _ _) (Below.refl _ _), HA2.out, HI.out, HO2.out, fun g e => .inl e⟩
  · have HAll := Lib.hid (allwords_any HA2.out HT2.out HI.out (.slice al l.length cl) (Reads.own HO2.out Nat.one_pos) X)
    go_wp2_with fail
    refine HAll.out.mono ?_
    rintro e w3 ⟨rfl, hb3⟩
    have Hb3 := Lib.hid hb3
    clear hb3 HAll
    go_wp2_with fail
    go_ret2
    exact ⟨_, l, ws, rfl, bgb Hb02.out (grownBy_refl _ _) Hb3.out, HA2.out.below Hb3.out, HI.out, own_below HO2.out Hb3.out, fun g e => .inl e⟩
theorem step_any {w : World} {B b N : Nat} {vw : Value} {ws l : List Nat} (hA : SetAt w B b vw N ws) (hT : TabAt w) (hi : IsB N ws l) (vl : Value) (ho : w.ownsRow 0 3 1 vl l.length (encN .i64 l)) (hap : ∀ g, vl.ownBlock = some g → vw.ownBlock ≠ some g) (On Kind X : Int) (hX : X < 9223372036854775808) (hk0 : 0 ≤ Kind) (hk4 : Kind ≤ 4) :
    Calls Tryd.prog 18 #[.pointer (some ⟨b, 0, none⟩), vl, .int .i64 N, .agg #[.int .i64 On, .int .i64 Kind, .int .i64 X]] w fun e w' => StepTo w B b N vw vl e w' := by
  by_cases h : X < 0
  · exact step_neg hA hT hi vl ho On Kind X h hk0 hk4
  · obtain ⟨x, rfl⟩ : ∃ x : Nat, X = x := ⟨X.toNat, by omega⟩
    exact step_nat hA hT hi vl ho hap On Kind x (by omega) hk0 hk4
end Go.Proofs.YtofkamnmgpkehaaDoor.I
