import Derived.Test.YtofkamnmgpkehabKnown
namespace Go.Proofs.Ytofkamnmgpkehab
open Go.RowKit
theorem KOwn.arg {W : World} {g a : Nat} {i : Nat × Nat} (h : KOwn W g a i) (x : Nat) : KOwn (W.setCell ⟨g, 3, none⟩ (.int .u32 x)) g x i := (World.ownsRow.stored h 3 (.int .u32 x)).1
theorem KOwn.ins {W : World} {g a : Nat} {i : Nat × Nat} (h : KOwn W g a i) (o x : Nat) : KOwn ((W.setCell ⟨g, 4, none⟩ (.int .u8 o)).setCell ⟨g, 5, none⟩ (.int .u32 x)) g a (o, x) :=
  (World.ownsRow.stored (World.ownsRow.stored h 4 (.int .u8 o)).1 5 (.int .u32 x)).1
theorem KOwn.cells {W : World} {g a : Nat} {i : Nat × Nat} (h : KOwn W g a i) : W.cell? ⟨g, 3, none⟩ = some (.int .u32 a) ∧ W.cell? ⟨g, 4, none⟩ = some (.int .u8 i.1) ∧ W.cell? ⟨g, 5, none⟩ = some (.int .u32 i.2) ∧ (∀ j, W.frozen? ⟨g, j, none⟩ = false) :=
  ⟨h.cellAt 3 (by decide), h.cellAt 4 (by decide), h.cellAt 5 (by decide), fun j => h.frozenAt j⟩
set_option maxRecDepth 100000 in
set_option maxHeartbeats 4000000 in
theorem procsKnown_full (w : World) : Calls Try.prog 4 #[] w fun e w' => e = .returned (.bool true) ∧ Below w.heap.size w w' := by
  have HS := Lib.hid (small_any w)
  have hz39 := zero39
  have h1 := run_b40
  have h2 := run_b40_1
  have h3 := run_b52
  have h4 := run_bs22
  have h5 := run_bs23
  have h6 := run_bs24
  have h7 := run_bs23_1
  have h8 := run_b39_3
  have h9 := neq39
  go_enter Try.func4, Try.ntmps4
  go_wp2_with fail
  refine HS.out.mono ?_
  rintro e w1 ⟨b, B, rfl, hb1, -, -, hf⟩
  have HK := Lib.hid (fun W (hb : Below w1.heap.size w1 W) => (show KP W b from KP.of (by obtain ⟨vp, vo, vt, us, tag, hA⟩ := hf; exact ⟨vp, vo, vt, us, tag, hA.calm hb⟩)))
  have Hb1 := Lib.hid hb1
  clear HS hb1 hf
  go_wp2_with fail
  refine (HK.out _ (Below.refl _ _)).one.mono ?_
  rintro e w2 ⟨rfl, hb2⟩
  have Hb2 := Lib.hid (Bel.al hb2 (.cells #[.int .u32 3, .int .u32 8, .int .u32 4, .int .i64 0] 39))
  clear hb2
  go_wp2_with fail
  refine (HK.out _ Hb2.out).cnt.mono ?_
  rintro e w3 ⟨rfl, hb3⟩
  have Hb3 := Lib.hid (Bel.tr Hb2.out hb3)
  clear hb3 Hb2
  go_wp2_with fail
  refine (HK.out _ Hb3.out).of2.mono ?_
  rintro e w4 ⟨rfl, hb4⟩
  have Hb4 := Lib.hid (Bel.tr Hb3.out hb4)
  clear hb4 Hb3
  go_wp2_with fail
  refine (HK.out _ Hb4.out).of8.mono ?_
  rintro e w5 ⟨rfl, hb5⟩
  have Hb5 := Lib.hid (Bel.tr Hb4.out hb5)
  clear hb5 Hb4
  go_wp2_with fail
  refine (HK.out _ Hb5.out).bg3.mono ?_
  rintro e w6 ⟨rfl, hb6⟩
  have Hb6 := Lib.hid (Bel.tr Hb5.out hb6)
  clear hb6 Hb5
  go_wp2_with fail
  refine (HK.out _ Hb6.out).l56.mono ?_
  rintro e w7 ⟨rfl, hb7⟩
  have Hb7 := Lib.hid (Bel.tr Hb6.out hb7)
  clear hb7 Hb6
  go_wp2_with fail
  refine (HK.out _ Hb7.out).l16.mono ?_
  rintro e w8 ⟨rfl, hb8⟩
  have Hb8 := Lib.hid (Bel.tr Hb7.out hb8)
  clear hb8 Hb7
  go_wp2_with fail
  refine (HK.out _ Hb8.out).l55.mono ?_
  rintro e w9 ⟨rfl, hb9⟩
  have Hb9 := Lib.hid (Bel.tr Hb8.out hb9)
  clear hb9 Hb8
  go_wp2_with fail
  refine (HK.out _ Hb9.out).t1.mono ?_
  rintro e w10 ⟨⟨a1, c1, rfl⟩, hb10⟩
  have Hb10 := Lib.hid (Bel.tr Hb9.out hb10)
  clear hb10 Hb9
  go_wp2_with fail
  refine (HK.out _ Hb10.out).t0.mono ?_
  rintro e w11 ⟨⟨a2, c2, rfl⟩, hb11⟩
  have Hb11 := Lib.hid (Bel.tr Hb1.out (Bel.tr Hb10.out hb11))
  clear hb11 Hb10 HK Hb1
  go_wp2_with fail
  obtain ⟨g, hg⟩ : ∃ g, g = w11.heap.size := ⟨_, rfl⟩
  obtain ⟨W, hW⟩ : ∃ W, W = w11.alloc (.cells #[.int .u8 3, .int .u32 8, .int .u8 6, .int .u32 2, .int .u8 4, .int .u32 8, .int .u8 3, .int .u32 4, .int .u8 8, .int .u32 4, .int .u8 7, .int .u32 0, .int .u8 8, .int .u32 1, .int .u8 4, .int .u32 4] 49) := ⟨_, rfl⟩
  have hs : w11.heap.size + 1 = W.heap.size := by rw [hW]; simp
  have ho : KOwn W g 2 (4, 8) := by rw [hW, hg]; exact ⟨rfl, .inr ⟨w11.heap.size, 8, _, rfl, Nat.zero_le _, World.alloc_heap_new w11 _, Nat.le_refl _, by decide, rfl, rfl⟩⟩
  have HB := Lib.hid (show Below w.heap.size w W from by rw [hW]; exact Bel.al Hb11.out _)
  have Hg := Lib.hid (show w.heap.size ≤ g from by rw [hg]; exact Hb11.out.size)
  rw [← hW, hs, ← hg]
  have HO := Lib.hid ho
  clear hW hs hg ho Hb11
  refine (kf1 HO.out).mono ?_
  rintro e w12 ⟨rfl, hb12⟩
  have HO2 := Lib.hid (own_below HO.out hb12)
  have HB2 := Lib.hid (Bel.tr HB.out hb12)
  clear hb12 HO HB
  go_wp2_with fail
  refine (kf2 HO2.out).mono ?_
  rintro e w13 ⟨rfl, hb13⟩
  have HO3 := Lib.hid (own_below HO2.out hb13)
  have HB3 := Lib.hid (Bel.tr HB2.out hb13)
  clear hb13 HO2 HB2
  go_wp2_with fail
  refine (kf3 HO3.out).mono ?_
  rintro e w14 ⟨rfl, hb14⟩
  have HO4 := Lib.hid (own_below HO3.out hb14)
  have HB4 := Lib.hid (Bel.tr HB3.out hb14)
  clear hb14 HO3 HB3
  obtain ⟨q3, q4, q5, qf⟩ := KOwn.cells HO4.out
  have qf3 := qf 3
  go_wp2_with fail
  have HO5 := Lib.hid (KOwn.arg HO4.out 4)
  have HB5 := Lib.hid (HB4.out.setCell (p := ⟨g, 3, none⟩) Hg.out (.int .u32 4))
  clear q3 q4 q5 qf qf3 HO4 HB4
  refine (kf4 HO5.out).mono ?_
  rintro e w15 ⟨rfl, hb15⟩
  have HO6 := Lib.hid (own_below HO5.out hb15)
  have HB6 := Lib.hid (Bel.tr HB5.out hb15)
  clear hb15 HO5 HB5
  obtain ⟨q3, q4, q5, qf⟩ := KOwn.cells HO6.out
  have qf3 := qf 3
  go_wp2_with fail
  have HO7 := Lib.hid (KOwn.arg HO6.out 0)
  have HB7 := Lib.hid (HB6.out.setCell (p := ⟨g, 3, none⟩) Hg.out (.int .u32 0))
  clear q3 q4 q5 qf qf3 HO6 HB6
  refine (kf5 HO7.out).mono ?_
  rintro e w16 ⟨rfl, hb16⟩
  have HO8 := Lib.hid (own_below HO7.out hb16)
  have HB8 := Lib.hid (Bel.tr HB7.out hb16)
  clear hb16 HO7 HB7
  obtain ⟨q3, q4, q5, qf⟩ := KOwn.cells HO8.out
  have qf3 := qf 3
  have HO9 := Lib.hid (KOwn.arg HO8.out 2)
  have HB9 := Lib.hid (HB8.out.setCell (p := ⟨g, 3, none⟩) Hg.out (.int .u32 2))
  obtain ⟨r3, r4, r5, rf⟩ := KOwn.cells HO9.out
  have rf4 := rf 4
  have rf5 := rf 5
  have HO10 := Lib.hid (KOwn.ins HO9.out 8 1)
  have HB10 := Lib.hid ((HB9.out.setCell (p := ⟨g, 4, none⟩) Hg.out (.int .u8 8)).setCell (p := ⟨g, 5, none⟩) Hg.out (.int .u32 1))
  go_wp2_with fail
  clear q3 q4 q5 qf qf3 r3 r4 r5 rf rf4 rf5 HO8 HB8 HO9 HB9
  refine (kf6 HO10.out).mono ?_
  rintro e w17 ⟨rfl, hb17⟩
  have HO11 := Lib.hid (own_below HO10.out hb17)
  have HB11 := Lib.hid (Bel.tr HB10.out hb17)
  clear hb17 HO10 HB10
  obtain ⟨q3, q4, q5, qf⟩ := KOwn.cells HO11.out
  have qf4 := qf 4
  have qf5 := qf 5
  have HO12 := Lib.hid (KOwn.ins HO11.out 4 4)
  have HB12 := Lib.hid ((HB11.out.setCell (p := ⟨g, 4, none⟩) Hg.out (.int .u8 4)).setCell (p := ⟨g, 5, none⟩) Hg.out (.int .u32 4))
  go_wp2_with fail
  clear q3 q4 q5 qf qf4 qf5 HO11 HB11
  refine (kf7 HO12.out).mono ?_
  rintro e w18 ⟨rfl, hb18⟩
  have HB13 := Lib.hid (Bel.tr HB12.out hb18)
  clear hb18 HO12 HB12
  go_wp2_with fail
  refine (kf8 _).mono ?_
  rintro e w19 ⟨rfl, hb19⟩
  have HB14 := Lib.hid (Bel.tr HB13.out hb19)
  clear hb19 HB13
  go_wp2
  go_ret
  exact ⟨rfl, HB14.out⟩
end Go.Proofs.Ytofkamnmgpkehab
