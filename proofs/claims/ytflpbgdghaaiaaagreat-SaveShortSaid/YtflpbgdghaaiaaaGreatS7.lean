import Derived.Test.YtflpbgdghaaiaaaGreatS5
import Derived.Test.YtflpbgdghaaiaaaGreatS6
import Derived.Test.YtflpbgdghaaiaaaGreatS3
import Derived.Test.YtflpbgdghaaiaaaGreatS1
import Derived.Test.YtflpbgdghaaiaaaGreatS2
namespace Go.Proofs.YtflpbgdghaaiaaaGreat
open Go.RowKit
set_option linter.unusedVariables false
theorem cells288 {w : World} {g : Nat} {a b c d e : Value} (h : w.heap[g]? = some (.cells #[a, b, c, d, e] 177 (0, 0))) :
    w.cell? ⟨g, 0, none⟩ = some a ∧ w.cell? ⟨g, 1, none⟩ = some b ∧ w.cell? ⟨g, 2, none⟩ = some c ∧ w.cell? ⟨g, 3, none⟩ = some d ∧ w.cell? ⟨g, 4, none⟩ = some e :=
  ⟨cell_of_row w g 0 _ _ _ h, cell_of_row w g 1 _ _ _ h, cell_of_row w g 2 _ _ _ h, cell_of_row w g 3 _ _ _ h, cell_of_row w g 4 _ _ _ h⟩
theorem b51_5 (x y z t u : Int) (w : World) : (Instr.build 32 #[(0, .int .u8 x), (6, .int .u8 y), (1, .int .u32 z), (2, .int .u32 t), (5, .int .u32 u)]).run Tryz.prog w =
    .ok (.agg #[.int .u8 x, .int .u32 z, .int .u32 t, .slice none 0 0, .slice none 0 0, .int .u32 u, .int .u8 y]) w := by kernel_rfl
theorem zeroQ51 (w : World) : (zeroValue 32).run Tryz.prog w = .ok (.agg #[.int .u8 0, .int .u32 0, .int .u32 0, .slice none 0 0, .slice none 0 0, .int .u32 0, .int .u8 0]) w := by kernel_rfl
theorem b392_two (x y : Int) (w : World) : (Instr.build 125 #[(0, .int .i64 x), (1, .int .i64 y)]).run Tryz.prog w = .ok (.agg #[.int .i64 x, .int .i64 y]) w := by kernel_rfl
set_option maxRecDepth 100000 in
set_option maxHeartbeats 8000000 in
theorem taken_any {w : World} {mb : Nat} {m : Img} (h : MAt w mb m) {vb : Value} {b : List Nat} (hv : Bytes w vb b) (hn : b.length ≤ 140737488351232) {f p : Nat} {base : List Nat} (hb : BaseAt w f p base) (hbl : base.length = 2 ^ bitsI m) (hbas : ∀ x ∈ base, x < 256)
    (delta mark : Nat) (hdg : (moOf m).dig = digN m) (hdl : delta < 4294967296) (hmk : mark < 4294967296) :
    Calls Tryz.prog 63 #[.pointer (some ⟨mb, 0, none⟩), vb, baseV delta mark f p] w (TakenPost (moOf m) b base delta mark w) := by
  have hmx := mfollows
  have hz51 := zeroQ51
  have hb392 := b392_two
  have hb51 := b51_5
  have hcf := hb.cf
  obtain ⟨W0, hW0⟩ : ∃ W0, W0 = (w.alloc (.cells #[.int .u32 delta, .int .u32 mark, .func (.func f) #[] #[.pointer (some ⟨p, 0, none⟩)]] 79)).alloc (.cells #[.int .u8 0, .int .u32 0, .int .u32 0, .slice none 0 0, .slice none 0 0, .int .u32 0, .int .u8 0] 32) := ⟨_, rfl⟩
  have hb0 : Below w.heap.size w W0 := by rw [hW0]; exact Bel.al (Bel.new _ _) _
  have HHk := Lib.hid (show W0.heap[w.heap.size]? = some (.cells #[.int .u32 delta, .int .u32 mark, .func (.func f) #[] #[.pointer (some ⟨p, 0, none⟩)]] 79 (0, 0)) from by rw [hW0, Below.heap_alloc _ _ _ (by simp)]; exact heap_alloc_new w _)
  have HHr := Lib.hid (show W0.heap[w.heap.size + 1]? = some (.cells #[.int .u8 0, .int .u32 0, .int .u32 0, .slice none 0 0, .slice none 0 0, .int .u32 0, .int .u8 0] 32 (0, 0)) from by
    rw [hW0]
    have := heap_alloc_new (w.alloc (.cells #[.int .u32 delta, .int .u32 mark, .func (.func f) #[] #[.pointer (some ⟨p, 0, none⟩)]] 79)) (.cells #[.int .u8 0, .int .u32 0, .int .u32 0, .slice none 0 0, .slice none 0 0, .int .u32 0, .int .u8 0] 32)
    simpa using this)
  have hs0 : W0.heap.size = w.heap.size + 2 := by rw [hW0]; simp
  have HLk := Lib.hid (look_any (hv.below hb0) hn)
  unfold LookPost at HLk
  have HB0 := Lib.hid hb0
  have HV0 := Lib.hid (hv.below hb0)
  have HM0 := Lib.hid (h.below hb0)
  have HBs0 := Lib.hid (hb.below hb0)
  obtain ⟨ab, cb, rfl, hnc, hcm, -, hpb⟩ := hv.opened
  unfold TakenPost
  unfold baseV
  rcases look_two b with ⟨l0, l48, l16⟩ | l2
  · obtain ⟨g, off, rfl, hg, hcb⟩ := hpb (by omega)
    have hdg2 : (moOf m).dig = digN m := hdg
    have HE2 := Lib.hid (fun h2 => read_e2 (m := moOf m) (b := b) (base := base) (delta := delta) (mark := mark) l0 h2)
    have HE3 := Lib.hid (fun h2 h3 => read_e3 (m := moOf m) (b := b) (base := base) (delta := delta) (mark := mark) l0 h2 h3)
    have HE4 := Lib.hid (fun h2 h3 h4 => read_e4 (m := moOf m) (b := b) (base := base) (delta := delta) (mark := mark) l0 h2 h3 h4)
    have HCb := Lib.hid hcb
    have HE5 := Lib.hid (fun h2 h3 h4 h5 => read_e5 (m := moOf m) (b := b) (base := base) (delta := delta) (mark := mark) l0 h2 h3 h4 h5)
    have hl48 : 48 ≤ b.length := l48
    have HTk := Lib.hid (fun (W : World) (q n30 b28 b29 n32 n36 n40 : Nat) (hbW : Below w.heap.size w W) (hrq : w.heap.size + 1 < q) (hkW : w.heap.size < W.heap.size) (hwq : q < W.heap.size)
      (hK : W.heap[w.heap.size]? = some (.cells #[.int .u32 delta, .int .u32 mark, .func (.func f) #[] #[.pointer (some ⟨p, 0, none⟩)]] 79 (0, 0))) (hR : W.heap[w.heap.size + 1]? = some (.cells zst 32 (0, 0)))
      (hQ : W.heap[q]? = some (.cells #[.int .u8 b28, .int .u32 n32, .int .u32 n36, .slice none 0 0, .slice none 0 0, .int .u32 n40, .int .u8 b29] 32 (0, 0)))
      (e28 : b.getD 28 0 = b28) (e29 : b.getD 29 0 = b29) (e32 : numAt 4 b 32 = n32) (e36 : numAt 4 b 36 = n36) (e40 : numAt 4 b 40 = n40) (e30 : numAt 2 b 30 = n30)
      (h2 : numAt 8 b 8 = digN m) (h3 : numAt 4 b 16 = 1 ↔ delta = 1) (h4 : numAt 4 b 20 = mark) =>
      (⟨hbW, h, hv, hb, hbl, hbas, l48, hn, hdg2, hdl, hmk, Nat.le_succ _, hrq, by omega, by omega, hkW, hwq, hK, hR, hQ, e28, e29, e32, e36, e40, e30, l0, by rw [hdg2]; exact h2, h3, h4⟩ : TkA w W mb w.heap.size (w.heap.size + 1) q g off m cb b f p base delta mark n30 b28 b29 n32 n36 n40))
    rw [hdg2] at HE2 HE3 HE4 HE5
    clear hb0 hv h hb hpb hcb hdg hdg2
    go_enter Tryz.func63, Tryz.ntmps63
    go_wp2_with fail
    rw [← hW0]
    clear hW0
    refine HLk.out.mono ?_
    rintro e w1 ⟨hb1, h1 | ⟨-, h1⟩⟩
    · omega
    subst h1
    unfold savedV
    obtain ⟨W2, hW2⟩ : ∃ W2, W2 = w1.alloc (.cells #[.int .u64 (numAt 8 b 8), .bool (decide (numAt 4 b 16 = 1)), .int .u32 (numAt 4 b 20), .int .u8 (b.getD 28 0), .int .u32 (numAt 4 b 32)] 177) := ⟨_, rfl⟩
    have hb2 : Below w1.heap.size w1 W2 := by rw [hW2]; exact Bel.new _ _
    have HH2 := Lib.hid (show W2.heap[w1.heap.size]? = some (.cells #[.int .u64 (numAt 8 b 8), .bool (decide (numAt 4 b 16 = 1)), .int .u32 (numAt 4 b 20), .int .u8 (b.getD 28 0), .int .u32 (numAt 4 b 32)] 177 (0, 0)) from by rw [hW2]; exact heap_alloc_new _ _)
    have HB02 := Lib.hid (Bel.tr hb1 hb2)
    have HBw2 := Lib.hid (Bel.tr HB0.out HB02.out)
    have HV2 := Lib.hid (HV0.out.below HB02.out)
    have HM2 := Lib.hid (HM0.out.below HB02.out)
    have HK2 := Lib.hid (((HB02.out).block w.heap.size (by omega)).trans HHk.out)
    have HR2 := Lib.hid (((HB02.out).block (w.heap.size + 1) (by omega)).trans HHr.out)
    have hk0 := cell_of_row W2 w.heap.size 0 _ _ _ HK2.out
    have hk1 := cell_of_row W2 w.heap.size 1 _ _ _ HK2.out
    have hk2 := cell_of_row W2 w.heap.size 2 _ _ _ HK2.out
    obtain ⟨q0, q1, q2, q3, q4⟩ := cells288 HH2.out
    have HDg := Lib.hid ((HM2.out.below (Below.refl _ _).drew).digest.mono (fun e w' (h : _ ∧ _) => And.intro h.1 h.2.symm))
    have HYes := Lib.hid (fun (p e : Int) (W : World) => ask_yes p e W)
    have HNo := Lib.hid (fun (p e : Int) (W : World) => ask_no p e W)
    generalize hn8 : numAt 8 b 8 = n8 at *
    generalize hn20 : numAt 4 b 20 = n20 at *
    generalize hn32 : numAt 4 b 32 = n32 at *
    generalize hb28 : b.getD 28 0 = b28 at *
    have Hb28 := Lib.hid hb28
    have Hn32 := Lib.hid hn32
    clear hb1 hb2 hs0 hn8 hn20 hn32 hb28
    generalize hdm : digN m = dm at *
    go_wp2_with fail
    rw [← hW2]
    clear hW2
    by_cases t8 : n8 = dm
    · have HT8 := Lib.hid t8
      have hq8 : ((n8 : Int) == (dm : Int)) = true := by rw [t8]; simp
      clear t8
      refine wp_region_still_tail 6 hmx (by kernel_rfl) ?_
      simp only [List.take_succ_cons, List.take_zero, List.drop_succ_cons, List.drop_zero]
      repeat still_step
      still_call (HDg.out)
      repeat still_step
      refine wpStill_nil ?_
      change wpList _ _ _ _ _ W2.drew
      go_wp2_with fail
      refine (HYes.out _ _ _).mono ?_
      rintro e w3 ⟨rfl, rfl⟩
      generalize hkk : decide (numAt 4 b 16 = 1) = kk at *
      have Hkk := Lib.hid hkk
      clear hkk
      by_cases t16 : (numAt 4 b 16 = 1 ↔ delta = 1)
      · have HT16 := Lib.hid t16
        have hq16 : (kk == (((delta : Nat) : Int) == 1)) = true := by
          rw [← Hkk.out]
          by_cases c : delta = 1
          · rw [decide_eq_true (t16.2 c), c]; rfl
          · rw [decide_eq_false (fun h => c (t16.1 h)), show (((delta : Nat) : Int) == 1) = false from int_beq_ne c]; rfl
        clear t16
        by_cases t20 : n20 = mark
        · have HT20 := Lib.hid t20
          have hq20 : (((n20 : Nat) : Int) == ((mark : Nat) : Int)) = true := by rw [t20]; simp
          clear t20
          go_wp2_with fail
          refine (HYes.out _ _ _).mono ?_
          rintro e w3 ⟨rfl, rfl⟩
          go_wp2_with fail
          refine (HYes.out _ _ _).mono ?_
          rintro e w3 ⟨rfl, rfl⟩
          go_wp2_with fail
          obtain ⟨W3, hW3⟩ : ∃ W3, W3 = W2.drew := ⟨_, rfl⟩
          rw [← hW3]
          have hb3 : Below W2.heap.size W2 W3 := by rw [hW3]; exact (Below.refl _ _).drew
          have HBw3 := Lib.hid (Bel.tr HBw2.out hb3)
          have HV3 := Lib.hid (HV2.out.below hb3)
          have HM3 := Lib.hid (HM2.out.below hb3)
          have HH3 := Lib.hid ((hb3.block w1.heap.size (World.block_lt_of_cell? _ _ q0)).trans HH2.out)
          have HK3 := Lib.hid ((hb3.block w.heap.size (World.block_lt_of_cell? _ _ hk0)).trans HK2.out)
          have HR3 := Lib.hid ((hb3.block (w.heap.size + 1) (World.block_lt_of_cell? _ _ (cell_of_row W2 (w.heap.size + 1) 0 _ _ _ HR2.out))).trans HR2.out)
          clear hW3 hb3 q0 q1 q2 q3 q4 hk0 hk1 hk2 HDg
          obtain ⟨q0, q1, q2, q3, q4⟩ := cells288 HH3.out
          have e29 := (HBw3.out.cell (p := ⟨g, off + 29, none⟩) hg).trans (HCb.out 29 (by omega))
          have H30 := Lib.hid (at16_any _ b 30 (by omega) W3 HV3.out)
          have H36 := Lib.hid ((word32_any _ b 36 (by omega) W3.drew (HV3.out.below (Below.refl _ _).drew)).mono (fun e w' (h : _ ∧ _) => And.intro h.1 h.2.symm))
          have H40 := Lib.hid ((word32_any _ b 40 (by omega) W3.drew (HV3.out.below (Below.refl _ _).drew)).mono (fun e w' (h : _ ∧ _) => And.intro h.1 h.2.symm))
          have hi29 : ((29 : Nat) : Int) < (b.length : Int) := by omega
          have hi29' : (29 : Int) < (b.length : Int) := by omega
          generalize hn30 : numAt 2 b 30 = n30 at *
          generalize hn36 : numAt 4 b 36 = n36 at *
          generalize hn40 : numAt 4 b 40 = n40 at *
          generalize hb29 : b.getD 29 0 = b29 at *
          have Hn30 := Lib.hid hn30
          have Hn36 := Lib.hid hn36
          have Hn40 := Lib.hid hn40
          have Hb29 := Lib.hid hb29
          have hn30b : n30 < 65536 := by rw [← hn30]; exact numAt_bd 2 b HV3.out.2 30
          clear hn30 hn36 hn40 hb29
          refine H30.out.mono ?_
          rintro e w3 ⟨rfl, rfl⟩
          go_wp2_with fail
          have hl3 := World.block_lt_of_cell? _ _ q3
          have hlg := World.block_lt_of_cell? _ _ e29
          have HKp := Lib.hid (fun (W W' : World) (hb : Below W.heap.size W W') (hS : (W.cell? ⟨w1.heap.size, 3, none⟩ = some (.int .u8 b28) ∧ W.cell? ⟨w1.heap.size, 4, none⟩ = some (.int .u32 n32) ∧ W.cell? ⟨g, off + 29, none⟩ = some (.int .u8 b29)) ∧ Below W3.heap.size W3 W) =>
            (⟨⟨((Bel.tr hS.2 hb).cell (p := ⟨w1.heap.size, 3, none⟩) hl3).trans q3, ((Bel.tr hS.2 hb).cell (p := ⟨w1.heap.size, 4, none⟩) hl3).trans q4, ((Bel.tr hS.2 hb).cell (p := ⟨g, off + 29, none⟩) hlg).trans e29⟩, Bel.tr hS.2 hb⟩ : (W'.cell? ⟨w1.heap.size, 3, none⟩ = some (.int .u8 b28) ∧ W'.cell? ⟨w1.heap.size, 4, none⟩ = some (.int .u32 n32) ∧ W'.cell? ⟨g, off + 29, none⟩ = some (.int .u8 b29)) ∧ Below W3.heap.size W3 W'))
          have H00 := Lib.hid (HKp.out W3 W3.drew ((Below.refl _ _).drew) ⟨⟨q3, q4, e29⟩, Below.refl _ _⟩)
          have H01 := Lib.hid (fun o => HKp.out W3 ((W3.alloc o).drew) ((Bel.new _ _).drew) ⟨⟨q3, q4, e29⟩, Below.refl _ _⟩)
          have HW36 := Lib.hid (fun W (hW : Below W3.heap.size W3 W) => word32_any _ b 36 (by omega) W (HV3.out.below hW))
          have HW40 := Lib.hid (fun W (hW : Below W3.heap.size W3 W) => word32_any _ b 40 (by omega) W (HV3.out.below hW))
          rw [Hn36.out] at HW36
          rw [Hn40.out] at HW40
          rw [show (((36 : Nat)) : Int) = 36 from rfl] at HW36
          rw [show (((40 : Nat)) : Int) = 40 from rfl] at HW40
          clear H36 H40
          go_region_held3 (fun W => (W.cell? ⟨w1.heap.size, 3, none⟩ = some (.int .u8 b28) ∧ W.cell? ⟨w1.heap.size, 4, none⟩ = some (.int .u32 n32) ∧ W.cell? ⟨g, off + 29, none⟩ = some (.int .u8 b29)) ∧ Below W3.heap.size W3 W)
            (first | assumption | exact H00.out | exact HKp.out _ _ (Bel.new _ _) (by assumption) | exact H01.out _)
            (first
              | (go_at_call 103; with_reducible refine (HW36.out _ ?_).mono ?_; exact (by assumption : (_ ∧ _) ∧ Below W3.heap.size W3 _).2; rintro e wN ⟨rfl, rfl⟩)
              | (go_at_call 103; with_reducible refine (HW40.out _ ?_).mono ?_; exact (by assumption : (_ ∧ _) ∧ Below W3.heap.size W3 _).2; rintro e wN ⟨rfl, rfl⟩))
          all_goals
            have hb4 : Below W3.heap.size W3 (W3.alloc (.cells #[.int .u8 b28, .int .u32 n32, .int .u32 n36, .slice none 0 0, .slice none 0 0, .int .u32 n40, .int .u8 b29] 32)).drew := (Bel.new _ _).drew
            have hl0 : w.heap.size < W3.heap.size := World.block_lt_of_cell? W3 ⟨w.heap.size, 0, none⟩ (cell_of_row W3 w.heap.size 0 _ _ _ HK3.out)
            have hl1 : w.heap.size + 1 < W3.heap.size := World.block_lt_of_cell? W3 ⟨w.heap.size + 1, 0, none⟩ (cell_of_row W3 (w.heap.size + 1) 0 _ _ _ HR3.out)
            have HA := Lib.hid (HTk.out _ W3.heap.size n30 b28 b29 n32 n36 n40 (Bel.tr HBw3.out hb4) hl1 (Nat.lt_of_lt_of_le hl0 hb4.size) (by show _ < (W3.alloc _).heap.size; simp) ((hb4.block _ hl0).trans HK3.out) ((hb4.block _ hl1).trans HR3.out) (heap_alloc_new W3 _)
              rfl rfl rfl rfl rfl rfl HT8.out HT16.out HT20.out)
            clear hb4
            iterate 2 go_step
            refine taken_a2 ?_ HA.out
            rfl
        · have HT20 := Lib.hid t20
          have hq20 := int_beq_ne t20
          clear t20
          go_wp2_with fail
          refine (HYes.out _ _ _).mono ?_
          rintro e w3 ⟨rfl, rfl⟩
          go_wp2_with fail
          refine (HNo.out _ _ _).mono ?_
          rintro e w3 ⟨rfl, rfl⟩
          exact ⟨rfl, HBw2.out.drew, .inl ⟨_, _, HE4.out HT8.out HT16.out HT20.out, rfl⟩⟩
      · have HT16 := Lib.hid t16
        have hq16 : (kk == (((delta : Nat) : Int) == 1)) = false := by
          rw [← Hkk.out]
          by_cases c : delta = 1
          · by_cases c2 : numAt 4 b 16 = 1
            · exact absurd ⟨fun _ => c, fun _ => c2⟩ t16
            · rw [decide_eq_false c2, c]; rfl
          · by_cases c2 : numAt 4 b 16 = 1
            · rw [decide_eq_true c2, show (((delta : Nat) : Int) == 1) = false from int_beq_ne c]; rfl
            · exact absurd ⟨fun h => absurd h c2, fun h => absurd h c⟩ t16
        clear t16
        go_wp2_with fail
        refine (HNo.out _ _ _).mono ?_
        rintro e w3 ⟨rfl, rfl⟩
        exact ⟨rfl, HBw2.out.drew, .inl ⟨_, _, HE3.out HT8.out HT16.out, rfl⟩⟩
    · have HT8 := Lib.hid t8
      have hq8 := int_beq_ne t8
      clear t8
      refine wp_region_still_tail 6 hmx (by kernel_rfl) ?_
      simp only [List.take_succ_cons, List.take_zero, List.drop_succ_cons, List.drop_zero]
      repeat still_step
      still_call (HDg.out)
      repeat still_step
      refine wpStill_nil ?_
      change wpList _ _ _ _ _ W2.drew
      go_wp2_with fail
      refine (HNo.out _ _ _).mono ?_
      rintro e w3 ⟨rfl, rfl⟩
      exact ⟨rfl, HBw2.out.drew, .inl ⟨_, _, HE2.out HT8.out, rfl⟩⟩
  · have HE := Lib.hid (read_e1 (m := moOf m) (delta := delta) (mark := mark) (base := base) l2)
    clear hb0 hv h hb hpb
    go_enter Tryz.func63, Tryz.ntmps63
    go_wp2_with fail
    rw [← hW0]
    clear hW0
    refine HLk.out.mono ?_
    rintro e w1 ⟨hb1, h1 | ⟨h1, -⟩⟩
    · obtain ⟨-, rfl⟩ := h1
      have HB1 := Lib.hid (Bel.tr HB0.out hb1)
      clear hb1
      unfold savedV
      go_wp2_with fail
      exact ⟨rfl, Bel.al HB1.out _, .inl ⟨_, _, HE.out, rfl⟩⟩
    · omega
set_option linter.unusedSimpArgs false
set_option maxRecDepth 100000 in
set_option maxHeartbeats 8000000 in
theorem read_any {w : World} {mb : Nat} {m : Img} (h : MAt w mb m) {vb : Value} {b : List Nat} (hv : Bytes w vb b) (hn : b.length ≤ 140737488351232) {f p : Nat} {base : List Nat} (hb : BaseAt w f p base) (hbl : base.length = 2 ^ bitsI m) (hbas : ∀ x ∈ base, x < 256)
    (delta mark : Nat) (hdg : (moOf m).dig = digN m) (hdl : delta < 4294967296) (hmk : mark < 4294967296) :
    Calls Tryz.prog 33 #[.pointer (some ⟨mb, 0, none⟩), vb, baseV delta mark f p] w (ReadPost (moOf m) b base delta mark w) := by
  have hmf : ∀ (fn : Fn) (first cap : Array Value) (w : World), (Instr.makeFunc fn first cap).run Tryz.prog w = .ok (.func fn first cap) w := fun _ _ _ _ => rfl
  have hz51 := zeroQ51
  obtain ⟨W0, hW0⟩ : ∃ W0, W0 = w.alloc (.cells #[.int .u32 delta, .int .u32 mark, .func (.func f) #[] #[.pointer (some ⟨p, 0, none⟩)]] 79) := ⟨_, rfl⟩
  have hb0 : Below w.heap.size w W0 := by rw [hW0]; exact Bel.new _ _
  have hh0 : W0.heap[w.heap.size]? = some (.cells #[.int .u32 delta, .int .u32 mark, .func (.func f) #[] #[.pointer (some ⟨p, 0, none⟩)]] 79 (0, 0)) := by rw [hW0]; exact heap_alloc_new _ _
  have hs0 : W0.heap.size = w.heap.size + 1 := by rw [hW0]; simp
  obtain ⟨W1, hW1⟩ : ∃ W1, W1 = W0.alloc (.cells #[.int .u8 0, .int .u32 0, .int .u32 0, .slice none 0 0, .slice none 0 0, .int .u32 0, .int .u8 0] 32) := ⟨_, rfl⟩
  have hb1 : Below W0.heap.size W0 W1 := by rw [hW1]; exact Bel.new _ _
  have hh1 : W1.heap[w.heap.size + 1]? = some (.cells zst 32 (0, 0)) := by rw [hW1, ← hs0]; exact heap_alloc_new _ _
  have hs1 : W1.heap.size = w.heap.size + 2 := by rw [hW1]; simp [hs0]
  obtain ⟨W2, hW2⟩ : ∃ W2, W2 = W1.alloc (.cells #[.int .i64 0] 3) := ⟨_, rfl⟩
  have hb2 : Below W1.heap.size W1 W2 := by rw [hW2]; exact Bel.new _ _
  have hh2 : W2.heap[w.heap.size + 2]? = some (.cells #[.int .i64 0] 3 (0, 0)) := by rw [hW2, ← hs1]; exact heap_alloc_new _ _
  have hs2 : W2.heap.size = w.heap.size + 3 := by rw [hW2]; simp [hs1]
  obtain ⟨W3, hW3⟩ : ∃ W3, W3 = W2.alloc (.cells #[.int .i64 0] 39) := ⟨_, rfl⟩
  have hb3 : Below W2.heap.size W2 W3 := by rw [hW3]; exact Bel.new _ _
  have hh3 : W3.heap[w.heap.size + 3]? = some (.cells #[.int .i64 0] 39 (0, 0)) := by rw [hW3, ← hs2]; exact heap_alloc_new _ _
  have hs3 : W3.heap.size = w.heap.size + 4 := by rw [hW3]; simp [hs2]
  have HB := Lib.hid (Bel.tr (Bel.tr (Bel.tr hb0 hb1) hb2) hb3)
  have H0 := Lib.hid ((hb3.block _ (by omega)).trans ((hb2.block _ (by omega)).trans ((hb1.block _ (by omega)).trans hh0)))
  have H1 := Lib.hid ((hb3.block _ (by omega)).trans ((hb2.block _ (by omega)).trans hh1))
  have H2 := Lib.hid ((hb3.block _ (by omega)).trans hh2)
  have H3 := Lib.hid hh3
  have HS := Lib.hid hs3
  have HT := Lib.hid (taken_any (h.below HB.out) (hv.below HB.out) hn (hb.below HB.out) hbl hbas delta mark hdg hdl hmk)
  obtain ⟨a1, c1, rfl, -⟩ := hv.opened
  have k0 := cell_of_row W3 w.heap.size 0 _ _ _ H0.out
  have k1 := cell_of_row W3 w.heap.size 1 _ _ _ H0.out
  have k2 := cell_of_row W3 w.heap.size 2 _ _ _ H0.out
  clear hb0 hb1 hb2 hb3 hh0 hh1 hh2 hh3 hs0 hs1 hs2 hs3 h hv hb
  unfold baseV at HT ⊢
  unfold ReadPost
  go_enter_defers Tryz.func33, Tryz.ntmps33
  go_wp2_with fail
  rw [← hW0, ← hW1, ← hW2, ← hW3]
  clear hW0 hW1 hW2 hW3 k0 k1 k2
  refine HT.out.mono ?_
  rintro e w1 ⟨hb1, ⟨pl, er, hE, rfl⟩ | ⟨t, vo, vd, hE, rfl, hO⟩⟩
  · have hs := HS.out
    have r0 := (hb1.block (w.heap.size + 1) (by omega)).trans H1.out
    have r1 := (hb1.block (w.heap.size + 2) (by omega)).trans H2.out
    have r2 := (hb1.block (w.heap.size + 3) (by omega)).trans H3.out
    have HBw := Bel.tr HB.out hb1
    have hCt := rcatch_panicking (B := w.heap.size) (p0 := w.heap.size + 1) (p1 := w.heap.size + 2) (p2 := w.heap.size + 3) (by omega) (by omega) (by omega) (by omega) (by omega) (by omega) pl er w1 zst rfl _ _ r0 r1 r2
    refine leaves_cons (f := 62) (args := #[.pointer (some ⟨w.heap.size + 1, 0, none⟩), .pointer (some ⟨w.heap.size + 2, 0, none⟩), .pointer (some ⟨w.heap.size + 3, 0, none⟩)]) (by simp) (by simp [go_sem]) ?_
    refine hCt.mono ?_
    rintro e u' w2 ⟨rfl, rfl, hb2, q0, q1, q2⟩
    have c1 := cell_of_row w2 (w.heap.size + 2) 0 _ _ _ q1
    have c2 := cell_of_row w2 (w.heap.size + 3) 0 _ _ _ q2
    show Leaves Tryz.prog Tryz.f33 _ _ [] .returning w2
    refine ⟨.tuple #[.agg zst, .int .i64 pl, .int .i64 er], ?_, HBw.trans hb2, .inl ⟨pl, er, hE, rfl⟩⟩
    refine results_cell3 Tryz.results33 _ _ (w.heap.size + 1) 32 zst (0, 0) _ ?_ q0 Tryz.underlying32 rfl rc_i51 (.int .i64 pl) (.int .i64 er) ⟨w.heap.size + 2, 0, none⟩ ⟨w.heap.size + 3, 0, none⟩ ?_ ?_ (by simp [go_sem, c1]) (by simp [go_sem, c2])
    all_goals rfl
  · have hs := HS.out
    have r0 := (hb1.block (w.heap.size + 1) (by omega)).trans H1.out
    have r1 := (hb1.block (w.heap.size + 2) (by omega)).trans H2.out
    have r2 := (hb1.block (w.heap.size + 3) (by omega)).trans H3.out
    have HBw := Lib.hid (Bel.tr HB.out hb1)
    obtain ⟨ao, co, rfl, -⟩ := own_sl hO.o
    obtain ⟨ad, cd, rfl, -⟩ := own_sl hO.d
    have HO := Lib.hid hO
    have HE := Lib.hid hE
    have R0 := Lib.hid r0
    have R1 : Hid (∀ cs, (w1.setRow (w.heap.size + 1) cs).heap[w.heap.size + 2]? = some (.cells #[.int .i64 0] 3 (0, 0))) := Lib.hid (fun cs => (setRow_other _ _ _ _ (by omega)).trans r1)
    have R2 : Hid (∀ cs cs2, ((w1.setRow (w.heap.size + 1) cs).setRow (w.heap.size + 2) cs2).heap[w.heap.size + 3]? = some (.cells #[.int .i64 0] 39 (0, 0))) := Lib.hid (fun cs cs2 => (setRow_other _ _ _ _ (by omega)).trans ((setRow_other _ _ _ _ (by omega)).trans r2))
    clear hO hE r0 r1 r2 hb1 HT hs
    unfold stV
    go_wp2_with (first
      | ((with_reducible refine wpList_store_row (o := ⟨none, .store 32 (.tmp 6) (.tmp 13), _, _, _, none⟩) rfl 32 _ _ rfl (w.heap.size + 1) #[.int .u8 t.life, .int .u32 t.pc, .int .u32 t.sp, .slice ao t.ops.length co, .slice ad t.data.length cd, .int .u32 t.value, .int .u8 t.fault] ?_ ?_ 32 _ R0.out ?_ ?_ ?_ ?_); rfl; rfl; exact rc_i51; rfl; (simp [Value.oneCell']))
      | ((with_reducible refine wpList_store_oneTo (o := ⟨none, .store 3 (.tmp 7) (.const (.int .i64 0)), _, _, _, none⟩) rfl 3 _ _ rfl rfl (w.heap.size + 2) (.int .i64 0) ?_ ?_ ?_ 3 _ (R1.out _) ?_ ?_); rfl; rfl; rfl; exact rc_i3)
      | ((with_reducible refine wpList_store_oneTo (o := ⟨none, .store 39 (.tmp 8) (.const (.int .i64 0)), _, _, _, none⟩) rfl 39 _ _ rfl rfl (w.heap.size + 3) (.int .i64 0) ?_ ?_ ?_ 39 _ (R2.out _ _) ?_ ?_); rfl; rfl; rfl; exact rc_i32))
    refine leaves_cons (f := 62) (args := #[.pointer (some ⟨w.heap.size + 1, 0, none⟩), .pointer (some ⟨w.heap.size + 2, 0, none⟩), .pointer (some ⟨w.heap.size + 3, 0, none⟩)]) (by simp) (by simp [go_sem]) ?_
    refine (rcatch_idle _ _ _ _).mono ?_
    rintro e u' w2 ⟨rfl, rfl, rfl⟩
    show Leaves Tryz.prog Tryz.f33 _ _ [] .returning _
    have hs := HS.out
    have g0 := setRow_heap w1 (w.heap.size + 1) _ #[.int .u8 t.life, .int .u32 t.pc, .int .u32 t.sp, .slice ao t.ops.length co, .slice ad t.data.length cd, .int .u32 t.value, .int .u8 t.fault] _ _ R0.out
    generalize hcs : (#[.int .u8 t.life, .int .u32 t.pc, .int .u32 t.sp, .slice ao t.ops.length co, .slice ad t.data.length cd, .int .u32 t.value, .int .u8 t.fault] : Array Value) = cs at *
    have g1 := setRow_heap _ (w.heap.size + 2) _ #[.int .i64 0] _ _ (R1.out cs)
    have g2 := setRow_heap _ (w.heap.size + 3) _ #[.int .i64 0] _ _ (R2.out cs #[.int .i64 0])
    have g1' := (setRow_other _ (w.heap.size + 3) (w.heap.size + 2) #[.int .i64 0] (by omega)).trans g1
    have g0' := (setRow_other _ (w.heap.size + 3) (w.heap.size + 1) #[.int .i64 0] (by omega)).trans ((setRow_other _ (w.heap.size + 2) (w.heap.size + 1) #[.int .i64 0] (by omega)).trans g0)
    have c1 := cell_of_row _ (w.heap.size + 2) 0 _ _ _ g1'
    have c2 := cell_of_row _ (w.heap.size + 3) 0 _ _ _ g2
    refine ⟨.tuple #[.agg cs, .int .i64 0, .int .i64 0], ?_, below_setRow (below_setRow (below_setRow HBw.out _ (by omega) _) _ (by omega) _) _ (by omega) _, .inr ⟨t, .slice ao t.ops.length co, .slice ad t.data.length cd, HE.out, by rw [← hcs]; rfl, (((HO.out.row (by omega)).row (by omega)).row (by omega)).down (by omega)⟩⟩
    refine results_cell3 Tryz.results33 _ _ (w.heap.size + 1) 32 cs (0, 0) _ ?_ g0' Tryz.underlying32 rfl (by rw [← hcs]; exact rc_i51) (.int .i64 0) (.int .i64 0) ⟨w.heap.size + 2, 0, none⟩ ⟨w.heap.size + 3, 0, none⟩ ?_ ?_ (by simp [go_sem, c1]) (by simp [go_sem, c2])
    all_goals rfl
theorem bytes_drop {w : World} {g off c : Nat} {l : List Nat} (h : Bytes w (.slice (some ⟨g, off, none⟩) l.length c) l) (i : Nat) (hi : i < l.length) : Bytes w (.slice (some ⟨g, off + i, none⟩) (l.length - i) (c - i)) (l.drop i) := by
  obtain ⟨⟨a, cap, hv, hl, hn, hm, ha, hp⟩, hlt⟩ := h
  cases hv
  have hll := encN_length .u8 l
  obtain ⟨b, o, e, hb, hc⟩ := hp (by omega)
  cases e
  refine ⟨⟨some ⟨g, off + i, none⟩, c - i, by rw [List.length_drop], by rw [encN_length, List.length_drop, Nat.mul_one], by rw [List.length_drop]; omega, by unfold maxLen at hm ⊢; omega, (fun h => by cases h), fun _ => ⟨g, off + i, rfl, hb, fun j hj => ?_⟩⟩, fun x hx => hlt x (List.mem_of_mem_drop hx)⟩
  rw [encN_length, List.length_drop] at hj
  have h1 := hc (i + j) (by rw [encN_length]; omega)
  rw [Nat.add_assoc, h1, encN_at _ l (i + j) (by omega), encN_at _ (l.drop i) j (by rw [List.length_drop]; omega)]
  simp [List.getD_eq_getElem?_getD, List.getElem?_drop]
theorem save_lt {m : Mo} {s : St} (hs : s.Small) (hl : m.fresh.length = s.data.length) : ∀ x ∈ saveN m s, x < 256 := fun x hx => file_lt (dig := m.dig) (delta := 0) (mark := 0) hs hl x hx
theorem save_body {m : Mo} {s : St} : (saveN m s).drop 28 = bodyN s m.fresh := by
  unfold saveN fileN
  exact List.drop_left' (headN_length ..)
theorem save_length (m : Mo) (s : St) : 48 ≤ (saveN m s).length := by
  have := bodyN_ge s m.fresh
  unfold saveN
  rw [fileN_length]
  omega
def MarkPost (m : Img) (s : St) (w : World) (e : Ending) (w' : World) : Prop :=
  Below w.heap.size w w' ∧ (((moOf m).fits s = false ∧ e = .returned (.tuple #[.int .u32 0, .int .i64 3])) ∨
    ((moOf m).fits s = true ∧ e = .returned (.tuple #[.int .u32 (markS (moOf m) s), .int .i64 0])))
set_option maxRecDepth 100000 in
set_option maxHeartbeats 4000000 in
theorem mark_any {w : World} {mb : Nat} {m : Img} (h : MAt w mb m) {vo vd : Value} {s : St} (hs : StAt w vo vd s) (hn : s.ops.length ≤ 140737488355328) :
    Calls Tryz.prog 58 #[.pointer (some ⟨mb, 0, none⟩), stV vo vd s] w (MarkPost m s w) := by
  obtain ⟨ao, co, rfl, -⟩ := hs.o.1
  obtain ⟨ad, cd, rfl, -⟩ := hs.d.1
  obtain ⟨W0, hW0⟩ : ∃ W0, W0 = w.alloc (.cells #[.int .u8 s.life, .int .u32 s.pc, .int .u32 s.sp, .slice ao s.ops.length co, .slice ad s.data.length cd, .int .u32 s.value, .int .u8 s.fault] 32) := ⟨_, rfl⟩
  have hb0 : Below w.heap.size w W0 := by rw [hW0]; exact Bel.new _ _
  have HSv := Lib.hid (save_any (h.below hb0) (hs.below hb0) hn)
  unfold SavePost stV at HSv
  have HB0 := Lib.hid hb0
  have hk := h.k
  have HLt := Lib.hid (fun (hf : (moOf m).fits s = true) => save_lt (m := moOf m) hs.sm ((fresh_len hk).trans (show s.data.length = 2 ^ bitsI m from fits_len hf).symm))
  have HLn := Lib.hid (save_length (moOf m) s)
  have HBd := Lib.hid (save_body (m := moOf m) (s := s))
  have HMk := Lib.hid (show markS (moOf m) s = sumN (bodyN s (moOf m).fresh) from rfl)
  unfold MarkPost
  generalize markS (moOf m) s = mk at *
  generalize bodyN s (moOf m).fresh = bd at *
  generalize saveN (moOf m) s = sv at *
  clear h hs hb0 hk
  unfold stV
  go_enter Tryz.func58, Tryz.ntmps58
  go_wp2_with fail
  rw [← hW0]
  clear hW0
  refine HSv.out.mono ?_
  rintro e w1 ⟨hb1, h1 | ⟨hf, v, h1, ho⟩⟩
  · obtain ⟨hf, rfl⟩ := h1
    have HB1 := Lib.hid (Bel.tr HB0.out hb1)
    have HF := Lib.hid hf
    clear hb1 hf
    go_wp2_with fail
    go_ret2
    exact ⟨HB1.out, .inl ⟨HF.out, rfl⟩⟩
  · subst h1
    have HB1 := Lib.hid (Bel.tr HB0.out hb1)
    have HF := Lib.hid hf
    have hby := own_bytes ho (HLt.out hf)
    obtain ⟨g, c, rfl, hg, -⟩ := own_start ho (by have := HLn.out; omega)
    have hnc : sv.length ≤ c := by
      obtain ⟨gq, cq, eq, hq1, -⟩ := own_form (own_base ho) (by have := HLn.out; omega)
      cases eq
      exact hq1
    have HD := Lib.hid (bytes_drop (off := 0) hby 28 (by have := HLn.out; omega))
    rw [HBd.out, Nat.zero_add] at HD
    have HS := Lib.hid (sum_bytes _ bd w1 HD.out)
    rw [← HMk.out] at HS
    have h28 : (28 : Int) ≤ ((sv.length : Nat) : Int) := by have := HLn.out; omega
    have hc28 : ¬ c = 28 := by have := HLn.out; omega
    clear hb1 hf hby ho HLt HD
    go_wp2_with fail
    with_reducible refine HS.out.mono ?_
    rintro e w2 ⟨rfl, rfl⟩
    go_wp2_with fail
    go_ret2
    exact ⟨HB1.out, .inr ⟨HF.out, rfl⟩⟩
theorem StB.belowB {w w' : World} {B q : Nat} {vo vd : Value} {s : St} (h : StB w q vo vd s) (hq : q < B) (hb : Below B w w') : StB w' q vo vd s :=
  ⟨(hb.cell (p := ⟨q, 0, none⟩) hq).trans h.c0, (hb.cell (p := ⟨q, 1, none⟩) hq).trans h.c1, (hb.cell (p := ⟨q, 2, none⟩) hq).trans h.c2, (hb.cell (p := ⟨q, 3, none⟩) hq).trans h.c3,
    (hb.cell (p := ⟨q, 4, none⟩) hq).trans h.c4, (hb.cell (p := ⟨q, 5, none⟩) hq).trans h.c5, (hb.cell (p := ⟨q, 6, none⟩) hq).trans h.c6⟩
set_option maxRecDepth 100000 in
set_option maxHeartbeats 4000000 in
theorem from_any {w : World} {mb : Nat} {m : Img} (h : MAt w mb m) {vo vd : Value} {s : St} (hs : StAt w vo vd s) (hn : s.ops.length ≤ 140737488355328) (hf : (moOf m).fits s = true) :
    Calls Tryz.prog 30 #[.pointer (some ⟨mb, 0, none⟩), stV vo vd s] w fun e w' =>
      ∃ p, e = .returned (.agg #[.int .u32 1, .int .u32 (markS (moOf m) s), .func (.func 59) #[] #[.pointer (some ⟨p, 0, none⟩)]]) ∧ BaseAt w' 59 p s.data ∧ Below w.heap.size w w' := by
  have hmf : ∀ (fn : Fn) (first cap : Array Value) (w : World), (Instr.makeFunc fn first cap).run Tryz.prog w = .ok (.func fn first cap) w := fun _ _ _ _ => rfl
  have hz := zero270
  have hb3 := b270_3
  obtain ⟨ao, co, rfl, -⟩ := hs.o.1
  obtain ⟨ad, cd, rfl, -⟩ := hs.d.1
  obtain ⟨W0, hW0⟩ : ∃ W0, W0 = (w.alloc (.cells #[.int .u8 s.life, .int .u32 s.pc, .int .u32 s.sp, .slice ao s.ops.length co, .slice ad s.data.length cd, .int .u32 s.value, .int .u8 s.fault] 32)).alloc (.cells #[.int .u32 0, .int .u32 0, .nilFunc] 79) := ⟨_, rfl⟩
  have hb0 : Below w.heap.size w W0 := by rw [hW0]; exact Bel.al (Bel.new _ _) _
  have HS0 := Lib.hid (StB.row (s := s) (by rw [hW0, Below.heap_alloc _ _ _ (by simp)]; exact heap_alloc_new w _) : StB W0 w.heap.size (.slice ao s.ops.length co) (.slice ad s.data.length cd) s)
  have HH0 : Hid (W0.heap[w.heap.size + 1]? = some (.cells #[.int .u32 0, .int .u32 0, .nilFunc] 79 (0, 0))) := Lib.hid (by
    rw [hW0]
    have := heap_alloc_new (w.alloc (.cells #[.int .u8 s.life, .int .u32 s.pc, .int .u32 s.sp, .slice ao s.ops.length co, .slice ad s.data.length cd, .int .u32 s.value, .int .u8 s.fault] 32)) (.cells #[.int .u32 0, .int .u32 0, .nilFunc] 79)
    simpa using this)
  have hs0 : w.heap.size + 1 < W0.heap.size := by rw [hW0]; simp
  have HMk := Lib.hid (mark_any (h.below hb0) (hs.below hb0) hn)
  unfold MarkPost stV at HMk
  have HB0 := Lib.hid hb0
  have HSt := Lib.hid hs
  have HF := Lib.hid hf
  have hsz := size270 (.int .u32 1) (.int .u32 (markS (moOf m) s)) (.func (.func 59) #[] #[.pointer (some ⟨w.heap.size, 0, none⟩)])
  generalize markS (moOf m) s = mk at *
  clear h hs hb0 hf
  unfold stV
  go_enter Tryz.func30, Tryz.ntmps30
  go_wp2_with fail
  rw [← hW0]
  clear hW0
  refine HMk.out.mono ?_
  rintro e w1 ⟨hb1, h1 | ⟨-, h1⟩⟩
  · exact absurd (h1.1.symm.trans HF.out) (by decide)
  · subst h1
    have HB1 := Lib.hid (Bel.tr HB0.out hb1)
    have HS1 := Lib.hid (HS0.out.below hb1)
    have HH1 := Lib.hid ((hb1.block (w.heap.size + 1) hs0).trans HH0.out)
    have HBs : Hid (∀ cs : Array Value, BaseAt (w1.setRow (w.heap.size + 1) cs) 59 w.heap.size s.data) := Lib.hid (fun cs => by
      have hb2 : Below (w.heap.size + 1) w1 (w1.setRow (w.heap.size + 1) cs) := below_setRow (Below.refl _ _) _ (Nat.le_refl _) _
      exact fromBase (HS1.out.belowB (Nat.lt_succ_self _) hb2) (HSt.out.below (below_setRow HB1.out _ (by omega) _)))
    clear hb1
    go_wp2_with (((with_reducible refine wpList_store_row (o := ⟨none, .store 79 (.tmp 4) (.tmp 15), _, _, _, none⟩) rfl 79 _ _ rfl (w.heap.size + 1) #[.int .u32 1, .int .u32 mk, .func (.func 59) #[] #[.pointer (some ⟨w.heap.size, 0, none⟩)]] ?_ ?_ 79 _ HH1.out ?_ ?_ ?_ ?_); rfl; rfl; exact hsz; rfl; (simp [Value.oneCell'])))
    refine bodyPost_ret (v := .agg #[.int .u32 1, .int .u32 mk, .func (.func 59) #[] #[.pointer (some ⟨w.heap.size, 0, none⟩)]]) (results_cell_one Tryz.results30 _ _ (w.heap.size + 1) 79 _ (0, 0) _ rfl (setRow_heap _ _ _ _ _ _ HH1.out) Tryz.underlying79 rfl hsz) rfl ⟨_, rfl, HBs.out _, below_setRow HB1.out _ (by omega) _⟩
theorem bs87_2 (l pc sp v ft l2 pc2 sp2 v2 ft2 : Int) (ao ad bo bd : Option Addr) (no co nd cd no2 eo nd2 ed : Nat) (w : World) : (Instr.buildSlice 115 2 #[(0, .agg #[.int .u8 l, .int .u32 pc, .int .u32 sp, .slice ao no co, .slice ad nd cd, .int .u32 v, .int .u8 ft]), (1, .agg #[.int .u8 l2, .int .u32 pc2, .int .u32 sp2, .slice bo no2 eo, .slice bd nd2 ed, .int .u32 v2, .int .u8 ft2])]).run Tryz.prog w =
    .ok (.slice (some ⟨w.heap.size, 0, none⟩) 2 2) (w.alloc (.cells #[.int .u8 l, .int .u32 pc, .int .u32 sp, .slice ao no co, .slice ad nd cd, .int .u32 v, .int .u8 ft, .int .u8 l2, .int .u32 pc2, .int .u32 sp2, .slice bo no2 eo, .slice bd nd2 ed, .int .u32 v2, .int .u8 ft2] 32)) := by kernel_rfl
def DeltaPost (m : Img) (s t : St) (w : World) (e : Ending) (w' : World) : Prop :=
  Below w.heap.size w w' ∧ ((((moOf m).fits s && (moOf m).fits t) = false ∧ e = .returned (.tuple #[.slice none 0 0, .int .i64 3])) ∨
    ((moOf m).fits s = true ∧ (moOf m).fits t = true ∧ ∃ v, e = .returned (.tuple #[v, .int .i64 0]) ∧ w'.ownsRow w.heap.size 5 1 v (deltaN (moOf m) s t).length (encN .u8 (deltaN (moOf m) s t))))
set_option maxRecDepth 100000 in
set_option maxHeartbeats 8000000 in
theorem delta_any {w : World} {mb : Nat} {m : Img} (h : MAt w mb m) {vo vd uo ud : Value} {s t : St} (hs : StAt w vo vd s) (ht : StAt w uo ud t) (hn : s.ops.length ≤ 140737488355328) (hn2 : t.ops.length ≤ 140737488355328) :
    Calls Tryz.prog 11 #[.pointer (some ⟨mb, 0, none⟩), stV vo vd s, stV uo ud t] w (DeltaPost m s t w) := by
  have hbs := bs87_2
  obtain ⟨ao, co, rfl, -⟩ := hs.o.1
  obtain ⟨ad, cd, rfl, -⟩ := hs.d.1
  obtain ⟨bo, eo, rfl, -⟩ := ht.o.1
  obtain ⟨bd, ed, rfl, -⟩ := ht.d.1
  obtain ⟨W0, hW0⟩ : ∃ W0, W0 = (w.alloc (.cells #[.int .u8 s.life, .int .u32 s.pc, .int .u32 s.sp, .slice ao s.ops.length co, .slice ad s.data.length cd, .int .u32 s.value, .int .u8 s.fault] 32)).alloc (.cells #[.int .u8 t.life, .int .u32 t.pc, .int .u32 t.sp, .slice bo t.ops.length eo, .slice bd t.data.length ed, .int .u32 t.value, .int .u8 t.fault] 32) := ⟨_, rfl⟩
  have hb0 : Below w.heap.size w W0 := by rw [hW0]; exact Bel.al (Bel.new _ _) _
  have hs0 : w.heap.size + 2 = W0.heap.size := by rw [hW0]; simp
  have HS0 := Lib.hid (StB.row (s := s) (by rw [hW0, Below.heap_alloc _ _ _ (by simp)]; exact heap_alloc_new w _) : StB W0 w.heap.size (.slice ao s.ops.length co) (.slice ad s.data.length cd) s)
  have HT0 := Lib.hid (StB.row (s := t) (by
    rw [hW0]
    have := heap_alloc_new (w.alloc (.cells #[.int .u8 s.life, .int .u32 s.pc, .int .u32 s.sp, .slice ao s.ops.length co, .slice ad s.data.length cd, .int .u32 s.value, .int .u8 s.fault] 32)) (.cells #[.int .u8 t.life, .int .u32 t.pc, .int .u32 t.sp, .slice bo t.ops.length eo, .slice bd t.data.length ed, .int .u32 t.value, .int .u8 t.fault] 32)
    simpa using this) : StB W0 (w.heap.size + 1) (.slice bo t.ops.length eo) (.slice bd t.data.length ed) t)
  obtain ⟨W1, hW1⟩ : ∃ W1, W1 = W0.alloc (.cells #[.int .u8 s.life, .int .u32 s.pc, .int .u32 s.sp, .slice ao s.ops.length co, .slice ad s.data.length cd, .int .u32 s.value, .int .u8 s.fault, .int .u8 t.life, .int .u32 t.pc, .int .u32 t.sp, .slice bo t.ops.length eo, .slice bd t.data.length ed, .int .u32 t.value, .int .u8 t.fault] 32) := ⟨_, rfl⟩
  have hb1 : Below W0.heap.size W0 W1 := by rw [hW1]; exact Bel.new _ _
  have hrow : W1.heap[w.heap.size + 2]? = some (.cells #[.int .u8 s.life, .int .u32 s.pc, .int .u32 s.sp, .slice ao s.ops.length co, .slice ad s.data.length cd, .int .u32 s.value, .int .u8 s.fault, .int .u8 t.life, .int .u32 t.pc, .int .u32 t.sp, .slice bo t.ops.length eo, .slice bd t.data.length ed, .int .u32 t.value, .int .u8 t.fault] 32 (0, 0)) := by rw [hW1, hs0]; exact heap_alloc_new W0 _
  have HQ1 : Hid (StB W1 (w.heap.size + 2) (.slice ao s.ops.length co) (.slice ad s.data.length cd) s) := Lib.hid ⟨cell_of_row W1 (w.heap.size + 2) 0 _ _ _ hrow, cell_of_row W1 (w.heap.size + 2) 1 _ _ _ hrow, cell_of_row W1 (w.heap.size + 2) 2 _ _ _ hrow, cell_of_row W1 (w.heap.size + 2) 3 _ _ _ hrow, cell_of_row W1 (w.heap.size + 2) 4 _ _ _ hrow, cell_of_row W1 (w.heap.size + 2) 5 _ _ _ hrow, cell_of_row W1 (w.heap.size + 2) 6 _ _ _ hrow⟩
  have HQ2 : Hid (StC W1 (w.heap.size + 2) 7 (.slice bo t.ops.length eo) (.slice bd t.data.length ed) t) := Lib.hid ⟨cell_of_row W1 (w.heap.size + 2) 7 _ _ _ hrow, cell_of_row W1 (w.heap.size + 2) 8 _ _ _ hrow, cell_of_row W1 (w.heap.size + 2) 9 _ _ _ hrow, cell_of_row W1 (w.heap.size + 2) 10 _ _ _ hrow, cell_of_row W1 (w.heap.size + 2) 11 _ _ _ hrow, cell_of_row W1 (w.heap.size + 2) 12 _ _ _ hrow, cell_of_row W1 (w.heap.size + 2) 13 _ _ _ hrow⟩
  have HMy := Lib.hid (may2_any ((h.below hb0).below hb1) HQ1.out HQ2.out ((hs.below hb0).below hb1) ((ht.below hb0).below hb1) hn hn2)
  have HB1 := Lib.hid (Bel.tr hb0 hb1)
  have HB01 := Lib.hid hb1
  have HM1 := Lib.hid ((h.below hb0).below hb1)
  have HSt1 := Lib.hid ((hs.below hb0).below hb1)
  have HTt1 := Lib.hid ((ht.below hb0).below hb1)
  obtain ⟨d0, d1, d2, d3, d4, d5, d6⟩ := HS0.out
  obtain ⟨e0, e1, e2, e3, e4, e5, e6⟩ := HT0.out
  have hk := h.k
  unfold DeltaPost
  have HF := Lib.hid (fun (x : St) (hf : (moOf m).fits x = true) => And.intro (show x.data.length = 2 ^ bitsI m from fits_len hf) (fits_ops (moOk hk) hf))
  have hp16 := (Mo.Ok.sizes (moOk hk)).2.1
  have HP16 := Lib.hid (show 2 ^ bitsI m ≤ 65536 from hp16)
  have HDg := Lib.hid (digN_lt hk.k)
  have HDl := Lib.hid (show deltaN (moOf m) s t = fileN (digN m) 1 (markS (moOf m) s) s.data t from rfl)
  have HMl := Lib.hid (show markS (moOf m) s < 4294967296 from sumN_lt _)
  clear hp16 h hs ht hb0 hb1 hk hs0 hrow
  unfold stV
  by_cases hf : ((moOf m).fits s && (moOf m).fits t) = true
  · have HFt := Lib.hid (Bool.and_eq_true_iff.1 hf)
    rw [if_pos hf] at HMy
    clear hf
    go_enter Tryz.func11, Tryz.ntmps11
    go_wp2_with fail
    rw [← hW0, ← hW1]
    clear hW0 hW1
    with_reducible refine HMy.out.mono ?_
    rintro e w3 ⟨rfl, hb2⟩
    have HB2 := Lib.hid (Bel.tr HB1.out hb2)
    have HS2 := Lib.hid (HS0.out.below (Bel.tr HB01.out hb2))
    have HT2 := Lib.hid (HT0.out.below (Bel.tr HB01.out hb2))
    have HM2 := Lib.hid (HM1.out.below hb2)
    have HSt2 := Lib.hid (HSt1.out.below hb2)
    have HTt2 := Lib.hid (HTt1.out.below hb2)
    clear hb2 d0 d1 d2 d3 d4 d5 d6 e0 e1 e2 e3 e4 e5 e6
    obtain ⟨d0, d1, d2, d3, d4, d5, d6⟩ := HS2.out
    obtain ⟨e0, e1, e2, e3, e4, e5, e6⟩ := HT2.out
    have HFr := Lib.hid (fun W (hW : Below w3.heap.size w3 W) => from_any (HM2.out.below hW) (HSt2.out.below hW) hn HFt.out.1)
    unfold stV at HFr
    have HKp := Lib.hid (fun (W W' : World) (hb : Below W.heap.size W W') (hS : ((W.cell? ⟨w.heap.size, 0, none⟩ = some (.int .u8 s.life) ∧ W.cell? ⟨w.heap.size, 1, none⟩ = some (.int .u32 s.pc) ∧ W.cell? ⟨w.heap.size, 2, none⟩ = some (.int .u32 s.sp) ∧ W.cell? ⟨w.heap.size, 3, none⟩ = some (.slice ao s.ops.length co) ∧ W.cell? ⟨w.heap.size, 4, none⟩ = some (.slice ad s.data.length cd) ∧ W.cell? ⟨w.heap.size, 5, none⟩ = some (.int .u32 s.value) ∧ W.cell? ⟨w.heap.size, 6, none⟩ = some (.int .u8 s.fault)) ∧ (W.cell? ⟨w.heap.size + 1, 0, none⟩ = some (.int .u8 t.life) ∧ W.cell? ⟨w.heap.size + 1, 1, none⟩ = some (.int .u32 t.pc) ∧ W.cell? ⟨w.heap.size + 1, 2, none⟩ = some (.int .u32 t.sp) ∧ W.cell? ⟨w.heap.size + 1, 3, none⟩ = some (.slice bo t.ops.length eo) ∧ W.cell? ⟨w.heap.size + 1, 4, none⟩ = some (.slice bd t.data.length ed) ∧ W.cell? ⟨w.heap.size + 1, 5, none⟩ = some (.int .u32 t.value) ∧ W.cell? ⟨w.heap.size + 1, 6, none⟩ = some (.int .u8 t.fault))) ∧ Below w3.heap.size w3 W) =>
      (⟨(let q := HS2.out.below (Bel.tr hS.2 hb); let r := HT2.out.below (Bel.tr hS.2 hb); ⟨⟨q.c0, q.c1, q.c2, q.c3, q.c4, q.c5, q.c6⟩, ⟨r.c0, r.c1, r.c2, r.c3, r.c4, r.c5, r.c6⟩⟩), Bel.tr hS.2 hb⟩ : ((W'.cell? ⟨w.heap.size, 0, none⟩ = some (.int .u8 s.life) ∧ W'.cell? ⟨w.heap.size, 1, none⟩ = some (.int .u32 s.pc) ∧ W'.cell? ⟨w.heap.size, 2, none⟩ = some (.int .u32 s.sp) ∧ W'.cell? ⟨w.heap.size, 3, none⟩ = some (.slice ao s.ops.length co) ∧ W'.cell? ⟨w.heap.size, 4, none⟩ = some (.slice ad s.data.length cd) ∧ W'.cell? ⟨w.heap.size, 5, none⟩ = some (.int .u32 s.value) ∧ W'.cell? ⟨w.heap.size, 6, none⟩ = some (.int .u8 s.fault)) ∧ (W'.cell? ⟨w.heap.size + 1, 0, none⟩ = some (.int .u8 t.life) ∧ W'.cell? ⟨w.heap.size + 1, 1, none⟩ = some (.int .u32 t.pc) ∧ W'.cell? ⟨w.heap.size + 1, 2, none⟩ = some (.int .u32 t.sp) ∧ W'.cell? ⟨w.heap.size + 1, 3, none⟩ = some (.slice bo t.ops.length eo) ∧ W'.cell? ⟨w.heap.size + 1, 4, none⟩ = some (.slice bd t.data.length ed) ∧ W'.cell? ⟨w.heap.size + 1, 5, none⟩ = some (.int .u32 t.value) ∧ W'.cell? ⟨w.heap.size + 1, 6, none⟩ = some (.int .u8 t.fault))) ∧ Below w3.heap.size w3 W'))
    have H00 := Lib.hid (HKp.out w3 w3.drew ((Below.refl _ _).drew) ⟨⟨⟨d0, d1, d2, d3, d4, d5, d6⟩, ⟨e0, e1, e2, e3, e4, e5, e6⟩⟩, Below.refl _ _⟩)
    have HFi := Lib.hid (fun (W : World) (hW : Below w3.heap.size w3 W) (p : Nat) (hbs : BaseAt W 59 p s.data) => file_any (HM2.out.below hW) (HTt2.out.below hW) (by have := (HF.out t HFt.out.2).2; omega) hbs (by rw [(HF.out s HFt.out.1).1, (HF.out t HFt.out.2).1]) (by rw [(HF.out s HFt.out.1).1]; exact HP16.out) (digN m) 1 (markS (moOf m) s) rfl HDg.out (by decide) HMl.out)
    unfold stV baseV at HFi
    rw [← HDl.out] at HFi
    generalize markS (moOf m) s = mk at *
    go_wp2_with fail
    first | (go_region_held3 (fun W => ((W.cell? ⟨w.heap.size, 0, none⟩ = some (.int .u8 s.life) ∧ W.cell? ⟨w.heap.size, 1, none⟩ = some (.int .u32 s.pc) ∧ W.cell? ⟨w.heap.size, 2, none⟩ = some (.int .u32 s.sp) ∧ W.cell? ⟨w.heap.size, 3, none⟩ = some (.slice ao s.ops.length co) ∧ W.cell? ⟨w.heap.size, 4, none⟩ = some (.slice ad s.data.length cd) ∧ W.cell? ⟨w.heap.size, 5, none⟩ = some (.int .u32 s.value) ∧ W.cell? ⟨w.heap.size, 6, none⟩ = some (.int .u8 s.fault)) ∧ (W.cell? ⟨w.heap.size + 1, 0, none⟩ = some (.int .u8 t.life) ∧ W.cell? ⟨w.heap.size + 1, 1, none⟩ = some (.int .u32 t.pc) ∧ W.cell? ⟨w.heap.size + 1, 2, none⟩ = some (.int .u32 t.sp) ∧ W.cell? ⟨w.heap.size + 1, 3, none⟩ = some (.slice bo t.ops.length eo) ∧ W.cell? ⟨w.heap.size + 1, 4, none⟩ = some (.slice bd t.data.length ed) ∧ W.cell? ⟨w.heap.size + 1, 5, none⟩ = some (.int .u32 t.value) ∧ W.cell? ⟨w.heap.size + 1, 6, none⟩ = some (.int .u8 t.fault))) ∧ Below w3.heap.size w3 W)
      (first | assumption | exact H00.out | exact HKp.out _ _ hbF (by assumption) | exact HKp.out _ _ hbW (by assumption))
      (first
        | (go_at_call 30; refine (HFr.out _ ?_).mono ?_; exact (by assumption : (_ ∧ _) ∧ Below w3.heap.size w3 _).2; rintro e wW ⟨p, rfl, hbase, hbW⟩)
        | (go_at_call 29; refine (HFi.out _ ?_ p hbase).mono ?_; exact (by assumption : (_ ∧ _) ∧ Below w3.heap.size w3 _).2; rintro e wF ⟨v, rfl, hoF, hbF⟩; obtain ⟨av, cv, rfl, -⟩ := own_sl hoF))) | fail "held"
    have HBw := Lib.hid (by assumption : (_ ∧ _) ∧ Below w3.heap.size w3 wF).2
    have HOF := Lib.hid (own_downT hoF (show w.heap.size ≤ wW.heap.size by have := HB2.out.size; have h9 : w3.heap.size ≤ wW.heap.size := hbW.size; omega))
    clear hoF hbF hbW hbase
    go_wp2_with fail
    go_ret2
    exact ⟨Bel.tr HB2.out HBw.out, .inr ⟨HFt.out.1, HFt.out.2, _, rfl, HOF.out⟩⟩
  · have hf' : ((moOf m).fits s && (moOf m).fits t) = false := by simpa using hf
    have HFt := Lib.hid hf'
    rw [if_neg hf] at HMy
    clear hf hf'
    go_enter Tryz.func11, Tryz.ntmps11
    go_wp2_with fail
    rw [← hW0, ← hW1]
    clear hW0 hW1
    with_reducible refine HMy.out.mono ?_
    rintro e w3 ⟨rfl, hb2⟩
    have HB2 := Lib.hid (Bel.tr HB1.out hb2)
    clear hb2 d0 d1 d2 d3 d4 d5 d6 e0 e1 e2 e3 e4 e5 e6
    go_wp2_with fail
    go_ret2
    exact ⟨HB2.out, .inl ⟨HFt.out, rfl⟩⟩
set_option maxRecDepth 100000 in
set_option maxHeartbeats 8000000 in
theorem load_any {w : World} {mb : Nat} {m : Img} (h : MAt w mb m) {vb : Value} {b : List Nat} (hv : Bytes w vb b) (hn : b.length ≤ 140737488351232) (hdt : ∀ x ∈ m.data, x < 256) :
    Calls Tryz.prog 14 #[.pointer (some ⟨mb, 0, none⟩), vb] w (ReadPost (moOf m) b (moOf m).fresh 0 0 w) := by
  have hz51 := zeroQ51
  obtain ⟨W0, hW0⟩ : ∃ W0, W0 = w.alloc (.cells #[.int .u8 0, .int .u32 0, .int .u32 0, .slice none 0 0, .slice none 0 0, .int .u32 0, .int .u8 0] 32) := ⟨_, rfl⟩
  have hb0 : Below w.heap.size w W0 := by rw [hW0]; exact Bel.new _ _
  have HH := Lib.hid (show W0.heap[w.heap.size]? = some (.cells zst 32 (0, 0)) from by rw [hW0]; exact heap_alloc_new _ _)
  have HB := Lib.hid hb0
  have hs0 : W0.heap.size = w.heap.size + 1 := by rw [hW0]; simp
  have HS := Lib.hid hs0
  have HMd := Lib.hid ((h.below hb0).made)
  have HWh := Lib.hid (whole_any (h.below hb0))
  have HM := Lib.hid (h.below hb0)
  have HV := Lib.hid (hv.below hb0)
  have HFl := Lib.hid (fresh_len h.k)
  have HFx := Lib.hid (fresh_lt h.k hdt)
  obtain ⟨a1, c1, rfl, -⟩ := hv.opened
  unfold ReadPost
  clear h hv hb0 hs0
  go_enter Tryz.func14, Tryz.ntmps14
  go_wp2_with fail
  rw [← hW0]
  clear hW0
  refine HMd.out.mono ?_
  rintro e w1 ⟨rfl, rfl⟩
  go_wp2_with fail
  refine HWh.out.mono ?_
  rintro e w1 ⟨p, rfl, hbs, hb1⟩
  have HRd := Lib.hid (read_any (HM.out.below hb1) (HV.out.below hb1) hn hbs HFl.out HFx.out 0 0 rfl (by decide) (by decide))
  have HB1 := Lib.hid hb1
  unfold baseV at HRd
  rw [show (((0 : Nat)) : Int) = 0 from rfl] at HRd
  clear hbs hb1
  go_wp2_with fail
  refine HRd.out.mono ?_
  rintro e w2 ⟨hb2, ⟨pl, er, hE, rfl⟩ | ⟨t, vo, vd, hE, rfl, hO⟩⟩
  · have HB2 := Lib.hid (Bel.tr HB1.out hb2)
    have HBw := Lib.hid (Bel.tr HB.out HB2.out)
    have HR := Lib.hid ((HB2.out.block w.heap.size (by have := HS.out; omega)).trans HH.out)
    have HE := Lib.hid hE
    clear hE hb2
    go_wp2_with (((with_reducible refine wpList_store_row (o := ⟨none, .store 32 (.tmp 4) (.tmp 16), _, _, _, none⟩) rfl 32 _ _ rfl w.heap.size zst ?_ ?_ 32 _ HR.out ?_ ?_ ?_ ?_); rfl; rfl; exact rc_i51; rfl; (simp [zst, Value.oneCell'])))
    refine bodyPost_ret (v := .tuple #[.agg zst, .int .i64 pl, .int .i64 er]) (results_cell_tmp2 Tryz.results14 _ _ w.heap.size 32 zst (0, 0) _ rfl (setRow_heap _ _ _ _ _ _ HR.out) Tryz.underlying32 rfl rc_i51 _ _ rfl rfl) rfl ?_
    exact ⟨below_setRow HBw.out _ (Nat.le_refl _) _, .inl ⟨pl, er, HE.out, rfl⟩⟩
  · have HB2 := Lib.hid (Bel.tr HB1.out hb2)
    have HBw := Lib.hid (Bel.tr HB.out HB2.out)
    have HR := Lib.hid ((HB2.out.block w.heap.size (by have := HS.out; omega)).trans HH.out)
    have HE := Lib.hid hE
    have hs9 : w.heap.size + 1 ≤ w1.heap.size := by rw [← HS.out]; exact HB1.out.size
    have HO := Lib.hid (hO.down hs9)
    obtain ⟨ao, co, rfl, -⟩ := own_sl hO.o
    obtain ⟨ad, cd, rfl, -⟩ := own_sl hO.d
    clear hE hb2 hO hs9
    unfold stV
    go_wp2_with (((with_reducible refine wpList_store_row (o := ⟨none, .store 32 (.tmp 4) (.tmp 16), _, _, _, none⟩) rfl 32 _ _ rfl w.heap.size #[.int .u8 t.life, .int .u32 t.pc, .int .u32 t.sp, .slice ao t.ops.length co, .slice ad t.data.length cd, .int .u32 t.value, .int .u8 t.fault] ?_ ?_ 32 _ HR.out ?_ ?_ ?_ ?_); rfl; rfl; exact rc_i51; rfl; (simp [Value.oneCell'])))
    refine bodyPost_ret (v := .tuple #[stV (.slice ao t.ops.length co) (.slice ad t.data.length cd) t, .int .i64 0, .int .i64 0]) (results_cell_tmp2 Tryz.results14 _ _ w.heap.size 32 #[.int .u8 t.life, .int .u32 t.pc, .int .u32 t.sp, .slice ao t.ops.length co, .slice ad t.data.length cd, .int .u32 t.value, .int .u8 t.fault] (0, 0) _ rfl (setRow_heap _ _ _ _ _ _ HR.out) Tryz.underlying32 rfl rc_i51 _ _ rfl rfl) rfl ?_
    exact ⟨below_setRow HBw.out _ (Nat.le_refl _) _, .inr ⟨t, _, _, HE.out, rfl, (HO.out.row (Nat.lt_succ_self _)).down (Nat.le_succ _)⟩⟩
def ApplyPost (m : Img) (s : St) (b : List Nat) (w : World) (e : Ending) (w' : World) : Prop :=
  ((moOf m).fits s = false ∧ Below w.heap.size w w' ∧ e = .returned (.tuple #[.agg zst, .int .i64 0, .int .i64 3])) ∨
    ((moOf m).fits s = true ∧ ReadPost (moOf m) b s.data 1 (markS (moOf m) s) w e w')
set_option maxRecDepth 100000 in
set_option maxHeartbeats 8000000 in
theorem apply_any {w : World} {mb : Nat} {m : Img} (h : MAt w mb m) {vo vd : Value} {s : St} (hs : StAt w vo vd s) (hso : s.ops.length ≤ 140737488355328) {vb : Value} {b : List Nat} (hv : Bytes w vb b) (hn : b.length ≤ 140737488351232) :
    Calls Tryz.prog 15 #[.pointer (some ⟨mb, 0, none⟩), stV vo vd s, vb] w (ApplyPost m s b w) := by
  have hz51 := zeroQ51
  have hzb := rc_zero
  unfold zst at hzb
  have hbs := bs87_1
  obtain ⟨ao, co, rfl, -⟩ := hs.o.1
  obtain ⟨ad, cd, rfl, -⟩ := hs.d.1
  obtain ⟨cs, hcs⟩ : ∃ cs : Array Value, cs = #[.int .u8 s.life, .int .u32 s.pc, .int .u32 s.sp, .slice ao s.ops.length co, .slice ad s.data.length cd, .int .u32 s.value, .int .u8 s.fault] := ⟨_, rfl⟩
  obtain ⟨W0, hW0⟩ : ∃ W0, W0 = w.alloc (.cells #[.int .u8 s.life, .int .u32 s.pc, .int .u32 s.sp, .slice ao s.ops.length co, .slice ad s.data.length cd, .int .u32 s.value, .int .u8 s.fault] 32) := ⟨_, rfl⟩
  have hb0 : Below w.heap.size w W0 := by rw [hW0]; exact Bel.new _ _
  have hh0 : W0.heap[w.heap.size]? = some (.cells #[.int .u8 s.life, .int .u32 s.pc, .int .u32 s.sp, .slice ao s.ops.length co, .slice ad s.data.length cd, .int .u32 s.value, .int .u8 s.fault] 32 (0, 0)) := by rw [hW0]; exact heap_alloc_new _ _
  have hs0 : W0.heap.size = w.heap.size + 1 := by rw [hW0]; simp
  obtain ⟨W1, hW1⟩ : ∃ W1, W1 = W0.alloc (.cells #[.int .u8 0, .int .u32 0, .int .u32 0, .slice none 0 0, .slice none 0 0, .int .u32 0, .int .u8 0] 32) := ⟨_, rfl⟩
  have hb1 : Below W0.heap.size W0 W1 := by rw [hW1]; exact Bel.new _ _
  have hh1 : W1.heap[w.heap.size + 1]? = some (.cells zst 32 (0, 0)) := by rw [hW1, ← hs0]; exact heap_alloc_new _ _
  have hs1 : W1.heap.size = w.heap.size + 2 := by rw [hW1]; simp [hs0]
  obtain ⟨W2, hW2⟩ : ∃ W2, W2 = W1.alloc (.cells #[.int .u8 s.life, .int .u32 s.pc, .int .u32 s.sp, .slice ao s.ops.length co, .slice ad s.data.length cd, .int .u32 s.value, .int .u8 s.fault] 32) := ⟨_, rfl⟩
  have hb2 : Below W1.heap.size W1 W2 := by rw [hW2]; exact Bel.new _ _
  have hh2 : W2.heap[w.heap.size + 2]? = some (.cells #[.int .u8 s.life, .int .u32 s.pc, .int .u32 s.sp, .slice ao s.ops.length co, .slice ad s.data.length cd, .int .u32 s.value, .int .u8 s.fault] 32 (0, 0)) := by rw [hW2, ← hs1]; exact heap_alloc_new _ _
  have hs2 : W2.heap.size = w.heap.size + 3 := by rw [hW2]; simp [hs1]
  have HB := Lib.hid (Bel.tr (Bel.tr hb0 hb1) hb2)
  have H0 := Lib.hid ((hb2.block _ (by omega)).trans ((hb1.block _ (by omega)).trans hh0))
  have H1 := Lib.hid ((hb2.block _ (by omega)).trans hh1)
  have HS1 := Lib.hid (hb1.block w.heap.size (by omega) |>.trans hh0)
  have HSz := Lib.hid hs2
  have HSt := Lib.hid (hs.below HB.out)
  have HM := Lib.hid (h.below HB.out)
  have HV := Lib.hid (hv.below HB.out)
  have HMy := Lib.hid (may1_any HM.out (StB.row (s := s) hh2) HSt.out hso)
  have HFl := Lib.hid (fun hf : (moOf m).fits s = true => fits_len hf)
  have HSm := Lib.hid hs.sm
  obtain ⟨⟨d0, d1, d2, d3, d4, d5, d6⟩, -⟩ := cells51 HS1.out
  obtain ⟨ab, cb, rfl, -⟩ := hv.opened
  have hv2 := hh0
  obtain ⟨⟨f0, f1, f2, f3, f4, f5, f6⟩, -⟩ := cells51 hh0
  unfold ApplyPost stV
  clear h hv hs hb0 hb1 hb2 hh0 hh1 hh2 hs0 hs1 hs2 hv2
  by_cases hf : (moOf m).fits s = true
  · have HF := Lib.hid hf
    rw [if_pos hf] at HMy
    clear hf
    go_enter Tryz.func15, Tryz.ntmps15
    go_wp2_with fail
    rw [← hW0, ← hW1, ← hW2]
    clear hW0 hW1 hW2 d0 d1 d2 d3 d4 d5 d6 f0 f1 f2 f3 f4 f5 f6
    refine HMy.out.mono ?_
    rintro e w3 ⟨rfl, hb3⟩
    have HB3 := Lib.hid hb3
    have hz := HSz.out
    have HS3 := Lib.hid ((hb3.block w.heap.size (by omega)).trans H0.out)
    obtain ⟨⟨d0, d1, d2, d3, d4, d5, d6⟩, -⟩ := cells51 HS3.out
    have HFr := Lib.hid (from_any (HM.out.below hb3) (HSt.out.below hb3) hso HF.out)
    unfold stV at HFr
    clear hb3 HMy
    go_wp2_with fail
    refine HFr.out.mono ?_
    rintro e w4 ⟨p, rfl, hbs4, hb4⟩
    have HB4 := Lib.hid (Bel.tr HB3.out hb4)
    have HRd := Lib.hid (read_any (HM.out.below HB4.out) (HV.out.below HB4.out) hn hbs4 (HFl.out HF.out) HSm.out.d 1 (markS (moOf m) s) rfl (by decide) (sumN_lt _))
    unfold baseV at HRd
    rw [show (((1 : Nat)) : Int) = 1 from rfl] at HRd
    clear hbs4 hb4 d0 d1 d2 d3 d4 d5 d6
    go_wp2_with fail
    refine HRd.out.mono ?_
    rintro e w5 ⟨hb5, ⟨pl, er, hE, rfl⟩ | ⟨t, vo, vd, hE, rfl, hO⟩⟩
    · have HB5 := Lib.hid (Bel.tr HB4.out hb5)
      have HBw := Lib.hid (Bel.tr HB.out HB5.out)
      have HR := Lib.hid ((HB5.out.block (w.heap.size + 1) (by omega)).trans H1.out)
      have HE := Lib.hid hE
      clear hE hb5
      go_wp2_with (((with_reducible refine wpList_store_row (o := ⟨none, .store 32 (.tmp 6) (.tmp 24), _, _, _, none⟩) rfl 32 _ _ rfl (w.heap.size + 1) zst ?_ ?_ 32 _ HR.out ?_ ?_ ?_ ?_); rfl; rfl; exact rc_i51; rfl; (simp [zst, Value.oneCell'])))
      refine bodyPost_ret (v := .tuple #[.agg zst, .int .i64 pl, .int .i64 er]) (results_cell_tmp2 Tryz.results15 _ _ (w.heap.size + 1) 32 zst (0, 0) _ rfl (setRow_heap _ _ _ _ _ _ HR.out) Tryz.underlying32 rfl rc_i51 _ _ rfl rfl) rfl ?_
      exact .inr ⟨HF.out, below_setRow HBw.out _ (Nat.le_succ _) _, .inl ⟨pl, er, HE.out, rfl⟩⟩
    · have HB5 := Lib.hid (Bel.tr HB4.out hb5)
      have HBw := Lib.hid (Bel.tr HB.out HB5.out)
      have HR := Lib.hid ((HB5.out.block (w.heap.size + 1) (by omega)).trans H1.out)
      have HE := Lib.hid hE
      have hs9 : w.heap.size + 2 ≤ w4.heap.size := by have := HB4.out.size; omega
      have HO := Lib.hid (hO.down hs9)
      obtain ⟨ao2, co2, rfl, -⟩ := own_sl hO.o
      obtain ⟨ad2, cd2, rfl, -⟩ := own_sl hO.d
      clear hE hb5 hO hs9
      unfold stV
      go_wp2_with (((with_reducible refine wpList_store_row (o := ⟨none, .store 32 (.tmp 6) (.tmp 24), _, _, _, none⟩) rfl 32 _ _ rfl (w.heap.size + 1) #[.int .u8 t.life, .int .u32 t.pc, .int .u32 t.sp, .slice ao2 t.ops.length co2, .slice ad2 t.data.length cd2, .int .u32 t.value, .int .u8 t.fault] ?_ ?_ 32 _ HR.out ?_ ?_ ?_ ?_); rfl; rfl; exact rc_i51; rfl; (simp [Value.oneCell'])))
      refine bodyPost_ret (v := .tuple #[stV (.slice ao2 t.ops.length co2) (.slice ad2 t.data.length cd2) t, .int .i64 0, .int .i64 0]) (results_cell_tmp2 Tryz.results15 _ _ (w.heap.size + 1) 32 #[.int .u8 t.life, .int .u32 t.pc, .int .u32 t.sp, .slice ao2 t.ops.length co2, .slice ad2 t.data.length cd2, .int .u32 t.value, .int .u8 t.fault] (0, 0) _ rfl (setRow_heap _ _ _ _ _ _ HR.out) Tryz.underlying32 rfl rc_i51 _ _ rfl rfl) rfl ?_
      exact .inr ⟨HF.out, below_setRow HBw.out _ (Nat.le_succ _) _, .inr ⟨t, _, _, HE.out, rfl, (HO.out.row (Nat.lt_succ_self _)).down (by omega)⟩⟩
  · have hf' : (moOf m).fits s = false := by simpa using hf
    have HF := Lib.hid hf'
    rw [if_neg hf] at HMy
    clear hf hf'
    go_enter Tryz.func15, Tryz.ntmps15
    go_wp2_with fail
    rw [← hW0, ← hW1, ← hW2]
    clear hW0 hW1 hW2 d0 d1 d2 d3 d4 d5 d6 f0 f1 f2 f3 f4 f5 f6
    refine HMy.out.mono ?_
    rintro e w3 ⟨rfl, hb3⟩
    have hz := HSz.out
    have HBw := Lib.hid (Bel.tr HB.out hb3)
    have HR := Lib.hid ((hb3.block (w.heap.size + 1) (by omega)).trans H1.out)
    clear hb3 HMy
    go_wp2_with (((with_reducible refine wpList_store_row (o := ⟨none, .store 32 (.tmp 6) (.tmp 16), _, _, _, none⟩) rfl 32 _ _ rfl (w.heap.size + 1) zst ?_ ?_ 32 _ HR.out ?_ ?_ ?_ ?_); rfl; rfl; exact rc_i51; rfl; (simp [zst, Value.oneCell'])))
    refine bodyPost_ret (v := .tuple #[.agg zst, .int .i64 0, .int .i64 3]) (results_cell_tmp2 Tryz.results15 _ _ (w.heap.size + 1) 32 zst (0, 0) _ rfl (setRow_heap _ _ _ _ _ _ HR.out) Tryz.underlying32 rfl rc_i51 _ _ rfl rfl) rfl ?_
    exact .inl ⟨HF.out, below_setRow HBw.out _ (Nat.le_succ _) _, rfl⟩
theorem lv_b1 (w : World) : (Instr.build 62 #[(0, .int .u8 3), (1, .int .u32 4)]).run Tryz.prog w = .ok (.agg #[.int .u8 3, .int .u32 4]) w := by kernel_rfl
theorem lv_b2 (w : World) : (Instr.build 62 #[(0, .int .u8 2)]).run Tryz.prog w = .ok (.agg #[.int .u8 2, .int .u32 0]) w := by kernel_rfl
theorem lv_bs (w : World) : (Instr.buildSlice 22 2 #[(0, .agg #[.int .u8 3, .int .u32 4]), (1, .agg #[.int .u8 2, .int .u32 0])]).run Tryz.prog w = .ok (.slice (some ⟨w.heap.size, 0, none⟩) 2 2) (w.alloc (.cells #[.int .u8 3, .int .u32 4, .int .u8 2, .int .u32 0] 62)) := by kernel_rfl
theorem lv_b28 (a : Option Addr) (n c : Nat) (w : World) : (Instr.build 28 #[(0, .slice a n c), (4, .int .u32 64)]).run Tryz.prog w = .ok (.agg #[.slice a n c, .slice none 0 0, .slice none 0 0, .int .u32 0, .int .u32 64, .slice none 0 0]) w := by kernel_rfl
theorem lv_z28 (w : World) : (zeroValue 28).run Tryz.prog w = .ok (.agg #[.slice none 0 0, .slice none 0 0, .slice none 0 0, .int .u32 0, .int .u32 0, .slice none 0 0]) w := by kernel_rfl
theorem instrs_L (w : World) (o : Obj) : Instrs ((w.alloc (.cells #[.int .u8 3, .int .u32 4, .int .u8 2, .int .u32 0] 62)).alloc o) (.slice (some ⟨w.heap.size, 0, none⟩) 2 2) imL.code := by
  refine ⟨⟨_, _, rfl, rfl, Nat.le_refl _, by unfold maxLen; decide, (fun h => by cases h), fun _ => ⟨w.heap.size, 0, rfl, by simp; omega, fun j hj => ?_⟩⟩, by decide⟩
  have hj' : j < 4 := hj
  have : j = 0 ∨ j = 1 ∨ j = 2 ∨ j = 3 := by omega
  rcases this with rfl | rfl | rfl | rfl
  all_goals
    refine (cell_alE (cell_of_row (w.alloc (.cells #[.int .u8 3, .int .u32 4, .int .u8 2, .int .u32 0] 62)) w.heap.size _ _ _ _ (heap_alloc_new _ _))).trans ?_
    rfl
theorem fst_fresh_len : (saveN (moOf imL) (moOf imL).fst).length = 48 := by
  unfold saveN
  rw [fileN_length, show (moOf imL).fresh = (moOf imL).fst.data from rfl, body_self]; rfl
set_option maxRecDepth 100000 in
set_option maxHeartbeats 4000000 in
theorem lives_any (w : World) : Calls Tryz.prog 8 #[] w fun e w' => e = .returned (.bool true) ∧ Below w.heap.size w w' := by
  have h1 := lv_b1
  have h2 := lv_b2
  have h3 := lv_bs
  have h4 := lv_b28
  have h5 := lv_z28
  have hz51 := zeroQ51
  obtain ⟨W1, hW1⟩ : ∃ W1, W1 = (w.alloc (.cells #[.int .u8 3, .int .u32 4, .int .u8 2, .int .u32 0] 62)).alloc (.cells #[.slice (some ⟨w.heap.size, 0, none⟩) 2 2, .slice none 0 0, .slice none 0 0, .int .u32 0, .int .u32 64, .slice none 0 0] 28) := ⟨_, rfl⟩
  have HB1 := Lib.hid (show Below w.heap.size w W1 from by rw [hW1]; exact Bel.al (Bel.new _ _) _)
  have HI := Lib.hid (show ImgAt W1 (.slice (some ⟨w.heap.size, 0, none⟩) 2 2) (.slice none 0 0) (.slice none 0 0) (.slice none 0 0) imL from by
    rw [hW1]
    exact ⟨instrs_L w _, ⟨Reads.nil _ _, fun k => by simp [imL]⟩, ⟨Reads.nil _ _, fun x hx => by simp [imL] at hx⟩, ⟨Reads.nil _ _, fun k => by simp [imL]⟩, by decide, by decide⟩)
  have HTk := Lib.hid (takeV_any _ _ _ _ imL W1 HI.out)
  rw [show ((imL.zero : Nat) : Int) = 0 from rfl, show ((imL.stack : Nat) : Int) = 64 from rfl] at HTk
  go_enter Tryz.func8, Tryz.ntmps8
  go_wp2_with fail
  rw [← hW1]
  clear hW1
  refine HTk.out.mono ?_
  rintro e w2 ⟨hb2, ⟨x, c, rfl, hbad⟩ | ⟨mb, rfl, hok, hmod⟩⟩
  · exact (okL.not_bad hbad).elim
  have HB2 := Lib.hid (Bel.tr HB1.out hb2)
  have HM2 := Lib.hid (show MAt w2 mb imL from ⟨hok, ⟨_, hmod⟩, ⟨_, _, _, _, _, HI.out⟩⟩)
  have HFr := Lib.hid (fresh_any HM2.out)
  unfold FreshPost at HFr
  clear hb2 hok hmod
  go_wp2_with fail
  refine HFr.out.mono ?_
  rintro e w3 ⟨vd, rfl, hod, hb3⟩
  have hdL : ∀ x ∈ imL.data, x < 256 := fun x hx => by simp [imL] at hx
  have hSm := fst_small (moOk okL) hdL
  have hlf : (moOf imL).fst.data.length = 256 := by
    show (moOf imL).fresh.length = 256
    rw [fresh_len okL, bitsL]
  have hod' : w3.ownsRow w2.heap.size 5 1 vd 256 (encN .u8 (moOf imL).fst.data) := by
    have := hod
    rw [bitsL] at this
    exact this
  have hSt : StAt w3 (.slice none 0 0) vd (moOf imL).fst := ⟨⟨Reads.nil _ _, fun k => by show ([] : List Nat).getD k 0 < _; simp⟩, own_bytes hod' hSm.d, hSm⟩
  obtain ⟨ad, cd, rfl, -⟩ := own_sl hod'
  obtain ⟨W4, hW4⟩ : ∃ W4, W4 = w3.alloc (.cells #[.int .u8 0, .int .u32 0, .int .u32 (moOf imL).fst.sp, .slice none 0 0, .slice ad 256 cd, .int .u32 0, .int .u8 0] 32) := ⟨_, rfl⟩
  have hb4 : Below w3.heap.size w3 W4 := by rw [hW4]; exact Bel.new _ _
  have HH4 := Lib.hid (show W4.heap[w3.heap.size]? = some (.cells #[.int .u8 0, .int .u32 0, .int .u32 (moOf imL).fst.sp, .slice none 0 0, .slice ad 256 cd, .int .u32 0, .int .u8 0] 32 (0, 0)) from by rw [hW4]; exact heap_alloc_new _ _)
  have HB4 := Lib.hid (Bel.tr (Bel.tr HB2.out hb3) hb4)
  have HM4 := Lib.hid (HM2.out.below (Bel.tr hb3 hb4))
  have HSt4 := Lib.hid (hSt.below hb4)
  have HSv := Lib.hid (save_any HM4.out HSt4.out (by show ([] : List Nat).length ≤ _; simp))
  unfold SavePost stV at HSv
  have e1 : (moOf imL).fst.life = 0 := rfl
  have e2 : (moOf imL).fst.pc = 0 := rfl
  have e3 : (moOf imL).fst.value = 0 := rfl
  have e4 : (moOf imL).fst.fault = 0 := rfl
  rw [e1, e2, e3, e4] at HSv
  rw [show (((0 : Nat)) : Int) = 0 from rfl] at HSv
  obtain ⟨⟨d0, d1, d2, d3, d4, d5, d6⟩, -⟩ := cells51 HH4.out
  have HHl := Lib.hid hlf
  have HSm := Lib.hid hSm
  unfold stV
  rw [e1, e2, e3, e4]
  clear hod hod' hSt hb3 hb4 hlf hSm HFr HTk
  go_wp2_with fail
  rw [← hW4]
  clear hW4
  refine HSv.out.mono ?_
  rintro e w5 ⟨hb5, ⟨hf, -⟩ | ⟨hf, v, rfl, hov⟩⟩
  · rw [fits_fst (moOk okL)] at hf
    cases hf
  have hlt := save_lt (m := moOf imL) HSm.out (by show (moOf imL).fresh.length = (moOf imL).fresh.length; rfl)
  have hov' : w5.ownsRow W4.heap.size 5 1 v 48 (encN .u8 (saveN (moOf imL) (moOf imL).fst)) := by
    rw [fst_fresh_len] at hov; exact hov
  have hdg : (moOf imL).dig < 18446744073709551616 := digN_lt okL.k
  have HBk := Lib.hid (save_back (moOk okL) hdg HSm.out hf)
  have HLd := Lib.hid (load_any (HM4.out.below hb5) (own_bytes hov' hlt) (by rw [fst_fresh_len]; decide) (fun x hx => by simp [imL] at hx))
  obtain ⟨av, cv, rfl, -⟩ := own_sl hov'
  unfold ReadPost at HLd
  have HB5 := Lib.hid (Bel.tr HB4.out hb5)
  clear hb5 hf hov hov' hlt hdg HSv d0 d1 d2 d3 d4 d5 d6
  go_wp2_with fail
  refine HLd.out.mono ?_
  rintro e w6 ⟨hb6, ⟨pl, er, hE, rfl⟩ | ⟨t, vo, vd, hE, rfl, hO⟩⟩
  · rw [HBk.out] at hE
    cases hE
  have ht : t = (moOf imL).fst := by rw [HBk.out] at hE; cases hE; rfl
  subst ht
  have hod := hO.d
  rw [HHl.out] at hod
  obtain ⟨ao6, co6, rfl, -⟩ := own_sl hO.o
  obtain ⟨ad6, cd6, rfl, -⟩ := own_sl hod
  have hsp : (moOf imL).fst.sp = 192 := topL
  have HB6 := Lib.hid (Bel.tr HB5.out hb6)
  unfold stV
  rw [hsp, e1, e2, e3, e4, show (moOf imL).fst.ops = [] from rfl]
  clear hb6 hE hO hod HLd hsp
  go_wp2_with fail
  go_ret
  exact ⟨rfl, Bel.al HB6.out _⟩
set_option maxRecDepth 100000 in
set_option maxHeartbeats 2000000 in
theorem refbits_any (vc vj vd vn : Value) (m : Img) (hr : roomN m ≤ 65536) (w : World) (h : ImgAt w vc vj vd vn m) :
    Calls Tryz.prog 47 #[.agg #[vc, vj, vd, .int .u32 m.zero, .int .u32 m.stack, vn]] w fun e w' => e = .returned (.int .i64 (bitsI m)) ∧ Below w.heap.size w w' := by
  obtain ⟨ac, cc, rfl, -⟩ := h.c.1
  obtain ⟨aj, cj, rfl, -⟩ := h.j.1
  obtain ⟨ad, cd, rfl, -, -, hdm, -, -⟩ := h.d.1
  obtain ⟨an, cn, rfl, -⟩ := h.n.1
  have hz := h.z
  have hst := h.s
  have hdl : m.data.length ≤ 9223372036854775807 := by unfold roomN at hr; omega
  have hrr : m.data.length + m.zero + m.stack = roomN m := rfl
  have hu1 : IntKind.u64.wrap ((m.data.length : Nat) : Int) = (m.data.length : Int) := by rw [IntKind.wrap_u64]; omega
  have hu2 : IntKind.u64.wrap ((m.zero : Nat) : Int) = (m.zero : Int) := by rw [IntKind.wrap_u64]; omega
  have hu3 : IntKind.u64.wrap ((m.stack : Nat) : Int) = (m.stack : Int) := by rw [IntKind.wrap_u64]; omega
  have hu4 : IntKind.u64.wrap ((m.data.length : Int) + (m.zero : Int)) = (m.data.length : Int) + (m.zero : Int) := by rw [IntKind.wrap_u64]; omega
  have hu5 : IntKind.u64.wrap ((m.data.length : Int) + (m.zero : Int) + (m.stack : Int)) = ((roomN m : Nat) : Int) := by rw [IntKind.wrap_u64]; omega
  obtain ⟨r, hr0⟩ : ∃ r, r = bitsI m := ⟨_, rfl⟩
  rw [← hr0]
  have Hrr := Lib.hid (show r = bitsFrom (roomN m) 8 8 from hr0)
  have Hle := Lib.hid hr
  clear h hr hr0
  go_enter Tryz.func47, Tryz.ntmps47
  go_wp2_with fail
  have hle : roomN m ≤ 65536 := Hle.out
  clear hu1 hu2 hu3 hu4 hu5 hrr
  generalize roomN m = N at *
  go_loopw [4] (fun k wr => ∃ (j : Nat), k = .int .i64 j ∧ 8 ≤ j ∧ j ≤ 16 ∧ Below w.heap.size w wr ∧ bitsFrom N (16 - j) j = r) (fun k _ => 17 - (intOf k).toNat)
  case atStart => exact ⟨8, rfl, by omega, by omega, Bel.new _ _, Hrr.out.symm⟩
  case round =>
    obtain ⟨j, rfl, hj1, hj2, hbw, hbj⟩ := hrel
    have Hbj := Lib.hid hbj
    have Hbw := Lib.hid hbw
    clear hbj hbw
    have hj : j = 8 ∨ j = 9 ∨ j = 10 ∨ j = 11 ∨ j = 12 ∨ j = 13 ∨ j = 14 ∨ j = 15 ∨ j = 16 := by omega
    have w8 : IntKind.u64.wrap 256 = 256 := by decide
    have w9 : IntKind.u64.wrap 512 = 512 := by decide
    have w10 : IntKind.u64.wrap 1024 = 1024 := by decide
    have w11 : IntKind.u64.wrap 2048 = 2048 := by decide
    have w12 : IntKind.u64.wrap 4096 = 4096 := by decide
    have w13 : IntKind.u64.wrap 8192 = 8192 := by decide
    have w14 : IntKind.u64.wrap 16384 = 16384 := by decide
    have w15 : IntKind.u64.wrap 32768 = 32768 := by decide
    have w16 : IntKind.u64.wrap 65536 = 65536 := by decide
    have hb := Hbj.out
    obtain ⟨M, hM⟩ : ∃ M : Nat, M = 2 ^ j := ⟨_, rfl⟩
    by_cases hlt : 2 ^ j < N
    · have hj16 : j < 16 := by
        by_cases e : j = 16
        · subst e; simp at hlt; omega
        · omega
      have hbn : bitsFrom N (16 - (j + 1)) (j + 1) = r := by
        rw [← hb, show 16 - j = (16 - (j + 1)) + 1 from by omega, bitsFrom, if_pos hlt]
      have Hbn := Lib.hid hbn
      have hN : M < N := by rw [hM]; exact hlt
      have hI : (M : Int) < (N : Int) := by omega
      have hdl : decide ((M : Int) < (N : Int)) = true := decide_eq_true hI
      clear hb hbn hlt hj1 hj2
      rcases hj with rfl | rfl | rfl | rfl | rfl | rfl | rfl | rfl | rfl
      all_goals first
        | omega
        | (simp only [Nat.reducePow] at hM
           subst hM
           go_wp2
           go_roundw
           case rel => exact ⟨_, by go_num, by omega, by omega, Hbw.out, Hbn.out⟩
           case measure => simp [intOf])
    · have hbr : r = j := by
        rw [← hb]
        cases hf : 16 - j with
        | zero => rfl
        | succ f => rw [bitsFrom, if_neg hlt]
      have Hbr := Lib.hid hbr
      have hN : ¬ M < N := by rw [hM]; exact hlt
      have hI : ¬ (M : Int) < (N : Int) := by omega
      have hdl : decide ((M : Int) < (N : Int)) = false := decide_eq_false hI
      clear hb hbr hlt hj1 hj2
      rcases hj with rfl | rfl | rfl | rfl | rfl | rfl | rfl | rfl | rfl
      all_goals
        simp only [Nat.reducePow] at hM
        subst hM
        go_wp2
        go_ret
        exact ⟨ret_intE (by rw [Hbr.out]; rfl), Hbw.out⟩
def wordCells : Array Value := ((List.range 60).map fun k => Value.string ⟨(wordOf k).toArray⟩).toArray
def zeroWords : Array Value := ((List.range 60).map fun _ => Value.string ⟨#[]⟩).toArray
theorem zero85 (w : World) : (zeroValue 236).run Tryz.prog w = .ok (.agg zeroWords) w := by kernel_rfl
theorem info85 : (Tryz.prog.info? 236).map (·.size) = some wordCells.size := by kernel_rfl
theorem words_size : zeroWords.size = wordCells.size := by kernel_rfl
theorem words_one : wordCells.all (·.oneCell') = true := by kernel_rfl
theorem words_at (k : Nat) (hk : k < 60) : wordCells[k]? = some (.string ⟨(wordOf k).toArray⟩) := by
  unfold wordCells
  rw [List.getElem?_toArray, List.getElem?_map, List.getElem?_range hk]; rfl
set_option maxRecDepth 100000 in
set_option maxHeartbeats 400000 in
theorem word_yes (k : Nat) (hk : 1 ≤ k) (h2 : k ≤ 59) (w : World) :
    Calls Tryz.prog 137 #[.int .i64 k] w fun e w' => e = .returned (.string ⟨(wordOf k).toArray⟩) ∧ Below w.heap.size w w' := by
  have hz := zero85
  have hi := info85
  have ho := words_one
  have hs := words_size
  have hc : ∀ W : World, (W.alloc (.cells wordCells 236)).cell? ⟨W.heap.size, k, none⟩ = some (.string ⟨(wordOf k).toArray⟩) := by
    intro W; rw [cell_of_row _ _ _ _ _ _ (heap_alloc_new W _), words_at k (by omega)]
  generalize zeroWords = Z at hz hs
  have Hi := Lib.hid hi
  have Ho := Lib.hid ho
  have Hs := Lib.hid hs
  clear hi ho hs
  generalize hV : wordOf k = V at hc
  clear hV
  have hc := hc w
  go_enter Tryz.func137, Tryz.ntmps137
  go_wp2_with (first | ((with_reducible refine wpList_runV (o := ⟨some 4, .build 236 _, _, _, _, none⟩) rfl (.agg wordCells) ?_ ?_); kernel_rfl) | ((with_reducible refine wpList_store_new (o := ⟨none, .store 236 (.tmp 3) (.tmp 4), _, _, _, none⟩) rfl 236 _ _ rfl wordCells ?_ ?_ 236 Z Hi.out Hs.out Ho.out ?_); rfl; rfl))
  go_ret
  exact ⟨rfl, (Below.refl _ _).alloc (Nat.le_refl _) _⟩
theorem refinfo_blk {w w1 : World} (hb : Below (w.alloc (.cells #[.string ⟨#[]⟩, .int .i64 0, .int .u32 0, .int .i64 0, .int .i64 0, .int .u8 0] 189)).heap.size (w.alloc (.cells #[.string ⟨#[]⟩, .int .i64 0, .int .u32 0, .int .i64 0, .int .i64 0, .int .u8 0] 189)) w1) (cs : Array Value) :
    (w1.alloc (.cells cs 189)).heap[w.heap.size]? = some (.cells #[.string ⟨#[]⟩, .int .i64 0, .int .u32 0, .int .i64 0, .int .i64 0, .int .u8 0] 189 (0, 0)) :=
  (Below.heap_alloc w1 (.cells cs 189) w.heap.size (by have := hb.size; simp at this; omega)).trans ((hb.block w.heap.size (by simp)).trans (heap_alloc_new w _))
theorem refinfo_below {w w1 : World} (hb : Below (w.alloc (.cells #[.string ⟨#[]⟩, .int .i64 0, .int .u32 0, .int .i64 0, .int .i64 0, .int .u8 0] 189)).heap.size (w.alloc (.cells #[.string ⟨#[]⟩, .int .i64 0, .int .u32 0, .int .i64 0, .int .i64 0, .int .u8 0] 189)) w1) (cs rs : Array Value) :
    Below w.heap.size w ((w1.alloc (.cells cs 189)).setRow w.heap.size rs) :=
  below_setRow ((((Below.refl _ w).alloc (Nat.le_refl _) _).trans (hb.mono (by simp))).alloc (by have := hb.size; simp at this; omega) (.cells cs 189)) w.heap.size (Nat.le_refl _) rs
set_option maxRecDepth 100000 in
set_option maxHeartbeats 400000 in
theorem refinfo_no (k : Nat) (hk : k < 1 ∨ 59 < k) (h2 : k < 256) (w : World) :
    Calls Tryz.prog 115 #[.int .u8 k] w fun e w' => e = .returned (.tuple #[zeroRow, .bool false]) ∧ Below w.heap.size w w' := by
  have hz := zero26
  unfold zeroRow at *
  rcases hk with hk | hk
  · go_enter Tryz.func115, Tryz.ntmps115
    go_wp2
    exact bodyPost_ret (v := .tuple #[zeroRow, .bool false]) (by simp [results, Tryz.results115, go_sem, zeroRow]) rfl ⟨rfl, (Below.refl _ _).alloc (Nat.le_refl _) _⟩
  · have hk' : ¬ (k < 1) := by omega
    go_enter Tryz.func115, Tryz.ntmps115
    go_wp2
    exact bodyPost_ret (v := .tuple #[zeroRow, .bool false]) (by simp [results, Tryz.results115, go_sem, zeroRow]) rfl ⟨rfl, (Below.refl _ _).alloc (Nat.le_refl _) _⟩
theorem word_at1 (w : World) : Calls Tryz.prog 137 #[.int .i64 1] w fun e w' => e = .returned (.string ⟨#[110, 111, 112]⟩) ∧ Below w.heap.size w w' := word_yes 1 (by decide) (by decide) w
set_option maxRecDepth 100000 in
set_option maxHeartbeats 1000000 in
theorem refinfo_1 (w : World) :
    Calls Tryz.prog 115 #[.int .u8 1] w fun e w' => e = .returned (.tuple #[rowVal 1, .bool true]) ∧ Below w.heap.size w w' := by
  have hz := zero26
  unfold zeroRow at *
  go_enter Tryz.func115, Tryz.ntmps115
  go_wp2_with fail
  refine (word_at1 _).mono ?_
  rintro e w1 ⟨rfl, hb⟩
  have hblk := Lib.hid (refinfo_blk hb)
  have hbelow := Lib.hid (refinfo_below hb)
  clear hb
  go_wp2_with (((with_reducible refine wpList_store_row (o := ⟨none, .store 189 (.tmp 2) (.tmp 114), _, _, _, none⟩) rfl 189 _ _ rfl w.heap.size (rowCells 1).toArray ?_ ?_ 189 _ (hblk.out _) ?_ ?_ ?_ ?_); rfl; kernel_rfl; exact info26; rfl; kernel_rfl))
  refine bodyPost_ret (v := .tuple #[rowVal 1, .bool true]) ?_ rfl ?_
  · exact results_cell_tmp Tryz.results115 _ _ w.heap.size 189 (rowCells 1).toArray (0, 0) _ rfl (setRow_heap _ _ _ _ _ _ (hblk.out _)) Tryz.underlying189 rfl info26 _ rfl
  · exact ⟨rfl, hbelow.out _ _⟩
theorem word_at2 (w : World) : Calls Tryz.prog 137 #[.int .i64 2] w fun e w' => e = .returned (.string ⟨#[98, 114, 101, 97, 107]⟩) ∧ Below w.heap.size w w' := word_yes 2 (by decide) (by decide) w
set_option maxRecDepth 100000 in
set_option maxHeartbeats 1000000 in
theorem refinfo_2 (w : World) :
    Calls Tryz.prog 115 #[.int .u8 2] w fun e w' => e = .returned (.tuple #[rowVal 2, .bool true]) ∧ Below w.heap.size w w' := by
  have hz := zero26
  unfold zeroRow at *
  go_enter Tryz.func115, Tryz.ntmps115
  go_wp2_with fail
  refine (word_at2 _).mono ?_
  rintro e w1 ⟨rfl, hb⟩
  have hblk := Lib.hid (refinfo_blk hb)
  have hbelow := Lib.hid (refinfo_below hb)
  clear hb
  go_wp2_with (((with_reducible refine wpList_store_row (o := ⟨none, .store 189 (.tmp 2) (.tmp 114), _, _, _, none⟩) rfl 189 _ _ rfl w.heap.size (rowCells 2).toArray ?_ ?_ 189 _ (hblk.out _) ?_ ?_ ?_ ?_); rfl; kernel_rfl; exact info26; rfl; kernel_rfl))
  refine bodyPost_ret (v := .tuple #[rowVal 2, .bool true]) ?_ rfl ?_
  · exact results_cell_tmp Tryz.results115 _ _ w.heap.size 189 (rowCells 2).toArray (0, 0) _ rfl (setRow_heap _ _ _ _ _ _ (hblk.out _)) Tryz.underlying189 rfl info26 _ rfl
  · exact ⟨rfl, hbelow.out _ _⟩
theorem word_at3 (w : World) : Calls Tryz.prog 137 #[.int .i64 3] w fun e w' => e = .returned (.string ⟨#[101, 110, 116, 101, 114]⟩) ∧ Below w.heap.size w w' := word_yes 3 (by decide) (by decide) w
set_option maxRecDepth 100000 in
set_option maxHeartbeats 1000000 in
theorem refinfo_3 (w : World) :
    Calls Tryz.prog 115 #[.int .u8 3] w fun e w' => e = .returned (.tuple #[rowVal 3, .bool true]) ∧ Below w.heap.size w w' := by
  have hz := zero26
  unfold zeroRow at *
  go_enter Tryz.func115, Tryz.ntmps115
  go_wp2_with fail
  refine (word_at3 _).mono ?_
  rintro e w1 ⟨rfl, hb⟩
  have hblk := Lib.hid (refinfo_blk hb)
  have hbelow := Lib.hid (refinfo_below hb)
  clear hb
  go_wp2_with (((with_reducible refine wpList_store_row (o := ⟨none, .store 189 (.tmp 2) (.tmp 114), _, _, _, none⟩) rfl 189 _ _ rfl w.heap.size (rowCells 3).toArray ?_ ?_ 189 _ (hblk.out _) ?_ ?_ ?_ ?_); rfl; kernel_rfl; exact info26; rfl; kernel_rfl))
  refine bodyPost_ret (v := .tuple #[rowVal 3, .bool true]) ?_ rfl ?_
  · exact results_cell_tmp Tryz.results115 _ _ w.heap.size 189 (rowCells 3).toArray (0, 0) _ rfl (setRow_heap _ _ _ _ _ _ (hblk.out _)) Tryz.underlying189 rfl info26 _ rfl
  · exact ⟨rfl, hbelow.out _ _⟩
theorem word_at4 (w : World) : Calls Tryz.prog 137 #[.int .i64 4] w fun e w' => e = .returned (.string ⟨#[108, 101, 97, 118, 101]⟩) ∧ Below w.heap.size w w' := word_yes 4 (by decide) (by decide) w
set_option maxRecDepth 100000 in
set_option maxHeartbeats 1000000 in
theorem refinfo_4 (w : World) :
    Calls Tryz.prog 115 #[.int .u8 4] w fun e w' => e = .returned (.tuple #[rowVal 4, .bool true]) ∧ Below w.heap.size w w' := by
  have hz := zero26
  unfold zeroRow at *
  go_enter Tryz.func115, Tryz.ntmps115
  go_wp2_with fail
  refine (word_at4 _).mono ?_
  rintro e w1 ⟨rfl, hb⟩
  have hblk := Lib.hid (refinfo_blk hb)
  have hbelow := Lib.hid (refinfo_below hb)
  clear hb
  go_wp2_with (((with_reducible refine wpList_store_row (o := ⟨none, .store 189 (.tmp 2) (.tmp 114), _, _, _, none⟩) rfl 189 _ _ rfl w.heap.size (rowCells 4).toArray ?_ ?_ 189 _ (hblk.out _) ?_ ?_ ?_ ?_); rfl; kernel_rfl; exact info26; rfl; kernel_rfl))
  refine bodyPost_ret (v := .tuple #[rowVal 4, .bool true]) ?_ rfl ?_
  · exact results_cell_tmp Tryz.results115 _ _ w.heap.size 189 (rowCells 4).toArray (0, 0) _ rfl (setRow_heap _ _ _ _ _ _ (hblk.out _)) Tryz.underlying189 rfl info26 _ rfl
  · exact ⟨rfl, hbelow.out _ _⟩
theorem word_at5 (w : World) : Calls Tryz.prog 137 #[.int .i64 5] w fun e w' => e = .returned (.string ⟨#[99, 97, 108, 108]⟩) ∧ Below w.heap.size w w' := word_yes 5 (by decide) (by decide) w
set_option maxRecDepth 100000 in
set_option maxHeartbeats 1000000 in
theorem refinfo_5 (w : World) :
    Calls Tryz.prog 115 #[.int .u8 5] w fun e w' => e = .returned (.tuple #[rowVal 5, .bool true]) ∧ Below w.heap.size w w' := by
  have hz := zero26
  unfold zeroRow at *
  go_enter Tryz.func115, Tryz.ntmps115
  go_wp2_with fail
  refine (word_at5 _).mono ?_
  rintro e w1 ⟨rfl, hb⟩
  have hblk := Lib.hid (refinfo_blk hb)
  have hbelow := Lib.hid (refinfo_below hb)
  clear hb
  go_wp2_with (((with_reducible refine wpList_store_row (o := ⟨none, .store 189 (.tmp 2) (.tmp 114), _, _, _, none⟩) rfl 189 _ _ rfl w.heap.size (rowCells 5).toArray ?_ ?_ 189 _ (hblk.out _) ?_ ?_ ?_ ?_); rfl; kernel_rfl; exact info26; rfl; kernel_rfl))
  refine bodyPost_ret (v := .tuple #[rowVal 5, .bool true]) ?_ rfl ?_
  · exact results_cell_tmp Tryz.results115 _ _ w.heap.size 189 (rowCells 5).toArray (0, 0) _ rfl (setRow_heap _ _ _ _ _ _ (hblk.out _)) Tryz.underlying189 rfl info26 _ rfl
  · exact ⟨rfl, hbelow.out _ _⟩
theorem word_at6 (w : World) : Calls Tryz.prog 137 #[.int .i64 6] w fun e w' => e = .returned (.string ⟨#[103, 111, 116, 111]⟩) ∧ Below w.heap.size w w' := word_yes 6 (by decide) (by decide) w
set_option maxRecDepth 100000 in
set_option maxHeartbeats 1000000 in
theorem refinfo_6 (w : World) :
    Calls Tryz.prog 115 #[.int .u8 6] w fun e w' => e = .returned (.tuple #[rowVal 6, .bool true]) ∧ Below w.heap.size w w' := by
  have hz := zero26
  unfold zeroRow at *
  go_enter Tryz.func115, Tryz.ntmps115
  go_wp2_with fail
  refine (word_at6 _).mono ?_
  rintro e w1 ⟨rfl, hb⟩
  have hblk := Lib.hid (refinfo_blk hb)
  have hbelow := Lib.hid (refinfo_below hb)
  clear hb
  go_wp2_with (((with_reducible refine wpList_store_row (o := ⟨none, .store 189 (.tmp 2) (.tmp 114), _, _, _, none⟩) rfl 189 _ _ rfl w.heap.size (rowCells 6).toArray ?_ ?_ 189 _ (hblk.out _) ?_ ?_ ?_ ?_); rfl; kernel_rfl; exact info26; rfl; kernel_rfl))
  refine bodyPost_ret (v := .tuple #[rowVal 6, .bool true]) ?_ rfl ?_
  · exact results_cell_tmp Tryz.results115 _ _ w.heap.size 189 (rowCells 6).toArray (0, 0) _ rfl (setRow_heap _ _ _ _ _ _ (hblk.out _)) Tryz.underlying189 rfl info26 _ rfl
  · exact ⟨rfl, hbelow.out _ _⟩
theorem word_at7 (w : World) : Calls Tryz.prog 137 #[.int .i64 7] w fun e w' => e = .returned (.string ⟨#[106, 117, 109, 112]⟩) ∧ Below w.heap.size w w' := word_yes 7 (by decide) (by decide) w
set_option maxRecDepth 100000 in
set_option maxHeartbeats 1000000 in
theorem refinfo_7 (w : World) :
    Calls Tryz.prog 115 #[.int .u8 7] w fun e w' => e = .returned (.tuple #[rowVal 7, .bool true]) ∧ Below w.heap.size w w' := by
  have hz := zero26
  unfold zeroRow at *
  go_enter Tryz.func115, Tryz.ntmps115
  go_wp2_with fail
  refine (word_at7 _).mono ?_
  rintro e w1 ⟨rfl, hb⟩
  have hblk := Lib.hid (refinfo_blk hb)
  have hbelow := Lib.hid (refinfo_below hb)
  clear hb
  go_wp2_with (((with_reducible refine wpList_store_row (o := ⟨none, .store 189 (.tmp 2) (.tmp 114), _, _, _, none⟩) rfl 189 _ _ rfl w.heap.size (rowCells 7).toArray ?_ ?_ 189 _ (hblk.out _) ?_ ?_ ?_ ?_); rfl; kernel_rfl; exact info26; rfl; kernel_rfl))
  refine bodyPost_ret (v := .tuple #[rowVal 7, .bool true]) ?_ rfl ?_
  · exact results_cell_tmp Tryz.results115 _ _ w.heap.size 189 (rowCells 7).toArray (0, 0) _ rfl (setRow_heap _ _ _ _ _ _ (hblk.out _)) Tryz.underlying189 rfl info26 _ rfl
  · exact ⟨rfl, hbelow.out _ _⟩
theorem word_at8 (w : World) : Calls Tryz.prog 137 #[.int .i64 8] w fun e w' => e = .returned (.string ⟨#[99, 111, 110, 115, 116]⟩) ∧ Below w.heap.size w w' := word_yes 8 (by decide) (by decide) w
set_option maxRecDepth 100000 in
set_option maxHeartbeats 1000000 in
theorem refinfo_8 (w : World) :
    Calls Tryz.prog 115 #[.int .u8 8] w fun e w' => e = .returned (.tuple #[rowVal 8, .bool true]) ∧ Below w.heap.size w w' := by
  have hz := zero26
  unfold zeroRow at *
  go_enter Tryz.func115, Tryz.ntmps115
  go_wp2_with fail
  refine (word_at8 _).mono ?_
  rintro e w1 ⟨rfl, hb⟩
  have hblk := Lib.hid (refinfo_blk hb)
  have hbelow := Lib.hid (refinfo_below hb)
  clear hb
  go_wp2_with (((with_reducible refine wpList_store_row (o := ⟨none, .store 189 (.tmp 2) (.tmp 114), _, _, _, none⟩) rfl 189 _ _ rfl w.heap.size (rowCells 8).toArray ?_ ?_ 189 _ (hblk.out _) ?_ ?_ ?_ ?_); rfl; kernel_rfl; exact info26; rfl; kernel_rfl))
  refine bodyPost_ret (v := .tuple #[rowVal 8, .bool true]) ?_ rfl ?_
  · exact results_cell_tmp Tryz.results115 _ _ w.heap.size 189 (rowCells 8).toArray (0, 0) _ rfl (setRow_heap _ _ _ _ _ _ (hblk.out _)) Tryz.underlying189 rfl info26 _ rfl
  · exact ⟨rfl, hbelow.out _ _⟩
theorem word_at9 (w : World) : Calls Tryz.prog 137 #[.int .i64 9] w fun e w' => e = .returned (.string ⟨#[108, 111, 99, 97, 108]⟩) ∧ Below w.heap.size w w' := word_yes 9 (by decide) (by decide) w
set_option maxRecDepth 100000 in
set_option maxHeartbeats 1000000 in
theorem refinfo_9 (w : World) :
    Calls Tryz.prog 115 #[.int .u8 9] w fun e w' => e = .returned (.tuple #[rowVal 9, .bool true]) ∧ Below w.heap.size w w' := by
  have hz := zero26
  unfold zeroRow at *
  go_enter Tryz.func115, Tryz.ntmps115
  go_wp2_with fail
  refine (word_at9 _).mono ?_
  rintro e w1 ⟨rfl, hb⟩
  have hblk := Lib.hid (refinfo_blk hb)
  have hbelow := Lib.hid (refinfo_below hb)
  clear hb
  go_wp2_with (((with_reducible refine wpList_store_row (o := ⟨none, .store 189 (.tmp 2) (.tmp 114), _, _, _, none⟩) rfl 189 _ _ rfl w.heap.size (rowCells 9).toArray ?_ ?_ 189 _ (hblk.out _) ?_ ?_ ?_ ?_); rfl; kernel_rfl; exact info26; rfl; kernel_rfl))
  refine bodyPost_ret (v := .tuple #[rowVal 9, .bool true]) ?_ rfl ?_
  · exact results_cell_tmp Tryz.results115 _ _ w.heap.size 189 (rowCells 9).toArray (0, 0) _ rfl (setRow_heap _ _ _ _ _ _ (hblk.out _)) Tryz.underlying189 rfl info26 _ rfl
  · exact ⟨rfl, hbelow.out _ _⟩
theorem word_at10 (w : World) : Calls Tryz.prog 137 #[.int .i64 10] w fun e w' => e = .returned (.string ⟨#[112, 111, 112]⟩) ∧ Below w.heap.size w w' := word_yes 10 (by decide) (by decide) w
set_option maxRecDepth 100000 in
set_option maxHeartbeats 1000000 in
theorem refinfo_10 (w : World) :
    Calls Tryz.prog 115 #[.int .u8 10] w fun e w' => e = .returned (.tuple #[rowVal 10, .bool true]) ∧ Below w.heap.size w w' := by
  have hz := zero26
  unfold zeroRow at *
  go_enter Tryz.func115, Tryz.ntmps115
  go_wp2_with fail
  refine (word_at10 _).mono ?_
  rintro e w1 ⟨rfl, hb⟩
  have hblk := Lib.hid (refinfo_blk hb)
  have hbelow := Lib.hid (refinfo_below hb)
  clear hb
  go_wp2_with (((with_reducible refine wpList_store_row (o := ⟨none, .store 189 (.tmp 2) (.tmp 114), _, _, _, none⟩) rfl 189 _ _ rfl w.heap.size (rowCells 10).toArray ?_ ?_ 189 _ (hblk.out _) ?_ ?_ ?_ ?_); rfl; kernel_rfl; exact info26; rfl; kernel_rfl))
  refine bodyPost_ret (v := .tuple #[rowVal 10, .bool true]) ?_ rfl ?_
  · exact results_cell_tmp Tryz.results115 _ _ w.heap.size 189 (rowCells 10).toArray (0, 0) _ rfl (setRow_heap _ _ _ _ _ _ (hblk.out _)) Tryz.underlying189 rfl info26 _ rfl
  · exact ⟨rfl, hbelow.out _ _⟩
theorem word_at11 (w : World) : Calls Tryz.prog 137 #[.int .i64 11] w fun e w' => e = .returned (.string ⟨#[100, 117, 112]⟩) ∧ Below w.heap.size w w' := word_yes 11 (by decide) (by decide) w
set_option maxRecDepth 100000 in
set_option maxHeartbeats 1000000 in
theorem refinfo_11 (w : World) :
    Calls Tryz.prog 115 #[.int .u8 11] w fun e w' => e = .returned (.tuple #[rowVal 11, .bool true]) ∧ Below w.heap.size w w' := by
  have hz := zero26
  unfold zeroRow at *
  go_enter Tryz.func115, Tryz.ntmps115
  go_wp2_with fail
  refine (word_at11 _).mono ?_
  rintro e w1 ⟨rfl, hb⟩
  have hblk := Lib.hid (refinfo_blk hb)
  have hbelow := Lib.hid (refinfo_below hb)
  clear hb
  go_wp2_with (((with_reducible refine wpList_store_row (o := ⟨none, .store 189 (.tmp 2) (.tmp 114), _, _, _, none⟩) rfl 189 _ _ rfl w.heap.size (rowCells 11).toArray ?_ ?_ 189 _ (hblk.out _) ?_ ?_ ?_ ?_); rfl; kernel_rfl; exact info26; rfl; kernel_rfl))
  refine bodyPost_ret (v := .tuple #[rowVal 11, .bool true]) ?_ rfl ?_
  · exact results_cell_tmp Tryz.results115 _ _ w.heap.size 189 (rowCells 11).toArray (0, 0) _ rfl (setRow_heap _ _ _ _ _ _ (hblk.out _)) Tryz.underlying189 rfl info26 _ rfl
  · exact ⟨rfl, hbelow.out _ _⟩
theorem word_at12 (w : World) : Calls Tryz.prog 137 #[.int .i64 12] w fun e w' => e = .returned (.string ⟨#[97, 114, 103]⟩) ∧ Below w.heap.size w w' := word_yes 12 (by decide) (by decide) w
set_option maxRecDepth 100000 in
set_option maxHeartbeats 1000000 in
theorem refinfo_12 (w : World) :
    Calls Tryz.prog 115 #[.int .u8 12] w fun e w' => e = .returned (.tuple #[rowVal 12, .bool true]) ∧ Below w.heap.size w w' := by
  have hz := zero26
  unfold zeroRow at *
  go_enter Tryz.func115, Tryz.ntmps115
  go_wp2_with fail
  refine (word_at12 _).mono ?_
  rintro e w1 ⟨rfl, hb⟩
  have hblk := Lib.hid (refinfo_blk hb)
  have hbelow := Lib.hid (refinfo_below hb)
  clear hb
  go_wp2_with (((with_reducible refine wpList_store_row (o := ⟨none, .store 189 (.tmp 2) (.tmp 114), _, _, _, none⟩) rfl 189 _ _ rfl w.heap.size (rowCells 12).toArray ?_ ?_ 189 _ (hblk.out _) ?_ ?_ ?_ ?_); rfl; kernel_rfl; exact info26; rfl; kernel_rfl))
  refine bodyPost_ret (v := .tuple #[rowVal 12, .bool true]) ?_ rfl ?_
  · exact results_cell_tmp Tryz.results115 _ _ w.heap.size 189 (rowCells 12).toArray (0, 0) _ rfl (setRow_heap _ _ _ _ _ _ (hblk.out _)) Tryz.underlying189 rfl info26 _ rfl
  · exact ⟨rfl, hbelow.out _ _⟩
theorem word_at13 (w : World) : Calls Tryz.prog 137 #[.int .i64 13] w fun e w' => e = .returned (.string ⟨#[101, 113]⟩) ∧ Below w.heap.size w w' := word_yes 13 (by decide) (by decide) w
set_option maxRecDepth 100000 in
set_option maxHeartbeats 1000000 in
theorem refinfo_13 (w : World) :
    Calls Tryz.prog 115 #[.int .u8 13] w fun e w' => e = .returned (.tuple #[rowVal 13, .bool true]) ∧ Below w.heap.size w w' := by
  have hz := zero26
  unfold zeroRow at *
  go_enter Tryz.func115, Tryz.ntmps115
  go_wp2_with fail
  refine (word_at13 _).mono ?_
  rintro e w1 ⟨rfl, hb⟩
  have hblk := Lib.hid (refinfo_blk hb)
  have hbelow := Lib.hid (refinfo_below hb)
  clear hb
  go_wp2_with (((with_reducible refine wpList_store_row (o := ⟨none, .store 189 (.tmp 2) (.tmp 114), _, _, _, none⟩) rfl 189 _ _ rfl w.heap.size (rowCells 13).toArray ?_ ?_ 189 _ (hblk.out _) ?_ ?_ ?_ ?_); rfl; kernel_rfl; exact info26; rfl; kernel_rfl))
  refine bodyPost_ret (v := .tuple #[rowVal 13, .bool true]) ?_ rfl ?_
  · exact results_cell_tmp Tryz.results115 _ _ w.heap.size 189 (rowCells 13).toArray (0, 0) _ rfl (setRow_heap _ _ _ _ _ _ (hblk.out _)) Tryz.underlying189 rfl info26 _ rfl
  · exact ⟨rfl, hbelow.out _ _⟩
theorem word_at14 (w : World) : Calls Tryz.prog 137 #[.int .i64 14] w fun e w' => e = .returned (.string ⟨#[110, 101]⟩) ∧ Below w.heap.size w w' := word_yes 14 (by decide) (by decide) w
set_option maxRecDepth 100000 in
set_option maxHeartbeats 1000000 in
theorem refinfo_14 (w : World) :
    Calls Tryz.prog 115 #[.int .u8 14] w fun e w' => e = .returned (.tuple #[rowVal 14, .bool true]) ∧ Below w.heap.size w w' := by
  have hz := zero26
  unfold zeroRow at *
  go_enter Tryz.func115, Tryz.ntmps115
  go_wp2_with fail
  refine (word_at14 _).mono ?_
  rintro e w1 ⟨rfl, hb⟩
  have hblk := Lib.hid (refinfo_blk hb)
  have hbelow := Lib.hid (refinfo_below hb)
  clear hb
  go_wp2_with (((with_reducible refine wpList_store_row (o := ⟨none, .store 189 (.tmp 2) (.tmp 114), _, _, _, none⟩) rfl 189 _ _ rfl w.heap.size (rowCells 14).toArray ?_ ?_ 189 _ (hblk.out _) ?_ ?_ ?_ ?_); rfl; kernel_rfl; exact info26; rfl; kernel_rfl))
  refine bodyPost_ret (v := .tuple #[rowVal 14, .bool true]) ?_ rfl ?_
  · exact results_cell_tmp Tryz.results115 _ _ w.heap.size 189 (rowCells 14).toArray (0, 0) _ rfl (setRow_heap _ _ _ _ _ _ (hblk.out _)) Tryz.underlying189 rfl info26 _ rfl
  · exact ⟨rfl, hbelow.out _ _⟩
theorem word_at15 (w : World) : Calls Tryz.prog 137 #[.int .i64 15] w fun e w' => e = .returned (.string ⟨#[108, 116, 105]⟩) ∧ Below w.heap.size w w' := word_yes 15 (by decide) (by decide) w
set_option maxRecDepth 100000 in
set_option maxHeartbeats 1000000 in
theorem refinfo_15 (w : World) :
    Calls Tryz.prog 115 #[.int .u8 15] w fun e w' => e = .returned (.tuple #[rowVal 15, .bool true]) ∧ Below w.heap.size w w' := by
  have hz := zero26
  unfold zeroRow at *
  go_enter Tryz.func115, Tryz.ntmps115
  go_wp2_with fail
  refine (word_at15 _).mono ?_
  rintro e w1 ⟨rfl, hb⟩
  have hblk := Lib.hid (refinfo_blk hb)
  have hbelow := Lib.hid (refinfo_below hb)
  clear hb
  go_wp2_with (((with_reducible refine wpList_store_row (o := ⟨none, .store 189 (.tmp 2) (.tmp 114), _, _, _, none⟩) rfl 189 _ _ rfl w.heap.size (rowCells 15).toArray ?_ ?_ 189 _ (hblk.out _) ?_ ?_ ?_ ?_); rfl; kernel_rfl; exact info26; rfl; kernel_rfl))
  refine bodyPost_ret (v := .tuple #[rowVal 15, .bool true]) ?_ rfl ?_
  · exact results_cell_tmp Tryz.results115 _ _ w.heap.size 189 (rowCells 15).toArray (0, 0) _ rfl (setRow_heap _ _ _ _ _ _ (hblk.out _)) Tryz.underlying189 rfl info26 _ rfl
  · exact ⟨rfl, hbelow.out _ _⟩
theorem word_at16 (w : World) : Calls Tryz.prog 137 #[.int .i64 16] w fun e w' => e = .returned (.string ⟨#[108, 101, 105]⟩) ∧ Below w.heap.size w w' := word_yes 16 (by decide) (by decide) w
set_option maxRecDepth 100000 in
set_option maxHeartbeats 1000000 in
theorem refinfo_16 (w : World) :
    Calls Tryz.prog 115 #[.int .u8 16] w fun e w' => e = .returned (.tuple #[rowVal 16, .bool true]) ∧ Below w.heap.size w w' := by
  have hz := zero26
  unfold zeroRow at *
  go_enter Tryz.func115, Tryz.ntmps115
  go_wp2_with fail
  refine (word_at16 _).mono ?_
  rintro e w1 ⟨rfl, hb⟩
  have hblk := Lib.hid (refinfo_blk hb)
  have hbelow := Lib.hid (refinfo_below hb)
  clear hb
  go_wp2_with (((with_reducible refine wpList_store_row (o := ⟨none, .store 189 (.tmp 2) (.tmp 114), _, _, _, none⟩) rfl 189 _ _ rfl w.heap.size (rowCells 16).toArray ?_ ?_ 189 _ (hblk.out _) ?_ ?_ ?_ ?_); rfl; kernel_rfl; exact info26; rfl; kernel_rfl))
  refine bodyPost_ret (v := .tuple #[rowVal 16, .bool true]) ?_ rfl ?_
  · exact results_cell_tmp Tryz.results115 _ _ w.heap.size 189 (rowCells 16).toArray (0, 0) _ rfl (setRow_heap _ _ _ _ _ _ (hblk.out _)) Tryz.underlying189 rfl info26 _ rfl
  · exact ⟨rfl, hbelow.out _ _⟩
theorem word_at17 (w : World) : Calls Tryz.prog 137 #[.int .i64 17] w fun e w' => e = .returned (.string ⟨#[103, 116, 105]⟩) ∧ Below w.heap.size w w' := word_yes 17 (by decide) (by decide) w
set_option maxRecDepth 100000 in
set_option maxHeartbeats 1000000 in
theorem refinfo_17 (w : World) :
    Calls Tryz.prog 115 #[.int .u8 17] w fun e w' => e = .returned (.tuple #[rowVal 17, .bool true]) ∧ Below w.heap.size w w' := by
  have hz := zero26
  unfold zeroRow at *
  go_enter Tryz.func115, Tryz.ntmps115
  go_wp2_with fail
  refine (word_at17 _).mono ?_
  rintro e w1 ⟨rfl, hb⟩
  have hblk := Lib.hid (refinfo_blk hb)
  have hbelow := Lib.hid (refinfo_below hb)
  clear hb
  go_wp2_with (((with_reducible refine wpList_store_row (o := ⟨none, .store 189 (.tmp 2) (.tmp 114), _, _, _, none⟩) rfl 189 _ _ rfl w.heap.size (rowCells 17).toArray ?_ ?_ 189 _ (hblk.out _) ?_ ?_ ?_ ?_); rfl; kernel_rfl; exact info26; rfl; kernel_rfl))
  refine bodyPost_ret (v := .tuple #[rowVal 17, .bool true]) ?_ rfl ?_
  · exact results_cell_tmp Tryz.results115 _ _ w.heap.size 189 (rowCells 17).toArray (0, 0) _ rfl (setRow_heap _ _ _ _ _ _ (hblk.out _)) Tryz.underlying189 rfl info26 _ rfl
  · exact ⟨rfl, hbelow.out _ _⟩
theorem word_at18 (w : World) : Calls Tryz.prog 137 #[.int .i64 18] w fun e w' => e = .returned (.string ⟨#[103, 101, 105]⟩) ∧ Below w.heap.size w w' := word_yes 18 (by decide) (by decide) w
set_option maxRecDepth 100000 in
set_option maxHeartbeats 1000000 in
theorem refinfo_18 (w : World) :
    Calls Tryz.prog 115 #[.int .u8 18] w fun e w' => e = .returned (.tuple #[rowVal 18, .bool true]) ∧ Below w.heap.size w w' := by
  have hz := zero26
  unfold zeroRow at *
  go_enter Tryz.func115, Tryz.ntmps115
  go_wp2_with fail
  refine (word_at18 _).mono ?_
  rintro e w1 ⟨rfl, hb⟩
  have hblk := Lib.hid (refinfo_blk hb)
  have hbelow := Lib.hid (refinfo_below hb)
  clear hb
  go_wp2_with (((with_reducible refine wpList_store_row (o := ⟨none, .store 189 (.tmp 2) (.tmp 114), _, _, _, none⟩) rfl 189 _ _ rfl w.heap.size (rowCells 18).toArray ?_ ?_ 189 _ (hblk.out _) ?_ ?_ ?_ ?_); rfl; kernel_rfl; exact info26; rfl; kernel_rfl))
  refine bodyPost_ret (v := .tuple #[rowVal 18, .bool true]) ?_ rfl ?_
  · exact results_cell_tmp Tryz.results115 _ _ w.heap.size 189 (rowCells 18).toArray (0, 0) _ rfl (setRow_heap _ _ _ _ _ _ (hblk.out _)) Tryz.underlying189 rfl info26 _ rfl
  · exact ⟨rfl, hbelow.out _ _⟩
theorem word_at19 (w : World) : Calls Tryz.prog 137 #[.int .i64 19] w fun e w' => e = .returned (.string ⟨#[108, 116, 117]⟩) ∧ Below w.heap.size w w' := word_yes 19 (by decide) (by decide) w
set_option maxRecDepth 100000 in
set_option maxHeartbeats 1000000 in
theorem refinfo_19 (w : World) :
    Calls Tryz.prog 115 #[.int .u8 19] w fun e w' => e = .returned (.tuple #[rowVal 19, .bool true]) ∧ Below w.heap.size w w' := by
  have hz := zero26
  unfold zeroRow at *
  go_enter Tryz.func115, Tryz.ntmps115
  go_wp2_with fail
  refine (word_at19 _).mono ?_
  rintro e w1 ⟨rfl, hb⟩
  have hblk := Lib.hid (refinfo_blk hb)
  have hbelow := Lib.hid (refinfo_below hb)
  clear hb
  go_wp2_with (((with_reducible refine wpList_store_row (o := ⟨none, .store 189 (.tmp 2) (.tmp 114), _, _, _, none⟩) rfl 189 _ _ rfl w.heap.size (rowCells 19).toArray ?_ ?_ 189 _ (hblk.out _) ?_ ?_ ?_ ?_); rfl; kernel_rfl; exact info26; rfl; kernel_rfl))
  refine bodyPost_ret (v := .tuple #[rowVal 19, .bool true]) ?_ rfl ?_
  · exact results_cell_tmp Tryz.results115 _ _ w.heap.size 189 (rowCells 19).toArray (0, 0) _ rfl (setRow_heap _ _ _ _ _ _ (hblk.out _)) Tryz.underlying189 rfl info26 _ rfl
  · exact ⟨rfl, hbelow.out _ _⟩
theorem word_at20 (w : World) : Calls Tryz.prog 137 #[.int .i64 20] w fun e w' => e = .returned (.string ⟨#[108, 101, 117]⟩) ∧ Below w.heap.size w w' := word_yes 20 (by decide) (by decide) w
set_option maxRecDepth 100000 in
set_option maxHeartbeats 1000000 in
theorem refinfo_20 (w : World) :
    Calls Tryz.prog 115 #[.int .u8 20] w fun e w' => e = .returned (.tuple #[rowVal 20, .bool true]) ∧ Below w.heap.size w w' := by
  have hz := zero26
  unfold zeroRow at *
  go_enter Tryz.func115, Tryz.ntmps115
  go_wp2_with fail
  refine (word_at20 _).mono ?_
  rintro e w1 ⟨rfl, hb⟩
  have hblk := Lib.hid (refinfo_blk hb)
  have hbelow := Lib.hid (refinfo_below hb)
  clear hb
  go_wp2_with (((with_reducible refine wpList_store_row (o := ⟨none, .store 189 (.tmp 2) (.tmp 114), _, _, _, none⟩) rfl 189 _ _ rfl w.heap.size (rowCells 20).toArray ?_ ?_ 189 _ (hblk.out _) ?_ ?_ ?_ ?_); rfl; kernel_rfl; exact info26; rfl; kernel_rfl))
  refine bodyPost_ret (v := .tuple #[rowVal 20, .bool true]) ?_ rfl ?_
  · exact results_cell_tmp Tryz.results115 _ _ w.heap.size 189 (rowCells 20).toArray (0, 0) _ rfl (setRow_heap _ _ _ _ _ _ (hblk.out _)) Tryz.underlying189 rfl info26 _ rfl
  · exact ⟨rfl, hbelow.out _ _⟩
theorem word_at21 (w : World) : Calls Tryz.prog 137 #[.int .i64 21] w fun e w' => e = .returned (.string ⟨#[103, 116, 117]⟩) ∧ Below w.heap.size w w' := word_yes 21 (by decide) (by decide) w
set_option maxRecDepth 100000 in
set_option maxHeartbeats 1000000 in
theorem refinfo_21 (w : World) :
    Calls Tryz.prog 115 #[.int .u8 21] w fun e w' => e = .returned (.tuple #[rowVal 21, .bool true]) ∧ Below w.heap.size w w' := by
  have hz := zero26
  unfold zeroRow at *
  go_enter Tryz.func115, Tryz.ntmps115
  go_wp2_with fail
  refine (word_at21 _).mono ?_
  rintro e w1 ⟨rfl, hb⟩
  have hblk := Lib.hid (refinfo_blk hb)
  have hbelow := Lib.hid (refinfo_below hb)
  clear hb
  go_wp2_with (((with_reducible refine wpList_store_row (o := ⟨none, .store 189 (.tmp 2) (.tmp 114), _, _, _, none⟩) rfl 189 _ _ rfl w.heap.size (rowCells 21).toArray ?_ ?_ 189 _ (hblk.out _) ?_ ?_ ?_ ?_); rfl; kernel_rfl; exact info26; rfl; kernel_rfl))
  refine bodyPost_ret (v := .tuple #[rowVal 21, .bool true]) ?_ rfl ?_
  · exact results_cell_tmp Tryz.results115 _ _ w.heap.size 189 (rowCells 21).toArray (0, 0) _ rfl (setRow_heap _ _ _ _ _ _ (hblk.out _)) Tryz.underlying189 rfl info26 _ rfl
  · exact ⟨rfl, hbelow.out _ _⟩
theorem word_at22 (w : World) : Calls Tryz.prog 137 #[.int .i64 22] w fun e w' => e = .returned (.string ⟨#[103, 101, 117]⟩) ∧ Below w.heap.size w w' := word_yes 22 (by decide) (by decide) w
set_option maxRecDepth 100000 in
set_option maxHeartbeats 1000000 in
theorem refinfo_22 (w : World) :
    Calls Tryz.prog 115 #[.int .u8 22] w fun e w' => e = .returned (.tuple #[rowVal 22, .bool true]) ∧ Below w.heap.size w w' := by
  have hz := zero26
  unfold zeroRow at *
  go_enter Tryz.func115, Tryz.ntmps115
  go_wp2_with fail
  refine (word_at22 _).mono ?_
  rintro e w1 ⟨rfl, hb⟩
  have hblk := Lib.hid (refinfo_blk hb)
  have hbelow := Lib.hid (refinfo_below hb)
  clear hb
  go_wp2_with (((with_reducible refine wpList_store_row (o := ⟨none, .store 189 (.tmp 2) (.tmp 114), _, _, _, none⟩) rfl 189 _ _ rfl w.heap.size (rowCells 22).toArray ?_ ?_ 189 _ (hblk.out _) ?_ ?_ ?_ ?_); rfl; kernel_rfl; exact info26; rfl; kernel_rfl))
  refine bodyPost_ret (v := .tuple #[rowVal 22, .bool true]) ?_ rfl ?_
  · exact results_cell_tmp Tryz.results115 _ _ w.heap.size 189 (rowCells 22).toArray (0, 0) _ rfl (setRow_heap _ _ _ _ _ _ (hblk.out _)) Tryz.underlying189 rfl info26 _ rfl
  · exact ⟨rfl, hbelow.out _ _⟩
theorem word_at23 (w : World) : Calls Tryz.prog 137 #[.int .i64 23] w fun e w' => e = .returned (.string ⟨#[101, 113, 102]⟩) ∧ Below w.heap.size w w' := word_yes 23 (by decide) (by decide) w
set_option maxRecDepth 100000 in
set_option maxHeartbeats 1000000 in
theorem refinfo_23 (w : World) :
    Calls Tryz.prog 115 #[.int .u8 23] w fun e w' => e = .returned (.tuple #[rowVal 23, .bool true]) ∧ Below w.heap.size w w' := by
  have hz := zero26
  unfold zeroRow at *
  go_enter Tryz.func115, Tryz.ntmps115
  go_wp2_with fail
  refine (word_at23 _).mono ?_
  rintro e w1 ⟨rfl, hb⟩
  have hblk := Lib.hid (refinfo_blk hb)
  have hbelow := Lib.hid (refinfo_below hb)
  clear hb
  go_wp2_with (((with_reducible refine wpList_store_row (o := ⟨none, .store 189 (.tmp 2) (.tmp 114), _, _, _, none⟩) rfl 189 _ _ rfl w.heap.size (rowCells 23).toArray ?_ ?_ 189 _ (hblk.out _) ?_ ?_ ?_ ?_); rfl; kernel_rfl; exact info26; rfl; kernel_rfl))
  refine bodyPost_ret (v := .tuple #[rowVal 23, .bool true]) ?_ rfl ?_
  · exact results_cell_tmp Tryz.results115 _ _ w.heap.size 189 (rowCells 23).toArray (0, 0) _ rfl (setRow_heap _ _ _ _ _ _ (hblk.out _)) Tryz.underlying189 rfl info26 _ rfl
  · exact ⟨rfl, hbelow.out _ _⟩
theorem word_at24 (w : World) : Calls Tryz.prog 137 #[.int .i64 24] w fun e w' => e = .returned (.string ⟨#[110, 101, 102]⟩) ∧ Below w.heap.size w w' := word_yes 24 (by decide) (by decide) w
set_option maxRecDepth 100000 in
set_option maxHeartbeats 1000000 in
theorem refinfo_24 (w : World) :
    Calls Tryz.prog 115 #[.int .u8 24] w fun e w' => e = .returned (.tuple #[rowVal 24, .bool true]) ∧ Below w.heap.size w w' := by
  have hz := zero26
  unfold zeroRow at *
  go_enter Tryz.func115, Tryz.ntmps115
  go_wp2_with fail
  refine (word_at24 _).mono ?_
  rintro e w1 ⟨rfl, hb⟩
  have hblk := Lib.hid (refinfo_blk hb)
  have hbelow := Lib.hid (refinfo_below hb)
  clear hb
  go_wp2_with (((with_reducible refine wpList_store_row (o := ⟨none, .store 189 (.tmp 2) (.tmp 114), _, _, _, none⟩) rfl 189 _ _ rfl w.heap.size (rowCells 24).toArray ?_ ?_ 189 _ (hblk.out _) ?_ ?_ ?_ ?_); rfl; kernel_rfl; exact info26; rfl; kernel_rfl))
  refine bodyPost_ret (v := .tuple #[rowVal 24, .bool true]) ?_ rfl ?_
  · exact results_cell_tmp Tryz.results115 _ _ w.heap.size 189 (rowCells 24).toArray (0, 0) _ rfl (setRow_heap _ _ _ _ _ _ (hblk.out _)) Tryz.underlying189 rfl info26 _ rfl
  · exact ⟨rfl, hbelow.out _ _⟩
theorem word_at25 (w : World) : Calls Tryz.prog 137 #[.int .i64 25] w fun e w' => e = .returned (.string ⟨#[108, 116, 102]⟩) ∧ Below w.heap.size w w' := word_yes 25 (by decide) (by decide) w
set_option maxRecDepth 100000 in
set_option maxHeartbeats 1000000 in
theorem refinfo_25 (w : World) :
    Calls Tryz.prog 115 #[.int .u8 25] w fun e w' => e = .returned (.tuple #[rowVal 25, .bool true]) ∧ Below w.heap.size w w' := by
  have hz := zero26
  unfold zeroRow at *
  go_enter Tryz.func115, Tryz.ntmps115
  go_wp2_with fail
  refine (word_at25 _).mono ?_
  rintro e w1 ⟨rfl, hb⟩
  have hblk := Lib.hid (refinfo_blk hb)
  have hbelow := Lib.hid (refinfo_below hb)
  clear hb
  go_wp2_with (((with_reducible refine wpList_store_row (o := ⟨none, .store 189 (.tmp 2) (.tmp 114), _, _, _, none⟩) rfl 189 _ _ rfl w.heap.size (rowCells 25).toArray ?_ ?_ 189 _ (hblk.out _) ?_ ?_ ?_ ?_); rfl; kernel_rfl; exact info26; rfl; kernel_rfl))
  refine bodyPost_ret (v := .tuple #[rowVal 25, .bool true]) ?_ rfl ?_
  · exact results_cell_tmp Tryz.results115 _ _ w.heap.size 189 (rowCells 25).toArray (0, 0) _ rfl (setRow_heap _ _ _ _ _ _ (hblk.out _)) Tryz.underlying189 rfl info26 _ rfl
  · exact ⟨rfl, hbelow.out _ _⟩
theorem word_at26 (w : World) : Calls Tryz.prog 137 #[.int .i64 26] w fun e w' => e = .returned (.string ⟨#[108, 101, 102]⟩) ∧ Below w.heap.size w w' := word_yes 26 (by decide) (by decide) w
set_option maxRecDepth 100000 in
set_option maxHeartbeats 1000000 in
theorem refinfo_26 (w : World) :
    Calls Tryz.prog 115 #[.int .u8 26] w fun e w' => e = .returned (.tuple #[rowVal 26, .bool true]) ∧ Below w.heap.size w w' := by
  have hz := zero26
  unfold zeroRow at *
  go_enter Tryz.func115, Tryz.ntmps115
  go_wp2_with fail
  refine (word_at26 _).mono ?_
  rintro e w1 ⟨rfl, hb⟩
  have hblk := Lib.hid (refinfo_blk hb)
  have hbelow := Lib.hid (refinfo_below hb)
  clear hb
  go_wp2_with (((with_reducible refine wpList_store_row (o := ⟨none, .store 189 (.tmp 2) (.tmp 114), _, _, _, none⟩) rfl 189 _ _ rfl w.heap.size (rowCells 26).toArray ?_ ?_ 189 _ (hblk.out _) ?_ ?_ ?_ ?_); rfl; kernel_rfl; exact info26; rfl; kernel_rfl))
  refine bodyPost_ret (v := .tuple #[rowVal 26, .bool true]) ?_ rfl ?_
  · exact results_cell_tmp Tryz.results115 _ _ w.heap.size 189 (rowCells 26).toArray (0, 0) _ rfl (setRow_heap _ _ _ _ _ _ (hblk.out _)) Tryz.underlying189 rfl info26 _ rfl
  · exact ⟨rfl, hbelow.out _ _⟩
theorem word_at27 (w : World) : Calls Tryz.prog 137 #[.int .i64 27] w fun e w' => e = .returned (.string ⟨#[103, 116, 102]⟩) ∧ Below w.heap.size w w' := word_yes 27 (by decide) (by decide) w
set_option maxRecDepth 100000 in
set_option maxHeartbeats 1000000 in
theorem refinfo_27 (w : World) :
    Calls Tryz.prog 115 #[.int .u8 27] w fun e w' => e = .returned (.tuple #[rowVal 27, .bool true]) ∧ Below w.heap.size w w' := by
  have hz := zero26
  unfold zeroRow at *
  go_enter Tryz.func115, Tryz.ntmps115
  go_wp2_with fail
  refine (word_at27 _).mono ?_
  rintro e w1 ⟨rfl, hb⟩
  have hblk := Lib.hid (refinfo_blk hb)
  have hbelow := Lib.hid (refinfo_below hb)
  clear hb
  go_wp2_with (((with_reducible refine wpList_store_row (o := ⟨none, .store 189 (.tmp 2) (.tmp 114), _, _, _, none⟩) rfl 189 _ _ rfl w.heap.size (rowCells 27).toArray ?_ ?_ 189 _ (hblk.out _) ?_ ?_ ?_ ?_); rfl; kernel_rfl; exact info26; rfl; kernel_rfl))
  refine bodyPost_ret (v := .tuple #[rowVal 27, .bool true]) ?_ rfl ?_
  · exact results_cell_tmp Tryz.results115 _ _ w.heap.size 189 (rowCells 27).toArray (0, 0) _ rfl (setRow_heap _ _ _ _ _ _ (hblk.out _)) Tryz.underlying189 rfl info26 _ rfl
  · exact ⟨rfl, hbelow.out _ _⟩
theorem word_at28 (w : World) : Calls Tryz.prog 137 #[.int .i64 28] w fun e w' => e = .returned (.string ⟨#[103, 101, 102]⟩) ∧ Below w.heap.size w w' := word_yes 28 (by decide) (by decide) w
set_option maxRecDepth 100000 in
set_option maxHeartbeats 1000000 in
theorem refinfo_28 (w : World) :
    Calls Tryz.prog 115 #[.int .u8 28] w fun e w' => e = .returned (.tuple #[rowVal 28, .bool true]) ∧ Below w.heap.size w w' := by
  have hz := zero26
  unfold zeroRow at *
  go_enter Tryz.func115, Tryz.ntmps115
  go_wp2_with fail
  refine (word_at28 _).mono ?_
  rintro e w1 ⟨rfl, hb⟩
  have hblk := Lib.hid (refinfo_blk hb)
  have hbelow := Lib.hid (refinfo_below hb)
  clear hb
  go_wp2_with (((with_reducible refine wpList_store_row (o := ⟨none, .store 189 (.tmp 2) (.tmp 114), _, _, _, none⟩) rfl 189 _ _ rfl w.heap.size (rowCells 28).toArray ?_ ?_ 189 _ (hblk.out _) ?_ ?_ ?_ ?_); rfl; kernel_rfl; exact info26; rfl; kernel_rfl))
  refine bodyPost_ret (v := .tuple #[rowVal 28, .bool true]) ?_ rfl ?_
  · exact results_cell_tmp Tryz.results115 _ _ w.heap.size 189 (rowCells 28).toArray (0, 0) _ rfl (setRow_heap _ _ _ _ _ _ (hblk.out _)) Tryz.underlying189 rfl info26 _ rfl
  · exact ⟨rfl, hbelow.out _ _⟩
theorem word_at29 (w : World) : Calls Tryz.prog 137 #[.int .i64 29] w fun e w' => e = .returned (.string ⟨#[108, 111, 97, 100, 49]⟩) ∧ Below w.heap.size w w' := word_yes 29 (by decide) (by decide) w
set_option maxRecDepth 100000 in
set_option maxHeartbeats 1000000 in
theorem refinfo_29 (w : World) :
    Calls Tryz.prog 115 #[.int .u8 29] w fun e w' => e = .returned (.tuple #[rowVal 29, .bool true]) ∧ Below w.heap.size w w' := by
  have hz := zero26
  unfold zeroRow at *
  go_enter Tryz.func115, Tryz.ntmps115
  go_wp2_with fail
  refine (word_at29 _).mono ?_
  rintro e w1 ⟨rfl, hb⟩
  have hblk := Lib.hid (refinfo_blk hb)
  have hbelow := Lib.hid (refinfo_below hb)
  clear hb
  go_wp2_with (((with_reducible refine wpList_store_row (o := ⟨none, .store 189 (.tmp 2) (.tmp 114), _, _, _, none⟩) rfl 189 _ _ rfl w.heap.size (rowCells 29).toArray ?_ ?_ 189 _ (hblk.out _) ?_ ?_ ?_ ?_); rfl; kernel_rfl; exact info26; rfl; kernel_rfl))
  refine bodyPost_ret (v := .tuple #[rowVal 29, .bool true]) ?_ rfl ?_
  · exact results_cell_tmp Tryz.results115 _ _ w.heap.size 189 (rowCells 29).toArray (0, 0) _ rfl (setRow_heap _ _ _ _ _ _ (hblk.out _)) Tryz.underlying189 rfl info26 _ rfl
  · exact ⟨rfl, hbelow.out _ _⟩
theorem word_at30 (w : World) : Calls Tryz.prog 137 #[.int .i64 30] w fun e w' => e = .returned (.string ⟨#[108, 111, 97, 100, 50]⟩) ∧ Below w.heap.size w w' := word_yes 30 (by decide) (by decide) w
set_option maxRecDepth 100000 in
set_option maxHeartbeats 1000000 in
theorem refinfo_30 (w : World) :
    Calls Tryz.prog 115 #[.int .u8 30] w fun e w' => e = .returned (.tuple #[rowVal 30, .bool true]) ∧ Below w.heap.size w w' := by
  have hz := zero26
  unfold zeroRow at *
  go_enter Tryz.func115, Tryz.ntmps115
  go_wp2_with fail
  refine (word_at30 _).mono ?_
  rintro e w1 ⟨rfl, hb⟩
  have hblk := Lib.hid (refinfo_blk hb)
  have hbelow := Lib.hid (refinfo_below hb)
  clear hb
  go_wp2_with (((with_reducible refine wpList_store_row (o := ⟨none, .store 189 (.tmp 2) (.tmp 114), _, _, _, none⟩) rfl 189 _ _ rfl w.heap.size (rowCells 30).toArray ?_ ?_ 189 _ (hblk.out _) ?_ ?_ ?_ ?_); rfl; kernel_rfl; exact info26; rfl; kernel_rfl))
  refine bodyPost_ret (v := .tuple #[rowVal 30, .bool true]) ?_ rfl ?_
  · exact results_cell_tmp Tryz.results115 _ _ w.heap.size 189 (rowCells 30).toArray (0, 0) _ rfl (setRow_heap _ _ _ _ _ _ (hblk.out _)) Tryz.underlying189 rfl info26 _ rfl
  · exact ⟨rfl, hbelow.out _ _⟩
theorem word_at31 (w : World) : Calls Tryz.prog 137 #[.int .i64 31] w fun e w' => e = .returned (.string ⟨#[108, 111, 97, 100, 52]⟩) ∧ Below w.heap.size w w' := word_yes 31 (by decide) (by decide) w
set_option maxRecDepth 100000 in
set_option maxHeartbeats 1000000 in
theorem refinfo_31 (w : World) :
    Calls Tryz.prog 115 #[.int .u8 31] w fun e w' => e = .returned (.tuple #[rowVal 31, .bool true]) ∧ Below w.heap.size w w' := by
  have hz := zero26
  unfold zeroRow at *
  go_enter Tryz.func115, Tryz.ntmps115
  go_wp2_with fail
  refine (word_at31 _).mono ?_
  rintro e w1 ⟨rfl, hb⟩
  have hblk := Lib.hid (refinfo_blk hb)
  have hbelow := Lib.hid (refinfo_below hb)
  clear hb
  go_wp2_with (((with_reducible refine wpList_store_row (o := ⟨none, .store 189 (.tmp 2) (.tmp 114), _, _, _, none⟩) rfl 189 _ _ rfl w.heap.size (rowCells 31).toArray ?_ ?_ 189 _ (hblk.out _) ?_ ?_ ?_ ?_); rfl; kernel_rfl; exact info26; rfl; kernel_rfl))
  refine bodyPost_ret (v := .tuple #[rowVal 31, .bool true]) ?_ rfl ?_
  · exact results_cell_tmp Tryz.results115 _ _ w.heap.size 189 (rowCells 31).toArray (0, 0) _ rfl (setRow_heap _ _ _ _ _ _ (hblk.out _)) Tryz.underlying189 rfl info26 _ rfl
  · exact ⟨rfl, hbelow.out _ _⟩
theorem word_at32 (w : World) : Calls Tryz.prog 137 #[.int .i64 32] w fun e w' => e = .returned (.string ⟨#[115, 116, 111, 114, 101, 49]⟩) ∧ Below w.heap.size w w' := word_yes 32 (by decide) (by decide) w
set_option maxRecDepth 100000 in
set_option maxHeartbeats 1000000 in
theorem refinfo_32 (w : World) :
    Calls Tryz.prog 115 #[.int .u8 32] w fun e w' => e = .returned (.tuple #[rowVal 32, .bool true]) ∧ Below w.heap.size w w' := by
  have hz := zero26
  unfold zeroRow at *
  go_enter Tryz.func115, Tryz.ntmps115
  go_wp2_with fail
  refine (word_at32 _).mono ?_
  rintro e w1 ⟨rfl, hb⟩
  have hblk := Lib.hid (refinfo_blk hb)
  have hbelow := Lib.hid (refinfo_below hb)
  clear hb
  go_wp2_with (((with_reducible refine wpList_store_row (o := ⟨none, .store 189 (.tmp 2) (.tmp 114), _, _, _, none⟩) rfl 189 _ _ rfl w.heap.size (rowCells 32).toArray ?_ ?_ 189 _ (hblk.out _) ?_ ?_ ?_ ?_); rfl; kernel_rfl; exact info26; rfl; kernel_rfl))
  refine bodyPost_ret (v := .tuple #[rowVal 32, .bool true]) ?_ rfl ?_
  · exact results_cell_tmp Tryz.results115 _ _ w.heap.size 189 (rowCells 32).toArray (0, 0) _ rfl (setRow_heap _ _ _ _ _ _ (hblk.out _)) Tryz.underlying189 rfl info26 _ rfl
  · exact ⟨rfl, hbelow.out _ _⟩
theorem word_at33 (w : World) : Calls Tryz.prog 137 #[.int .i64 33] w fun e w' => e = .returned (.string ⟨#[115, 116, 111, 114, 101, 50]⟩) ∧ Below w.heap.size w w' := word_yes 33 (by decide) (by decide) w
set_option maxRecDepth 100000 in
set_option maxHeartbeats 1000000 in
theorem refinfo_33 (w : World) :
    Calls Tryz.prog 115 #[.int .u8 33] w fun e w' => e = .returned (.tuple #[rowVal 33, .bool true]) ∧ Below w.heap.size w w' := by
  have hz := zero26
  unfold zeroRow at *
  go_enter Tryz.func115, Tryz.ntmps115
  go_wp2_with fail
  refine (word_at33 _).mono ?_
  rintro e w1 ⟨rfl, hb⟩
  have hblk := Lib.hid (refinfo_blk hb)
  have hbelow := Lib.hid (refinfo_below hb)
  clear hb
  go_wp2_with (((with_reducible refine wpList_store_row (o := ⟨none, .store 189 (.tmp 2) (.tmp 114), _, _, _, none⟩) rfl 189 _ _ rfl w.heap.size (rowCells 33).toArray ?_ ?_ 189 _ (hblk.out _) ?_ ?_ ?_ ?_); rfl; kernel_rfl; exact info26; rfl; kernel_rfl))
  refine bodyPost_ret (v := .tuple #[rowVal 33, .bool true]) ?_ rfl ?_
  · exact results_cell_tmp Tryz.results115 _ _ w.heap.size 189 (rowCells 33).toArray (0, 0) _ rfl (setRow_heap _ _ _ _ _ _ (hblk.out _)) Tryz.underlying189 rfl info26 _ rfl
  · exact ⟨rfl, hbelow.out _ _⟩
theorem word_at34 (w : World) : Calls Tryz.prog 137 #[.int .i64 34] w fun e w' => e = .returned (.string ⟨#[115, 116, 111, 114, 101, 52]⟩) ∧ Below w.heap.size w w' := word_yes 34 (by decide) (by decide) w
set_option maxRecDepth 100000 in
set_option maxHeartbeats 1000000 in
theorem refinfo_34 (w : World) :
    Calls Tryz.prog 115 #[.int .u8 34] w fun e w' => e = .returned (.tuple #[rowVal 34, .bool true]) ∧ Below w.heap.size w w' := by
  have hz := zero26
  unfold zeroRow at *
  go_enter Tryz.func115, Tryz.ntmps115
  go_wp2_with fail
  refine (word_at34 _).mono ?_
  rintro e w1 ⟨rfl, hb⟩
  have hblk := Lib.hid (refinfo_blk hb)
  have hbelow := Lib.hid (refinfo_below hb)
  clear hb
  go_wp2_with (((with_reducible refine wpList_store_row (o := ⟨none, .store 189 (.tmp 2) (.tmp 114), _, _, _, none⟩) rfl 189 _ _ rfl w.heap.size (rowCells 34).toArray ?_ ?_ 189 _ (hblk.out _) ?_ ?_ ?_ ?_); rfl; kernel_rfl; exact info26; rfl; kernel_rfl))
  refine bodyPost_ret (v := .tuple #[rowVal 34, .bool true]) ?_ rfl ?_
  · exact results_cell_tmp Tryz.results115 _ _ w.heap.size 189 (rowCells 34).toArray (0, 0) _ rfl (setRow_heap _ _ _ _ _ _ (hblk.out _)) Tryz.underlying189 rfl info26 _ rfl
  · exact ⟨rfl, hbelow.out _ _⟩
theorem word_at35 (w : World) : Calls Tryz.prog 137 #[.int .i64 35] w fun e w' => e = .returned (.string ⟨#[99, 111, 112, 121]⟩) ∧ Below w.heap.size w w' := word_yes 35 (by decide) (by decide) w
set_option maxRecDepth 100000 in
set_option maxHeartbeats 1000000 in
theorem refinfo_35 (w : World) :
    Calls Tryz.prog 115 #[.int .u8 35] w fun e w' => e = .returned (.tuple #[rowVal 35, .bool true]) ∧ Below w.heap.size w w' := by
  have hz := zero26
  unfold zeroRow at *
  go_enter Tryz.func115, Tryz.ntmps115
  go_wp2_with fail
  refine (word_at35 _).mono ?_
  rintro e w1 ⟨rfl, hb⟩
  have hblk := Lib.hid (refinfo_blk hb)
  have hbelow := Lib.hid (refinfo_below hb)
  clear hb
  go_wp2_with (((with_reducible refine wpList_store_row (o := ⟨none, .store 189 (.tmp 2) (.tmp 114), _, _, _, none⟩) rfl 189 _ _ rfl w.heap.size (rowCells 35).toArray ?_ ?_ 189 _ (hblk.out _) ?_ ?_ ?_ ?_); rfl; kernel_rfl; exact info26; rfl; kernel_rfl))
  refine bodyPost_ret (v := .tuple #[rowVal 35, .bool true]) ?_ rfl ?_
  · exact results_cell_tmp Tryz.results115 _ _ w.heap.size 189 (rowCells 35).toArray (0, 0) _ rfl (setRow_heap _ _ _ _ _ _ (hblk.out _)) Tryz.underlying189 rfl info26 _ rfl
  · exact ⟨rfl, hbelow.out _ _⟩
theorem word_at36 (w : World) : Calls Tryz.prog 137 #[.int .i64 36] w fun e w' => e = .returned (.string ⟨#[115, 101, 120, 56]⟩) ∧ Below w.heap.size w w' := word_yes 36 (by decide) (by decide) w
set_option maxRecDepth 100000 in
set_option maxHeartbeats 1000000 in
theorem refinfo_36 (w : World) :
    Calls Tryz.prog 115 #[.int .u8 36] w fun e w' => e = .returned (.tuple #[rowVal 36, .bool true]) ∧ Below w.heap.size w w' := by
  have hz := zero26
  unfold zeroRow at *
  go_enter Tryz.func115, Tryz.ntmps115
  go_wp2_with fail
  refine (word_at36 _).mono ?_
  rintro e w1 ⟨rfl, hb⟩
  have hblk := Lib.hid (refinfo_blk hb)
  have hbelow := Lib.hid (refinfo_below hb)
  clear hb
  go_wp2_with (((with_reducible refine wpList_store_row (o := ⟨none, .store 189 (.tmp 2) (.tmp 114), _, _, _, none⟩) rfl 189 _ _ rfl w.heap.size (rowCells 36).toArray ?_ ?_ 189 _ (hblk.out _) ?_ ?_ ?_ ?_); rfl; kernel_rfl; exact info26; rfl; kernel_rfl))
  refine bodyPost_ret (v := .tuple #[rowVal 36, .bool true]) ?_ rfl ?_
  · exact results_cell_tmp Tryz.results115 _ _ w.heap.size 189 (rowCells 36).toArray (0, 0) _ rfl (setRow_heap _ _ _ _ _ _ (hblk.out _)) Tryz.underlying189 rfl info26 _ rfl
  · exact ⟨rfl, hbelow.out _ _⟩
theorem word_at37 (w : World) : Calls Tryz.prog 137 #[.int .i64 37] w fun e w' => e = .returned (.string ⟨#[115, 101, 120, 49, 54]⟩) ∧ Below w.heap.size w w' := word_yes 37 (by decide) (by decide) w
set_option maxRecDepth 100000 in
set_option maxHeartbeats 1000000 in
theorem refinfo_37 (w : World) :
    Calls Tryz.prog 115 #[.int .u8 37] w fun e w' => e = .returned (.tuple #[rowVal 37, .bool true]) ∧ Below w.heap.size w w' := by
  have hz := zero26
  unfold zeroRow at *
  go_enter Tryz.func115, Tryz.ntmps115
  go_wp2_with fail
  refine (word_at37 _).mono ?_
  rintro e w1 ⟨rfl, hb⟩
  have hblk := Lib.hid (refinfo_blk hb)
  have hbelow := Lib.hid (refinfo_below hb)
  clear hb
  go_wp2_with (((with_reducible refine wpList_store_row (o := ⟨none, .store 189 (.tmp 2) (.tmp 114), _, _, _, none⟩) rfl 189 _ _ rfl w.heap.size (rowCells 37).toArray ?_ ?_ 189 _ (hblk.out _) ?_ ?_ ?_ ?_); rfl; kernel_rfl; exact info26; rfl; kernel_rfl))
  refine bodyPost_ret (v := .tuple #[rowVal 37, .bool true]) ?_ rfl ?_
  · exact results_cell_tmp Tryz.results115 _ _ w.heap.size 189 (rowCells 37).toArray (0, 0) _ rfl (setRow_heap _ _ _ _ _ _ (hblk.out _)) Tryz.underlying189 rfl info26 _ rfl
  · exact ⟨rfl, hbelow.out _ _⟩
theorem word_at38 (w : World) : Calls Tryz.prog 137 #[.int .i64 38] w fun e w' => e = .returned (.string ⟨#[110, 101, 103]⟩) ∧ Below w.heap.size w w' := word_yes 38 (by decide) (by decide) w
set_option maxRecDepth 100000 in
set_option maxHeartbeats 1000000 in
theorem refinfo_38 (w : World) :
    Calls Tryz.prog 115 #[.int .u8 38] w fun e w' => e = .returned (.tuple #[rowVal 38, .bool true]) ∧ Below w.heap.size w w' := by
  have hz := zero26
  unfold zeroRow at *
  go_enter Tryz.func115, Tryz.ntmps115
  go_wp2_with fail
  refine (word_at38 _).mono ?_
  rintro e w1 ⟨rfl, hb⟩
  have hblk := Lib.hid (refinfo_blk hb)
  have hbelow := Lib.hid (refinfo_below hb)
  clear hb
  go_wp2_with (((with_reducible refine wpList_store_row (o := ⟨none, .store 189 (.tmp 2) (.tmp 114), _, _, _, none⟩) rfl 189 _ _ rfl w.heap.size (rowCells 38).toArray ?_ ?_ 189 _ (hblk.out _) ?_ ?_ ?_ ?_); rfl; kernel_rfl; exact info26; rfl; kernel_rfl))
  refine bodyPost_ret (v := .tuple #[rowVal 38, .bool true]) ?_ rfl ?_
  · exact results_cell_tmp Tryz.results115 _ _ w.heap.size 189 (rowCells 38).toArray (0, 0) _ rfl (setRow_heap _ _ _ _ _ _ (hblk.out _)) Tryz.underlying189 rfl info26 _ rfl
  · exact ⟨rfl, hbelow.out _ _⟩
theorem word_at39 (w : World) : Calls Tryz.prog 137 #[.int .i64 39] w fun e w' => e = .returned (.string ⟨#[97, 100, 100]⟩) ∧ Below w.heap.size w w' := word_yes 39 (by decide) (by decide) w
set_option maxRecDepth 100000 in
set_option maxHeartbeats 1000000 in
theorem refinfo_39 (w : World) :
    Calls Tryz.prog 115 #[.int .u8 39] w fun e w' => e = .returned (.tuple #[rowVal 39, .bool true]) ∧ Below w.heap.size w w' := by
  have hz := zero26
  unfold zeroRow at *
  go_enter Tryz.func115, Tryz.ntmps115
  go_wp2_with fail
  refine (word_at39 _).mono ?_
  rintro e w1 ⟨rfl, hb⟩
  have hblk := Lib.hid (refinfo_blk hb)
  have hbelow := Lib.hid (refinfo_below hb)
  clear hb
  go_wp2_with (((with_reducible refine wpList_store_row (o := ⟨none, .store 189 (.tmp 2) (.tmp 114), _, _, _, none⟩) rfl 189 _ _ rfl w.heap.size (rowCells 39).toArray ?_ ?_ 189 _ (hblk.out _) ?_ ?_ ?_ ?_); rfl; kernel_rfl; exact info26; rfl; kernel_rfl))
  refine bodyPost_ret (v := .tuple #[rowVal 39, .bool true]) ?_ rfl ?_
  · exact results_cell_tmp Tryz.results115 _ _ w.heap.size 189 (rowCells 39).toArray (0, 0) _ rfl (setRow_heap _ _ _ _ _ _ (hblk.out _)) Tryz.underlying189 rfl info26 _ rfl
  · exact ⟨rfl, hbelow.out _ _⟩
theorem word_at40 (w : World) : Calls Tryz.prog 137 #[.int .i64 40] w fun e w' => e = .returned (.string ⟨#[115, 117, 98]⟩) ∧ Below w.heap.size w w' := word_yes 40 (by decide) (by decide) w
set_option maxRecDepth 100000 in
set_option maxHeartbeats 1000000 in
theorem refinfo_40 (w : World) :
    Calls Tryz.prog 115 #[.int .u8 40] w fun e w' => e = .returned (.tuple #[rowVal 40, .bool true]) ∧ Below w.heap.size w w' := by
  have hz := zero26
  unfold zeroRow at *
  go_enter Tryz.func115, Tryz.ntmps115
  go_wp2_with fail
  refine (word_at40 _).mono ?_
  rintro e w1 ⟨rfl, hb⟩
  have hblk := Lib.hid (refinfo_blk hb)
  have hbelow := Lib.hid (refinfo_below hb)
  clear hb
  go_wp2_with (((with_reducible refine wpList_store_row (o := ⟨none, .store 189 (.tmp 2) (.tmp 114), _, _, _, none⟩) rfl 189 _ _ rfl w.heap.size (rowCells 40).toArray ?_ ?_ 189 _ (hblk.out _) ?_ ?_ ?_ ?_); rfl; kernel_rfl; exact info26; rfl; kernel_rfl))
  refine bodyPost_ret (v := .tuple #[rowVal 40, .bool true]) ?_ rfl ?_
  · exact results_cell_tmp Tryz.results115 _ _ w.heap.size 189 (rowCells 40).toArray (0, 0) _ rfl (setRow_heap _ _ _ _ _ _ (hblk.out _)) Tryz.underlying189 rfl info26 _ rfl
  · exact ⟨rfl, hbelow.out _ _⟩
theorem word_at41 (w : World) : Calls Tryz.prog 137 #[.int .i64 41] w fun e w' => e = .returned (.string ⟨#[109, 117, 108]⟩) ∧ Below w.heap.size w w' := word_yes 41 (by decide) (by decide) w
set_option maxRecDepth 100000 in
set_option maxHeartbeats 1000000 in
theorem refinfo_41 (w : World) :
    Calls Tryz.prog 115 #[.int .u8 41] w fun e w' => e = .returned (.tuple #[rowVal 41, .bool true]) ∧ Below w.heap.size w w' := by
  have hz := zero26
  unfold zeroRow at *
  go_enter Tryz.func115, Tryz.ntmps115
  go_wp2_with fail
  refine (word_at41 _).mono ?_
  rintro e w1 ⟨rfl, hb⟩
  have hblk := Lib.hid (refinfo_blk hb)
  have hbelow := Lib.hid (refinfo_below hb)
  clear hb
  go_wp2_with (((with_reducible refine wpList_store_row (o := ⟨none, .store 189 (.tmp 2) (.tmp 114), _, _, _, none⟩) rfl 189 _ _ rfl w.heap.size (rowCells 41).toArray ?_ ?_ 189 _ (hblk.out _) ?_ ?_ ?_ ?_); rfl; kernel_rfl; exact info26; rfl; kernel_rfl))
  refine bodyPost_ret (v := .tuple #[rowVal 41, .bool true]) ?_ rfl ?_
  · exact results_cell_tmp Tryz.results115 _ _ w.heap.size 189 (rowCells 41).toArray (0, 0) _ rfl (setRow_heap _ _ _ _ _ _ (hblk.out _)) Tryz.underlying189 rfl info26 _ rfl
  · exact ⟨rfl, hbelow.out _ _⟩
theorem word_at42 (w : World) : Calls Tryz.prog 137 #[.int .i64 42] w fun e w' => e = .returned (.string ⟨#[100, 105, 118, 105]⟩) ∧ Below w.heap.size w w' := word_yes 42 (by decide) (by decide) w
set_option maxRecDepth 100000 in
set_option maxHeartbeats 1000000 in
theorem refinfo_42 (w : World) :
    Calls Tryz.prog 115 #[.int .u8 42] w fun e w' => e = .returned (.tuple #[rowVal 42, .bool true]) ∧ Below w.heap.size w w' := by
  have hz := zero26
  unfold zeroRow at *
  go_enter Tryz.func115, Tryz.ntmps115
  go_wp2_with fail
  refine (word_at42 _).mono ?_
  rintro e w1 ⟨rfl, hb⟩
  have hblk := Lib.hid (refinfo_blk hb)
  have hbelow := Lib.hid (refinfo_below hb)
  clear hb
  go_wp2_with (((with_reducible refine wpList_store_row (o := ⟨none, .store 189 (.tmp 2) (.tmp 114), _, _, _, none⟩) rfl 189 _ _ rfl w.heap.size (rowCells 42).toArray ?_ ?_ 189 _ (hblk.out _) ?_ ?_ ?_ ?_); rfl; kernel_rfl; exact info26; rfl; kernel_rfl))
  refine bodyPost_ret (v := .tuple #[rowVal 42, .bool true]) ?_ rfl ?_
  · exact results_cell_tmp Tryz.results115 _ _ w.heap.size 189 (rowCells 42).toArray (0, 0) _ rfl (setRow_heap _ _ _ _ _ _ (hblk.out _)) Tryz.underlying189 rfl info26 _ rfl
  · exact ⟨rfl, hbelow.out _ _⟩
theorem word_at43 (w : World) : Calls Tryz.prog 137 #[.int .i64 43] w fun e w' => e = .returned (.string ⟨#[100, 105, 118, 117]⟩) ∧ Below w.heap.size w w' := word_yes 43 (by decide) (by decide) w
set_option maxRecDepth 100000 in
set_option maxHeartbeats 1000000 in
theorem refinfo_43 (w : World) :
    Calls Tryz.prog 115 #[.int .u8 43] w fun e w' => e = .returned (.tuple #[rowVal 43, .bool true]) ∧ Below w.heap.size w w' := by
  have hz := zero26
  unfold zeroRow at *
  go_enter Tryz.func115, Tryz.ntmps115
  go_wp2_with fail
  refine (word_at43 _).mono ?_
  rintro e w1 ⟨rfl, hb⟩
  have hblk := Lib.hid (refinfo_blk hb)
  have hbelow := Lib.hid (refinfo_below hb)
  clear hb
  go_wp2_with (((with_reducible refine wpList_store_row (o := ⟨none, .store 189 (.tmp 2) (.tmp 114), _, _, _, none⟩) rfl 189 _ _ rfl w.heap.size (rowCells 43).toArray ?_ ?_ 189 _ (hblk.out _) ?_ ?_ ?_ ?_); rfl; kernel_rfl; exact info26; rfl; kernel_rfl))
  refine bodyPost_ret (v := .tuple #[rowVal 43, .bool true]) ?_ rfl ?_
  · exact results_cell_tmp Tryz.results115 _ _ w.heap.size 189 (rowCells 43).toArray (0, 0) _ rfl (setRow_heap _ _ _ _ _ _ (hblk.out _)) Tryz.underlying189 rfl info26 _ rfl
  · exact ⟨rfl, hbelow.out _ _⟩
theorem word_at44 (w : World) : Calls Tryz.prog 137 #[.int .i64 44] w fun e w' => e = .returned (.string ⟨#[109, 111, 100, 105]⟩) ∧ Below w.heap.size w w' := word_yes 44 (by decide) (by decide) w
set_option maxRecDepth 100000 in
set_option maxHeartbeats 1000000 in
theorem refinfo_44 (w : World) :
    Calls Tryz.prog 115 #[.int .u8 44] w fun e w' => e = .returned (.tuple #[rowVal 44, .bool true]) ∧ Below w.heap.size w w' := by
  have hz := zero26
  unfold zeroRow at *
  go_enter Tryz.func115, Tryz.ntmps115
  go_wp2_with fail
  refine (word_at44 _).mono ?_
  rintro e w1 ⟨rfl, hb⟩
  have hblk := Lib.hid (refinfo_blk hb)
  have hbelow := Lib.hid (refinfo_below hb)
  clear hb
  go_wp2_with (((with_reducible refine wpList_store_row (o := ⟨none, .store 189 (.tmp 2) (.tmp 114), _, _, _, none⟩) rfl 189 _ _ rfl w.heap.size (rowCells 44).toArray ?_ ?_ 189 _ (hblk.out _) ?_ ?_ ?_ ?_); rfl; kernel_rfl; exact info26; rfl; kernel_rfl))
  refine bodyPost_ret (v := .tuple #[rowVal 44, .bool true]) ?_ rfl ?_
  · exact results_cell_tmp Tryz.results115 _ _ w.heap.size 189 (rowCells 44).toArray (0, 0) _ rfl (setRow_heap _ _ _ _ _ _ (hblk.out _)) Tryz.underlying189 rfl info26 _ rfl
  · exact ⟨rfl, hbelow.out _ _⟩
theorem word_at45 (w : World) : Calls Tryz.prog 137 #[.int .i64 45] w fun e w' => e = .returned (.string ⟨#[109, 111, 100, 117]⟩) ∧ Below w.heap.size w w' := word_yes 45 (by decide) (by decide) w
set_option maxRecDepth 100000 in
set_option maxHeartbeats 1000000 in
theorem refinfo_45 (w : World) :
    Calls Tryz.prog 115 #[.int .u8 45] w fun e w' => e = .returned (.tuple #[rowVal 45, .bool true]) ∧ Below w.heap.size w w' := by
  have hz := zero26
  unfold zeroRow at *
  go_enter Tryz.func115, Tryz.ntmps115
  go_wp2_with fail
  refine (word_at45 _).mono ?_
  rintro e w1 ⟨rfl, hb⟩
  have hblk := Lib.hid (refinfo_blk hb)
  have hbelow := Lib.hid (refinfo_below hb)
  clear hb
  go_wp2_with (((with_reducible refine wpList_store_row (o := ⟨none, .store 189 (.tmp 2) (.tmp 114), _, _, _, none⟩) rfl 189 _ _ rfl w.heap.size (rowCells 45).toArray ?_ ?_ 189 _ (hblk.out _) ?_ ?_ ?_ ?_); rfl; kernel_rfl; exact info26; rfl; kernel_rfl))
  refine bodyPost_ret (v := .tuple #[rowVal 45, .bool true]) ?_ rfl ?_
  · exact results_cell_tmp Tryz.results115 _ _ w.heap.size 189 (rowCells 45).toArray (0, 0) _ rfl (setRow_heap _ _ _ _ _ _ (hblk.out _)) Tryz.underlying189 rfl info26 _ rfl
  · exact ⟨rfl, hbelow.out _ _⟩
theorem word_at46 (w : World) : Calls Tryz.prog 137 #[.int .i64 46] w fun e w' => e = .returned (.string ⟨#[97, 110, 100]⟩) ∧ Below w.heap.size w w' := word_yes 46 (by decide) (by decide) w
set_option maxRecDepth 100000 in
set_option maxHeartbeats 1000000 in
theorem refinfo_46 (w : World) :
    Calls Tryz.prog 115 #[.int .u8 46] w fun e w' => e = .returned (.tuple #[rowVal 46, .bool true]) ∧ Below w.heap.size w w' := by
  have hz := zero26
  unfold zeroRow at *
  go_enter Tryz.func115, Tryz.ntmps115
  go_wp2_with fail
  refine (word_at46 _).mono ?_
  rintro e w1 ⟨rfl, hb⟩
  have hblk := Lib.hid (refinfo_blk hb)
  have hbelow := Lib.hid (refinfo_below hb)
  clear hb
  go_wp2_with (((with_reducible refine wpList_store_row (o := ⟨none, .store 189 (.tmp 2) (.tmp 114), _, _, _, none⟩) rfl 189 _ _ rfl w.heap.size (rowCells 46).toArray ?_ ?_ 189 _ (hblk.out _) ?_ ?_ ?_ ?_); rfl; kernel_rfl; exact info26; rfl; kernel_rfl))
  refine bodyPost_ret (v := .tuple #[rowVal 46, .bool true]) ?_ rfl ?_
  · exact results_cell_tmp Tryz.results115 _ _ w.heap.size 189 (rowCells 46).toArray (0, 0) _ rfl (setRow_heap _ _ _ _ _ _ (hblk.out _)) Tryz.underlying189 rfl info26 _ rfl
  · exact ⟨rfl, hbelow.out _ _⟩
theorem word_at47 (w : World) : Calls Tryz.prog 137 #[.int .i64 47] w fun e w' => e = .returned (.string ⟨#[111, 114]⟩) ∧ Below w.heap.size w w' := word_yes 47 (by decide) (by decide) w
set_option maxRecDepth 100000 in
set_option maxHeartbeats 1000000 in
theorem refinfo_47 (w : World) :
    Calls Tryz.prog 115 #[.int .u8 47] w fun e w' => e = .returned (.tuple #[rowVal 47, .bool true]) ∧ Below w.heap.size w w' := by
  have hz := zero26
  unfold zeroRow at *
  go_enter Tryz.func115, Tryz.ntmps115
  go_wp2_with fail
  refine (word_at47 _).mono ?_
  rintro e w1 ⟨rfl, hb⟩
  have hblk := Lib.hid (refinfo_blk hb)
  have hbelow := Lib.hid (refinfo_below hb)
  clear hb
  go_wp2_with (((with_reducible refine wpList_store_row (o := ⟨none, .store 189 (.tmp 2) (.tmp 114), _, _, _, none⟩) rfl 189 _ _ rfl w.heap.size (rowCells 47).toArray ?_ ?_ 189 _ (hblk.out _) ?_ ?_ ?_ ?_); rfl; kernel_rfl; exact info26; rfl; kernel_rfl))
  refine bodyPost_ret (v := .tuple #[rowVal 47, .bool true]) ?_ rfl ?_
  · exact results_cell_tmp Tryz.results115 _ _ w.heap.size 189 (rowCells 47).toArray (0, 0) _ rfl (setRow_heap _ _ _ _ _ _ (hblk.out _)) Tryz.underlying189 rfl info26 _ rfl
  · exact ⟨rfl, hbelow.out _ _⟩
theorem word_at48 (w : World) : Calls Tryz.prog 137 #[.int .i64 48] w fun e w' => e = .returned (.string ⟨#[120, 111, 114]⟩) ∧ Below w.heap.size w w' := word_yes 48 (by decide) (by decide) w
set_option maxRecDepth 100000 in
set_option maxHeartbeats 1000000 in
theorem refinfo_48 (w : World) :
    Calls Tryz.prog 115 #[.int .u8 48] w fun e w' => e = .returned (.tuple #[rowVal 48, .bool true]) ∧ Below w.heap.size w w' := by
  have hz := zero26
  unfold zeroRow at *
  go_enter Tryz.func115, Tryz.ntmps115
  go_wp2_with fail
  refine (word_at48 _).mono ?_
  rintro e w1 ⟨rfl, hb⟩
  have hblk := Lib.hid (refinfo_blk hb)
  have hbelow := Lib.hid (refinfo_below hb)
  clear hb
  go_wp2_with (((with_reducible refine wpList_store_row (o := ⟨none, .store 189 (.tmp 2) (.tmp 114), _, _, _, none⟩) rfl 189 _ _ rfl w.heap.size (rowCells 48).toArray ?_ ?_ 189 _ (hblk.out _) ?_ ?_ ?_ ?_); rfl; kernel_rfl; exact info26; rfl; kernel_rfl))
  refine bodyPost_ret (v := .tuple #[rowVal 48, .bool true]) ?_ rfl ?_
  · exact results_cell_tmp Tryz.results115 _ _ w.heap.size 189 (rowCells 48).toArray (0, 0) _ rfl (setRow_heap _ _ _ _ _ _ (hblk.out _)) Tryz.underlying189 rfl info26 _ rfl
  · exact ⟨rfl, hbelow.out _ _⟩
theorem word_at49 (w : World) : Calls Tryz.prog 137 #[.int .i64 49] w fun e w' => e = .returned (.string ⟨#[110, 111, 116]⟩) ∧ Below w.heap.size w w' := word_yes 49 (by decide) (by decide) w
set_option maxRecDepth 100000 in
set_option maxHeartbeats 1000000 in
theorem refinfo_49 (w : World) :
    Calls Tryz.prog 115 #[.int .u8 49] w fun e w' => e = .returned (.tuple #[rowVal 49, .bool true]) ∧ Below w.heap.size w w' := by
  have hz := zero26
  unfold zeroRow at *
  go_enter Tryz.func115, Tryz.ntmps115
  go_wp2_with fail
  refine (word_at49 _).mono ?_
  rintro e w1 ⟨rfl, hb⟩
  have hblk := Lib.hid (refinfo_blk hb)
  have hbelow := Lib.hid (refinfo_below hb)
  clear hb
  go_wp2_with (((with_reducible refine wpList_store_row (o := ⟨none, .store 189 (.tmp 2) (.tmp 114), _, _, _, none⟩) rfl 189 _ _ rfl w.heap.size (rowCells 49).toArray ?_ ?_ 189 _ (hblk.out _) ?_ ?_ ?_ ?_); rfl; kernel_rfl; exact info26; rfl; kernel_rfl))
  refine bodyPost_ret (v := .tuple #[rowVal 49, .bool true]) ?_ rfl ?_
  · exact results_cell_tmp Tryz.results115 _ _ w.heap.size 189 (rowCells 49).toArray (0, 0) _ rfl (setRow_heap _ _ _ _ _ _ (hblk.out _)) Tryz.underlying189 rfl info26 _ rfl
  · exact ⟨rfl, hbelow.out _ _⟩
theorem word_at50 (w : World) : Calls Tryz.prog 137 #[.int .i64 50] w fun e w' => e = .returned (.string ⟨#[115, 104, 108]⟩) ∧ Below w.heap.size w w' := word_yes 50 (by decide) (by decide) w
set_option maxRecDepth 100000 in
set_option maxHeartbeats 1000000 in
theorem refinfo_50 (w : World) :
    Calls Tryz.prog 115 #[.int .u8 50] w fun e w' => e = .returned (.tuple #[rowVal 50, .bool true]) ∧ Below w.heap.size w w' := by
  have hz := zero26
  unfold zeroRow at *
  go_enter Tryz.func115, Tryz.ntmps115
  go_wp2_with fail
  refine (word_at50 _).mono ?_
  rintro e w1 ⟨rfl, hb⟩
  have hblk := Lib.hid (refinfo_blk hb)
  have hbelow := Lib.hid (refinfo_below hb)
  clear hb
  go_wp2_with (((with_reducible refine wpList_store_row (o := ⟨none, .store 189 (.tmp 2) (.tmp 114), _, _, _, none⟩) rfl 189 _ _ rfl w.heap.size (rowCells 50).toArray ?_ ?_ 189 _ (hblk.out _) ?_ ?_ ?_ ?_); rfl; kernel_rfl; exact info26; rfl; kernel_rfl))
  refine bodyPost_ret (v := .tuple #[rowVal 50, .bool true]) ?_ rfl ?_
  · exact results_cell_tmp Tryz.results115 _ _ w.heap.size 189 (rowCells 50).toArray (0, 0) _ rfl (setRow_heap _ _ _ _ _ _ (hblk.out _)) Tryz.underlying189 rfl info26 _ rfl
  · exact ⟨rfl, hbelow.out _ _⟩
theorem word_at51 (w : World) : Calls Tryz.prog 137 #[.int .i64 51] w fun e w' => e = .returned (.string ⟨#[115, 104, 114, 105]⟩) ∧ Below w.heap.size w w' := word_yes 51 (by decide) (by decide) w
set_option maxRecDepth 100000 in
set_option maxHeartbeats 1000000 in
theorem refinfo_51 (w : World) :
    Calls Tryz.prog 115 #[.int .u8 51] w fun e w' => e = .returned (.tuple #[rowVal 51, .bool true]) ∧ Below w.heap.size w w' := by
  have hz := zero26
  unfold zeroRow at *
  go_enter Tryz.func115, Tryz.ntmps115
  go_wp2_with fail
  refine (word_at51 _).mono ?_
  rintro e w1 ⟨rfl, hb⟩
  have hblk := Lib.hid (refinfo_blk hb)
  have hbelow := Lib.hid (refinfo_below hb)
  clear hb
  go_wp2_with (((with_reducible refine wpList_store_row (o := ⟨none, .store 189 (.tmp 2) (.tmp 114), _, _, _, none⟩) rfl 189 _ _ rfl w.heap.size (rowCells 51).toArray ?_ ?_ 189 _ (hblk.out _) ?_ ?_ ?_ ?_); rfl; kernel_rfl; exact info26; rfl; kernel_rfl))
  refine bodyPost_ret (v := .tuple #[rowVal 51, .bool true]) ?_ rfl ?_
  · exact results_cell_tmp Tryz.results115 _ _ w.heap.size 189 (rowCells 51).toArray (0, 0) _ rfl (setRow_heap _ _ _ _ _ _ (hblk.out _)) Tryz.underlying189 rfl info26 _ rfl
  · exact ⟨rfl, hbelow.out _ _⟩
theorem word_at52 (w : World) : Calls Tryz.prog 137 #[.int .i64 52] w fun e w' => e = .returned (.string ⟨#[115, 104, 114, 117]⟩) ∧ Below w.heap.size w w' := word_yes 52 (by decide) (by decide) w
set_option maxRecDepth 100000 in
set_option maxHeartbeats 1000000 in
theorem refinfo_52 (w : World) :
    Calls Tryz.prog 115 #[.int .u8 52] w fun e w' => e = .returned (.tuple #[rowVal 52, .bool true]) ∧ Below w.heap.size w w' := by
  have hz := zero26
  unfold zeroRow at *
  go_enter Tryz.func115, Tryz.ntmps115
  go_wp2_with fail
  refine (word_at52 _).mono ?_
  rintro e w1 ⟨rfl, hb⟩
  have hblk := Lib.hid (refinfo_blk hb)
  have hbelow := Lib.hid (refinfo_below hb)
  clear hb
  go_wp2_with (((with_reducible refine wpList_store_row (o := ⟨none, .store 189 (.tmp 2) (.tmp 114), _, _, _, none⟩) rfl 189 _ _ rfl w.heap.size (rowCells 52).toArray ?_ ?_ 189 _ (hblk.out _) ?_ ?_ ?_ ?_); rfl; kernel_rfl; exact info26; rfl; kernel_rfl))
  refine bodyPost_ret (v := .tuple #[rowVal 52, .bool true]) ?_ rfl ?_
  · exact results_cell_tmp Tryz.results115 _ _ w.heap.size 189 (rowCells 52).toArray (0, 0) _ rfl (setRow_heap _ _ _ _ _ _ (hblk.out _)) Tryz.underlying189 rfl info26 _ rfl
  · exact ⟨rfl, hbelow.out _ _⟩
theorem word_at53 (w : World) : Calls Tryz.prog 137 #[.int .i64 53] w fun e w' => e = .returned (.string ⟨#[110, 101, 103, 102]⟩) ∧ Below w.heap.size w w' := word_yes 53 (by decide) (by decide) w
set_option maxRecDepth 100000 in
set_option maxHeartbeats 1000000 in
theorem refinfo_53 (w : World) :
    Calls Tryz.prog 115 #[.int .u8 53] w fun e w' => e = .returned (.tuple #[rowVal 53, .bool true]) ∧ Below w.heap.size w w' := by
  have hz := zero26
  unfold zeroRow at *
  go_enter Tryz.func115, Tryz.ntmps115
  go_wp2_with fail
  refine (word_at53 _).mono ?_
  rintro e w1 ⟨rfl, hb⟩
  have hblk := Lib.hid (refinfo_blk hb)
  have hbelow := Lib.hid (refinfo_below hb)
  clear hb
  go_wp2_with (((with_reducible refine wpList_store_row (o := ⟨none, .store 189 (.tmp 2) (.tmp 114), _, _, _, none⟩) rfl 189 _ _ rfl w.heap.size (rowCells 53).toArray ?_ ?_ 189 _ (hblk.out _) ?_ ?_ ?_ ?_); rfl; kernel_rfl; exact info26; rfl; kernel_rfl))
  refine bodyPost_ret (v := .tuple #[rowVal 53, .bool true]) ?_ rfl ?_
  · exact results_cell_tmp Tryz.results115 _ _ w.heap.size 189 (rowCells 53).toArray (0, 0) _ rfl (setRow_heap _ _ _ _ _ _ (hblk.out _)) Tryz.underlying189 rfl info26 _ rfl
  · exact ⟨rfl, hbelow.out _ _⟩
theorem word_at54 (w : World) : Calls Tryz.prog 137 #[.int .i64 54] w fun e w' => e = .returned (.string ⟨#[97, 100, 100, 102]⟩) ∧ Below w.heap.size w w' := word_yes 54 (by decide) (by decide) w
set_option maxRecDepth 100000 in
set_option maxHeartbeats 1000000 in
theorem refinfo_54 (w : World) :
    Calls Tryz.prog 115 #[.int .u8 54] w fun e w' => e = .returned (.tuple #[rowVal 54, .bool true]) ∧ Below w.heap.size w w' := by
  have hz := zero26
  unfold zeroRow at *
  go_enter Tryz.func115, Tryz.ntmps115
  go_wp2_with fail
  refine (word_at54 _).mono ?_
  rintro e w1 ⟨rfl, hb⟩
  have hblk := Lib.hid (refinfo_blk hb)
  have hbelow := Lib.hid (refinfo_below hb)
  clear hb
  go_wp2_with (((with_reducible refine wpList_store_row (o := ⟨none, .store 189 (.tmp 2) (.tmp 114), _, _, _, none⟩) rfl 189 _ _ rfl w.heap.size (rowCells 54).toArray ?_ ?_ 189 _ (hblk.out _) ?_ ?_ ?_ ?_); rfl; kernel_rfl; exact info26; rfl; kernel_rfl))
  refine bodyPost_ret (v := .tuple #[rowVal 54, .bool true]) ?_ rfl ?_
  · exact results_cell_tmp Tryz.results115 _ _ w.heap.size 189 (rowCells 54).toArray (0, 0) _ rfl (setRow_heap _ _ _ _ _ _ (hblk.out _)) Tryz.underlying189 rfl info26 _ rfl
  · exact ⟨rfl, hbelow.out _ _⟩
theorem word_at55 (w : World) : Calls Tryz.prog 137 #[.int .i64 55] w fun e w' => e = .returned (.string ⟨#[115, 117, 98, 102]⟩) ∧ Below w.heap.size w w' := word_yes 55 (by decide) (by decide) w
set_option maxRecDepth 100000 in
set_option maxHeartbeats 1000000 in
theorem refinfo_55 (w : World) :
    Calls Tryz.prog 115 #[.int .u8 55] w fun e w' => e = .returned (.tuple #[rowVal 55, .bool true]) ∧ Below w.heap.size w w' := by
  have hz := zero26
  unfold zeroRow at *
  go_enter Tryz.func115, Tryz.ntmps115
  go_wp2_with fail
  refine (word_at55 _).mono ?_
  rintro e w1 ⟨rfl, hb⟩
  have hblk := Lib.hid (refinfo_blk hb)
  have hbelow := Lib.hid (refinfo_below hb)
  clear hb
  go_wp2_with (((with_reducible refine wpList_store_row (o := ⟨none, .store 189 (.tmp 2) (.tmp 114), _, _, _, none⟩) rfl 189 _ _ rfl w.heap.size (rowCells 55).toArray ?_ ?_ 189 _ (hblk.out _) ?_ ?_ ?_ ?_); rfl; kernel_rfl; exact info26; rfl; kernel_rfl))
  refine bodyPost_ret (v := .tuple #[rowVal 55, .bool true]) ?_ rfl ?_
  · exact results_cell_tmp Tryz.results115 _ _ w.heap.size 189 (rowCells 55).toArray (0, 0) _ rfl (setRow_heap _ _ _ _ _ _ (hblk.out _)) Tryz.underlying189 rfl info26 _ rfl
  · exact ⟨rfl, hbelow.out _ _⟩
theorem word_at56 (w : World) : Calls Tryz.prog 137 #[.int .i64 56] w fun e w' => e = .returned (.string ⟨#[109, 117, 108, 102]⟩) ∧ Below w.heap.size w w' := word_yes 56 (by decide) (by decide) w
set_option maxRecDepth 100000 in
set_option maxHeartbeats 1000000 in
theorem refinfo_56 (w : World) :
    Calls Tryz.prog 115 #[.int .u8 56] w fun e w' => e = .returned (.tuple #[rowVal 56, .bool true]) ∧ Below w.heap.size w w' := by
  have hz := zero26
  unfold zeroRow at *
  go_enter Tryz.func115, Tryz.ntmps115
  go_wp2_with fail
  refine (word_at56 _).mono ?_
  rintro e w1 ⟨rfl, hb⟩
  have hblk := Lib.hid (refinfo_blk hb)
  have hbelow := Lib.hid (refinfo_below hb)
  clear hb
  go_wp2_with (((with_reducible refine wpList_store_row (o := ⟨none, .store 189 (.tmp 2) (.tmp 114), _, _, _, none⟩) rfl 189 _ _ rfl w.heap.size (rowCells 56).toArray ?_ ?_ 189 _ (hblk.out _) ?_ ?_ ?_ ?_); rfl; kernel_rfl; exact info26; rfl; kernel_rfl))
  refine bodyPost_ret (v := .tuple #[rowVal 56, .bool true]) ?_ rfl ?_
  · exact results_cell_tmp Tryz.results115 _ _ w.heap.size 189 (rowCells 56).toArray (0, 0) _ rfl (setRow_heap _ _ _ _ _ _ (hblk.out _)) Tryz.underlying189 rfl info26 _ rfl
  · exact ⟨rfl, hbelow.out _ _⟩
theorem word_at57 (w : World) : Calls Tryz.prog 137 #[.int .i64 57] w fun e w' => e = .returned (.string ⟨#[100, 105, 118, 102]⟩) ∧ Below w.heap.size w w' := word_yes 57 (by decide) (by decide) w
set_option maxRecDepth 100000 in
set_option maxHeartbeats 1000000 in
theorem refinfo_57 (w : World) :
    Calls Tryz.prog 115 #[.int .u8 57] w fun e w' => e = .returned (.tuple #[rowVal 57, .bool true]) ∧ Below w.heap.size w w' := by
  have hz := zero26
  unfold zeroRow at *
  go_enter Tryz.func115, Tryz.ntmps115
  go_wp2_with fail
  refine (word_at57 _).mono ?_
  rintro e w1 ⟨rfl, hb⟩
  have hblk := Lib.hid (refinfo_blk hb)
  have hbelow := Lib.hid (refinfo_below hb)
  clear hb
  go_wp2_with (((with_reducible refine wpList_store_row (o := ⟨none, .store 189 (.tmp 2) (.tmp 114), _, _, _, none⟩) rfl 189 _ _ rfl w.heap.size (rowCells 57).toArray ?_ ?_ 189 _ (hblk.out _) ?_ ?_ ?_ ?_); rfl; kernel_rfl; exact info26; rfl; kernel_rfl))
  refine bodyPost_ret (v := .tuple #[rowVal 57, .bool true]) ?_ rfl ?_
  · exact results_cell_tmp Tryz.results115 _ _ w.heap.size 189 (rowCells 57).toArray (0, 0) _ rfl (setRow_heap _ _ _ _ _ _ (hblk.out _)) Tryz.underlying189 rfl info26 _ rfl
  · exact ⟨rfl, hbelow.out _ _⟩
theorem word_at58 (w : World) : Calls Tryz.prog 137 #[.int .i64 58] w fun e w' => e = .returned (.string ⟨#[99, 118, 105, 102]⟩) ∧ Below w.heap.size w w' := word_yes 58 (by decide) (by decide) w
set_option maxRecDepth 100000 in
set_option maxHeartbeats 1000000 in
theorem refinfo_58 (w : World) :
    Calls Tryz.prog 115 #[.int .u8 58] w fun e w' => e = .returned (.tuple #[rowVal 58, .bool true]) ∧ Below w.heap.size w w' := by
  have hz := zero26
  unfold zeroRow at *
  go_enter Tryz.func115, Tryz.ntmps115
  go_wp2_with fail
  refine (word_at58 _).mono ?_
  rintro e w1 ⟨rfl, hb⟩
  have hblk := Lib.hid (refinfo_blk hb)
  have hbelow := Lib.hid (refinfo_below hb)
  clear hb
  go_wp2_with (((with_reducible refine wpList_store_row (o := ⟨none, .store 189 (.tmp 2) (.tmp 114), _, _, _, none⟩) rfl 189 _ _ rfl w.heap.size (rowCells 58).toArray ?_ ?_ 189 _ (hblk.out _) ?_ ?_ ?_ ?_); rfl; kernel_rfl; exact info26; rfl; kernel_rfl))
  refine bodyPost_ret (v := .tuple #[rowVal 58, .bool true]) ?_ rfl ?_
  · exact results_cell_tmp Tryz.results115 _ _ w.heap.size 189 (rowCells 58).toArray (0, 0) _ rfl (setRow_heap _ _ _ _ _ _ (hblk.out _)) Tryz.underlying189 rfl info26 _ rfl
  · exact ⟨rfl, hbelow.out _ _⟩
theorem word_at59 (w : World) : Calls Tryz.prog 137 #[.int .i64 59] w fun e w' => e = .returned (.string ⟨#[99, 118, 102, 105]⟩) ∧ Below w.heap.size w w' := word_yes 59 (by decide) (by decide) w
set_option maxRecDepth 100000 in
set_option maxHeartbeats 1000000 in
theorem refinfo_59 (w : World) :
    Calls Tryz.prog 115 #[.int .u8 59] w fun e w' => e = .returned (.tuple #[rowVal 59, .bool true]) ∧ Below w.heap.size w w' := by
  have hz := zero26
  unfold zeroRow at *
  go_enter Tryz.func115, Tryz.ntmps115
  go_wp2_with fail
  refine (word_at59 _).mono ?_
  rintro e w1 ⟨rfl, hb⟩
  have hblk := Lib.hid (refinfo_blk hb)
  have hbelow := Lib.hid (refinfo_below hb)
  clear hb
  go_wp2_with (((with_reducible refine wpList_store_row (o := ⟨none, .store 189 (.tmp 2) (.tmp 114), _, _, _, none⟩) rfl 189 _ _ rfl w.heap.size (rowCells 59).toArray ?_ ?_ 189 _ (hblk.out _) ?_ ?_ ?_ ?_); rfl; kernel_rfl; exact info26; rfl; kernel_rfl))
  refine bodyPost_ret (v := .tuple #[rowVal 59, .bool true]) ?_ rfl ?_
  · exact results_cell_tmp Tryz.results115 _ _ w.heap.size 189 (rowCells 59).toArray (0, 0) _ rfl (setRow_heap _ _ _ _ _ _ (hblk.out _)) Tryz.underlying189 rfl info26 _ rfl
  · exact ⟨rfl, hbelow.out _ _⟩
theorem refinfo_yes (k : Nat) (hk : 1 ≤ k) (h2 : k ≤ 59) (w : World) :
    Calls Tryz.prog 115 #[.int .u8 k] w fun e w' => e = .returned (.tuple #[rowVal k, .bool true]) ∧ Below w.heap.size w w' :=
  match k, hk, h2 with
  | 0, h, _ => absurd h (by omega)
  | 1, _, _ => refinfo_1 w
  | 2, _, _ => refinfo_2 w
  | 3, _, _ => refinfo_3 w
  | 4, _, _ => refinfo_4 w
  | 5, _, _ => refinfo_5 w
  | 6, _, _ => refinfo_6 w
  | 7, _, _ => refinfo_7 w
  | 8, _, _ => refinfo_8 w
  | 9, _, _ => refinfo_9 w
  | 10, _, _ => refinfo_10 w
  | 11, _, _ => refinfo_11 w
  | 12, _, _ => refinfo_12 w
  | 13, _, _ => refinfo_13 w
  | 14, _, _ => refinfo_14 w
  | 15, _, _ => refinfo_15 w
  | 16, _, _ => refinfo_16 w
  | 17, _, _ => refinfo_17 w
  | 18, _, _ => refinfo_18 w
  | 19, _, _ => refinfo_19 w
  | 20, _, _ => refinfo_20 w
  | 21, _, _ => refinfo_21 w
  | 22, _, _ => refinfo_22 w
  | 23, _, _ => refinfo_23 w
  | 24, _, _ => refinfo_24 w
  | 25, _, _ => refinfo_25 w
  | 26, _, _ => refinfo_26 w
  | 27, _, _ => refinfo_27 w
  | 28, _, _ => refinfo_28 w
  | 29, _, _ => refinfo_29 w
  | 30, _, _ => refinfo_30 w
  | 31, _, _ => refinfo_31 w
  | 32, _, _ => refinfo_32 w
  | 33, _, _ => refinfo_33 w
  | 34, _, _ => refinfo_34 w
  | 35, _, _ => refinfo_35 w
  | 36, _, _ => refinfo_36 w
  | 37, _, _ => refinfo_37 w
  | 38, _, _ => refinfo_38 w
  | 39, _, _ => refinfo_39 w
  | 40, _, _ => refinfo_40 w
  | 41, _, _ => refinfo_41 w
  | 42, _, _ => refinfo_42 w
  | 43, _, _ => refinfo_43 w
  | 44, _, _ => refinfo_44 w
  | 45, _, _ => refinfo_45 w
  | 46, _, _ => refinfo_46 w
  | 47, _, _ => refinfo_47 w
  | 48, _, _ => refinfo_48 w
  | 49, _, _ => refinfo_49 w
  | 50, _, _ => refinfo_50 w
  | 51, _, _ => refinfo_51 w
  | 52, _, _ => refinfo_52 w
  | 53, _, _ => refinfo_53 w
  | 54, _, _ => refinfo_54 w
  | 55, _, _ => refinfo_55 w
  | 56, _, _ => refinfo_56 w
  | 57, _, _ => refinfo_57 w
  | 58, _, _ => refinfo_58 w
  | 59, _, _ => refinfo_59 w
  | n + 60, _, h => absurd h (by omega)
theorem refinfo_any (k : Nat) (h2 : k < 256) (w : World) :
    Calls Tryz.prog 115 #[.int .u8 k] w fun e w' => e = .returned (.tuple #[rowVal k, .bool (isOp k)]) ∧ Below w.heap.size w w' := by
  by_cases hk : 1 ≤ k ∧ k ≤ 59
  · rw [show isOp k = true from by simp [isOp, hk]]; exact refinfo_yes k hk.1 hk.2 w
  · rw [show isOp k = false from by simpa [isOp] using hk, rowVal_none k hk]; exact refinfo_no k (by omega) h2 w
set_option maxRecDepth 100000 in
set_option maxHeartbeats 400000 in
theorem refcheck_any (o a : Nat) (ho : o < 256) (w : World) :
    Calls Tryz.prog 82 #[.agg #[.int .u8 o, .int .u32 a]] w fun e w' => e = .returned (.int .i64 (checkN o a)) ∧ Below w.heap.size w w' := by
  have hz := zero26
  unfold zeroRow at hz
  have h1 := refinfo_any o ho
  unfold rowVal rowCells at h1
  have key : (isOp o = false ∧ checkN o a = 70) ∨ (isOp o = true ∧ ((mostOf o : Int) < (a : Int)) ∧ checkN o a = 71) ∨ (isOp o = true ∧ ¬ ((mostOf o : Int) < (a : Int)) ∧ checkN o a = 0) := by
    unfold checkN; cases isOp o <;> simp <;> omega
  rcases key with ⟨e1, e2⟩ | ⟨e1, h, e2⟩ | ⟨e1, h, e2⟩ <;> rw [e2] <;> rw [e1] at h1 <;> clear e1 e2
  all_goals
    go_enter Tryz.func82, Tryz.ntmps82
    go_wp2_with fail
    refine (h1 _).mono ?_
    rintro e w1 ⟨rfl, hb⟩
    clear h1
    have hs1 := Bel.lt hb
    obtain ⟨hc1, hf1⟩ := bcell hb
    simp only [World.size_alloc] at hc1 hf1
    go_wp2
    go_ret
    exact ⟨rfl, Bel.al (Bel.of hb) _⟩
set_option maxRecDepth 100000 in
set_option maxHeartbeats 400000 in
theorem refsize_any (o a : Nat) (ho : o < 256) (w : World) :
    Calls Tryz.prog 116 #[.agg #[.int .u8 o, .int .u32 a]] w fun e w' => e = .returned (.int .i64 (sizeN o a)) ∧ Below w.heap.size w w' := by
  have hz := zero26
  unfold zeroRow at hz
  have h1 := refinfo_any o ho
  unfold rowVal rowCells at h1
  have h2 := refcheck_any o a ho
  have hw := width_le o
  have key : (¬ checkN o a = 0 ∧ sizeN o a = 0) ∨ (checkN o a = 0 ∧ sizeN o a = 1 + widthOf o) := by
    unfold sizeN; by_cases h : checkN o a = 0 <;> simp [h]
  generalize isOp o = b at h1
  rcases key with ⟨e1, e2⟩ | ⟨e1, e2⟩ <;> rw [e2]
  · have hn : ((checkN o a : Int) != 0) = true := by simp; exact e1
    generalize checkN o a = c at h2 hn
    clear e1 e2
    go_enter Tryz.func116, Tryz.ntmps116
    go_wp2_with fail
    refine (h2 _).mono ?_
    rintro e w1 ⟨rfl, hb⟩
    clear h2
    go_wp2
    go_ret
    exact ⟨rfl, Bel.of hb⟩
  · rw [e1] at h2
    clear e1 e2
    go_enter Tryz.func116, Tryz.ntmps116
    go_wp2_with fail
    refine (h2 _).mono ?_
    rintro e w1 ⟨rfl, hb⟩
    clear h2
    have hs1 := Bel.lt hb
    obtain ⟨hc1, hf1⟩ := bcell hb
    simp only [World.size_alloc] at hc1 hf1
    go_wp2_with fail
    refine (h1 _).mono ?_
    rintro e w2 ⟨rfl, hb2⟩
    clear h1
    go_wp2
    go_ret
    exact ⟨by go_num, Bel.al (Bel.tr (Bel.of hb) hb2) _⟩
set_option maxRecDepth 100000 in
set_option maxHeartbeats 1000000 in
theorem refstacks_any (n : Nat) (w : World) : Calls Tryz.prog 83 #[.int .u32 n] w fun e w' => e = .returned (.bool (stackN n)) ∧ w = w' := by
  have hm2 : ((n : Int) % 4 == 0) = decide (n % 4 = 0) := by rw [Bool.eq_iff_iff]; simp; omega
  unfold stackN
  go_enter Tryz.func83, Tryz.ntmps83
  go_wp2
  all_goals
    go_ret
    exact ⟨ret_boolE (by rw [Bool.eq_iff_iff]; simp; try omega), rfl⟩
set_option maxRecDepth 100000 in
set_option maxHeartbeats 1000000 in
theorem refwhole_any (vc vj vd vn : Value) (m : Img) (w : World) (h : ImgAt w vc vj vd vn m) :
    Calls Tryz.prog 84 #[.agg #[vc, vj, vd, .int .u32 m.zero, .int .u32 m.stack, vn]] w fun e w' => e = .returned (.int .u64 ((roomN m : Nat) : Int)) ∧ Below w.heap.size w w' := by
  obtain ⟨ac, cc, rfl, -⟩ := h.c.1
  obtain ⟨aj, cj, rfl, -⟩ := h.j.1
  obtain ⟨ad, cd, rfl, -, hld, hdm, -, -⟩ := h.d.1
  obtain ⟨an, cn, rfl, -⟩ := h.n.1
  have hdl : m.data.length ≤ 9223372036854775807 := by unfold maxLen at hdm; omega
  have hz := h.z
  have hs := h.s
  unfold roomN
  clear h hdm hld
  go_enter Tryz.func84, Tryz.ntmps84
  go_wp2
  go_ret
  exact ⟨ret_intE (by omega), Bel.new w _⟩
set_option maxRecDepth 100000 in
set_option maxHeartbeats 2000000 in
theorem refnames_any (v : Value) (lx : List (ByteArray × Nat)) (w : World) (hv : Texts w v lx) :
    Calls Tryz.prog 85 #[v] w fun e w' => e = .returned (.bool (decide (lx.length ≤ 64) && namesN lx)) ∧ w = w' := by
  obtain ⟨⟨a, cap, rfl, hl, hlc, hcm, hn, hp⟩, -⟩ := hv
  have hm : lx.length ≤ 9223372036854775807 := by unfold maxLen at hcm; omega
  have Hp := Lib.hid hp
  obtain ⟨r, hr⟩ : ∃ r, r = (decide (lx.length ≤ 64) && namesN lx) := ⟨_, rfl⟩
  rw [← hr]
  have HR := Lib.hid hr
  clear hp hn hl hcm hr
  by_cases h64 : 64 < lx.length
  · have h1 : (64 : Int) < (lx.length : Int) := by omega
    go_enter Tryz.func85, Tryz.ntmps85
    go_wp2_with fail
    go_ret
    exact ⟨ret_boolE (by rw [HR.out, decide_eq_false (by omega)]; rfl), rfl⟩
  · have h1 : ¬ (64 : Int) < (lx.length : Int) := by omega
    have HR2 := Lib.hid (show r = namesN lx from by rw [HR.out, decide_eq_true (by omega)]; rfl)
    go_enter Tryz.func85, Tryz.ntmps85
    go_wp2_with fail
    go_loop [3] (fun x => ∃ k : Nat, k ≤ lx.length ∧ x = .int .i64 k ∧ ∀ j, j < k → nameN lx j = true) (fun x => lx.length - (intOf x).toNat)
    case atStart => exact ⟨0, by omega, rfl, fun j h => absurd h (Nat.not_lt_zero j)⟩
    case round =>
      obtain ⟨k, hk, rfl, hgd⟩ := hrel
      have Hgd := Lib.hid hgd
      clear hgd
      by_cases hlt : k < lx.length
      · obtain ⟨b, off, rfl, hb, hc⟩ := Hp.out (by omega)
        have hq := (hc (k * 2) (by rw [encX_length]; omega)).trans (encX_at lx k hlt).1
        have hq' : ∀ _ : 0 < k, w.cell? ⟨b, off + (k - 1) * 2, none⟩ = some (.string (lx.getD (k - 1) (ByteArray.empty, 0)).1) := fun h => (hc ((k - 1) * 2) (by rw [encX_length]; omega)).trans (encX_at lx (k - 1) (by omega)).1
        obtain ⟨nm, hnm⟩ : ∃ nm, nm = nameN lx k := ⟨_, rfl⟩
        have HF : Hid (nameN lx k = false → r = false) := Lib.hid (fun h => by
          rw [HR2.out]
          cases hb : namesN lx
          · rfl
          · have := (namesN_iff lx).1 hb k hlt; rw [h] at this; cases this)
        have HT : Hid (nameN lx k = true → ∀ j, j < k + 1 → nameN lx j = true) := Lib.hid (fun h j hj => by
          by_cases e : j = k
          · rw [e]; exact h
          · exact Hgd.out j (by omega))
        rw [← hnm] at HF HT
        unfold nameN at hnm
        have HN := Lib.hid hnm
        clear hnm
        generalize (lx.getD k (ByteArray.empty, 0)).1 = s at *
        generalize (lx.getD (k - 1) (ByteArray.empty, 0)).1 = t at *
        have hi1 : (k : Int) < (lx.length : Int) := by omega
        have hi0 : (0 : Int) ≤ (k : Int) := by omega
        clear hc
        by_cases hs1 : s.size < 1
        · have hr := HF.out (by rw [HN.out, decide_eq_false (by omega : ¬ 1 ≤ s.size)]; rfl)
          subst hr
          clear hq'
          go_wp2_with fail
          go_ret
          exact ⟨rfl, rfl⟩
        by_cases hs2 : 32 < s.size
        · have hr := HF.out (by rw [HN.out, decide_eq_true (by omega : 1 ≤ s.size), decide_eq_false (by omega : ¬ s.size ≤ 32)]; rfl)
          subst hr
          clear hq'
          go_wp2_with fail
          go_ret
          exact ⟨rfl, rfl⟩
        by_cases h0 : k = 0
        · have HT2 := Lib.hid (HT.out (by rw [HN.out, decide_eq_true (by omega : 1 ≤ s.size), decide_eq_true (by omega : s.size ≤ 32), decide_eq_true h0]; rfl))
          subst h0
          clear hq'
          simp only [Nat.zero_mul, Nat.add_zero] at hq
          go_wp2_with fail
          go_round
          case rel => exact ⟨0 + 1, by omega, by go_num, HT2.out⟩
          case measure => simp [intOf]; omega
        have hq1 := hq' (by omega)
        have hi2 : (0 : Int) ≤ (k : Int) - 1 := by omega
        have hi3 : (k : Int) - 1 < (lx.length : Int) := by omega
        have hi4 : ((k : Int) - 1).toNat = k - 1 := by omega
        have hi5 : (0 : Int) < (k : Int) := by omega
        clear hq'
        cases hg : (Op.bytesLess s.toList t.toList || s.toList == t.toList)
        · have HT2 := Lib.hid (HT.out (by rw [HN.out, decide_eq_true (by omega : 1 ≤ s.size), decide_eq_true (by omega : s.size ≤ 32), decide_eq_false h0]; unfold gtS; rw [hg]; rfl))
          go_wp2_with fail
          go_round
          case rel => exact ⟨k + 1, by omega, by go_num, HT2.out⟩
          case measure => simp [intOf]; omega
        · have hr := HF.out (by rw [HN.out, decide_eq_true (by omega : 1 ≤ s.size), decide_eq_true (by omega : s.size ≤ 32), decide_eq_false h0]; unfold gtS; rw [hg]; rfl)
          subst hr
          go_wp2_with fail
          go_ret
          exact ⟨rfl, rfl⟩
      · obtain rfl : k = lx.length := by omega
        have hr := HR2.out.trans ((namesN_iff lx).2 Hgd.out)
        subst hr
        go_wp2_with fail
        go_ret
        exact ⟨rfl, rfl⟩
set_option maxRecDepth 100000 in
set_option maxHeartbeats 4000000 in
theorem refimg_any (vc vj vd vn : Value) (m : Img) (w : World) (h : ImgAt w vc vj vd vn m) :
    Calls Tryz.prog 43 #[.agg #[vc, vj, vd, .int .u32 m.zero, .int .u32 m.stack, vn]] w fun e w' => e = .returned (.int .i64 (checkI m)) ∧ Below w.heap.size w w' := by
  have H := Lib.hid h
  have hb0 := Bel.new w (.cells #[vc, vj, vd, .int .u32 m.zero, .int .u32 m.stack, vn] 28)
  have Hb0 := Lib.hid hb0
  have HC := Lib.hid (cells_new6 w vc vj vd (.int .u32 m.zero) (.int .u32 m.stack) vn 28)
  have hlt0 : w.heap.size < (w.alloc (.cells #[vc, vj, vd, .int .u32 m.zero, .int .u32 m.stack, vn] 28)).heap.size := by simp
  obtain ⟨ac, cc, rfl, hlc, hcm, -, hpc⟩ := h.c.opened
  obtain ⟨aj, cj, rfl, -, hlj, hjm, -, -⟩ := h.j.1
  obtain ⟨ad, cd, rfl, -, hld, hdm, -, -⟩ := h.d.1
  obtain ⟨an, cn, rfl, -, hln, hnm, -, -⟩ := h.n.1
  have hcl : m.code.length ≤ 9223372036854775807 := by unfold maxLen at hcm; omega
  have hjl : m.js.length ≤ 9223372036854775807 := by unfold maxLen at hjm; omega
  have Hpc := Lib.hid hpc
  have hz := h.z
  have hs := h.s
  clear h hpc hb0
  obtain ⟨r, hr⟩ : ∃ r, r = checkI m := ⟨_, rfl⟩
  rw [← hr]
  have HR := Lib.hid hr
  clear hr
  by_cases h1 : 16384 < m.code.length
  · have h1' : (16384 : Int) < (m.code.length : Int) := by omega
    go_enter Tryz.func43, Tryz.ntmps43
    go_wp2
    go_ret
    exact ⟨ret_natE (a := 73) (HR.out.trans (checkI_1 h1)), Hb0.out⟩
  · have h1' : ¬ (16384 : Int) < (m.code.length : Int) := by omega
    go_enter Tryz.func43, Tryz.ntmps43
    go_wp2_with fail
    obtain ⟨W0, hW0⟩ : ∃ W0, W0 = w.alloc (.cells #[.slice ac m.code.length cc, .slice aj m.js.length cj, .slice ad m.data.length cd, .int .u32 m.zero, .int .u32 m.stack, .slice an m.lx.length cn] 28) := ⟨_, rfl⟩
    rw [← hW0] at HC Hb0 hlt0 ⊢
    clear hW0
    go_loopw [3] (fun i wr => ∃ k : Nat, k ≤ m.code.length ∧ i = .int .i64 k ∧ Below W0.heap.size W0 wr ∧ ∀ j, j < k → checkN (m.code.getD j (0, 0)).1 (m.code.getD j (0, 0)).2 = 0) (fun i _ => m.code.length - (intOf i).toNat)
    case atStart => exact ⟨0, by omega, rfl, Below.refl _ _, fun j h => absurd h (Nat.not_lt_zero j)⟩
    case round =>
      obtain ⟨k, hk, rfl, hb, hgd⟩ := hrel
      have c0 := (hb.cell (p := ⟨w.heap.size, 0, none⟩) hlt0).trans HC.out.1
      by_cases hlt : k < m.code.length
      · obtain ⟨b, off, rfl, hbl, hc⟩ := Hpc.out (by omega)
        obtain ⟨q1, q2⟩ := hc k hlt
        have hbw := Bel.tr Hb0.out hb
        have q1 := (hbw.cell (p := ⟨b, off + k * 2, none⟩) hbl).trans q1
        have q2 := (hbw.cell (p := ⟨b, off + k * 2 + 1, none⟩) hbl).trans q2
        have hol := (H.out.c.lt k).1
        have hbad := fun h => firstBad_at (l := m.code) hlt hgd h
        have hgd' : checkN (m.code.getD k (0, 0)).1 (m.code.getD k (0, 0)).2 = 0 → ∀ j, j < k + 1 → checkN (m.code.getD j (0, 0)).1 (m.code.getD j (0, 0)).2 = 0 := fun h j hj => by
          by_cases e : j = k
          · subst e; exact h
          · exact hgd j (by omega)
        have Hbk := Lib.hid hb
        generalize m.code.getD k (0, 0) = x at *
        obtain ⟨o, x⟩ := x
        simp only at q1 q2 hol hbad hgd'
        have hki : (k : Int) < (m.code.length : Int) := by omega
        have hk0 : (0 : Int) ≤ (k : Int) := by omega
        have hck := Lib.hid (refcheck_any o x hol wr)
        obtain ⟨ck, hce⟩ : ∃ ck, ck = checkN o x := ⟨_, rfl⟩
        rw [← hce] at hck hbad hgd'
        have Hbad := Lib.hid hbad
        have Hgd' := Lib.hid hgd'
        clear hbad hgd' hgd hc hbw hb hce
        go_wp2_with fail
        refine hck.out.mono ?_
        rintro e w1 ⟨rfl, hb1⟩
        have Hb1 := Lib.hid (Bel.tr Hbk.out hb1)
        clear hb1 hck q1 q2
        by_cases hc0 : ck = 0
        · have HG := Lib.hid (Hgd'.out hc0)
          subst hc0
          go_wp2
          go_roundw
          case rel => exact ⟨k + 1, by omega, by go_num, Hb1.out, HG.out⟩
          case measure => simp [intOf]; omega
        · have hd : ((ck : Int) == 0) = false := by simp; omega
          have hd2 : ((ck : Int) != 0) = true := by simp; omega
          have HX := Lib.hid (Hbad.out hc0)
          go_wp2
          go_ret
          exact ⟨ret_natE (HR.out.trans ((checkI_2 h1 (by rw [HX.out]; exact hc0)).trans HX.out)), Bel.tr Hb0.out Hb1.out⟩
      · obtain rfl : k = m.code.length := by omega
        have hfb : firstBad m.code = 0 := firstBad_none hgd
        have Hfb := Lib.hid hfb
        have Hb := Lib.hid hb
        obtain ⟨-, c1, c2, c3, c4, c5⟩ := HC.out
        have c1 := (hb.cell (p := ⟨w.heap.size, 1, none⟩) hlt0).trans c1
        have c2 := (hb.cell (p := ⟨w.heap.size, 2, none⟩) hlt0).trans c2
        have c3 := (hb.cell (p := ⟨w.heap.size, 3, none⟩) hlt0).trans c3
        have c4 := (hb.cell (p := ⟨w.heap.size, 4, none⟩) hlt0).trans c4
        have c5 := (hb.cell (p := ⟨w.heap.size, 5, none⟩) hlt0).trans c5
        have Hwr := Lib.hid (H.out.below (Bel.tr Hb0.out hb))
        clear hgd hfb hb Hpc hlt hk
        by_cases h2 : 16384 < m.js.length
        · have h2' : (16384 : Int) < (m.js.length : Int) := by omega
          go_wp2
          go_ret
          exact ⟨ret_natE (a := 86) (HR.out.trans (checkI_3 h1 Hfb.out h2)), Bel.tr Hb0.out Hb.out⟩
        · have h2' : ¬ (16384 : Int) < (m.js.length : Int) := by omega
          have hst := Lib.hid (refstacks_any m.stack wr)
          have hrm := Lib.hid (refwhole_any _ _ _ _ m wr Hwr.out)
          obtain ⟨sb, hsb⟩ : ∃ sb, sb = stackN m.stack := ⟨_, rfl⟩
          obtain ⟨rm, hrme⟩ : ∃ rm, rm = roomN m := ⟨_, rfl⟩
          rw [← hsb] at hst
          rw [← hrme] at hrm
          have HSB := Lib.hid hsb
          have HRM := Lib.hid hrme
          clear hsb hrme
          cases sb
          · go_wp2_with fail
            refine hst.out.mono ?_
            rintro e w2 ⟨rfl, rfl⟩
            go_wp2_with fail
            go_ret
            exact ⟨ret_natE (a := 85) (HR.out.trans (checkI_4 h1 Hfb.out h2 (.inl HSB.out.symm))), Bel.tr Hb0.out Hb.out⟩
          · go_wp2_with fail
            refine hst.out.mono ?_
            rintro e w2 ⟨rfl, rfl⟩
            go_wp2_with fail
            refine hrm.out.mono ?_
            rintro e w2 ⟨rfl, hb2⟩
            have c5' := (hb2.cell (p := ⟨w.heap.size, 5, none⟩) (Nat.lt_of_lt_of_le hlt0 Hb.out.size)).trans c5
            have Hb2 := Lib.hid (Bel.tr Hb.out hb2)
            have hnm2 := Lib.hid (refnames_any _ m.lx w2 (Hwr.out.n.below hb2))
            clear hb2 c1 c2 c3 c4 c5 c0 hst hrm
            by_cases h3 : 65536 < rm
            · have h3' : (65536 : Int) < (rm : Int) := by omega
              go_wp2_with fail
              go_ret
              exact ⟨ret_natE (a := 85) (HR.out.trans (checkI_4 h1 Hfb.out h2 (.inr (by rw [← HRM.out]; exact h3)))), Bel.tr Hb0.out Hb2.out⟩
            · have h3' : ¬ (65536 : Int) < (rm : Int) := by omega
              obtain ⟨nb, hnb⟩ : ∃ nb, nb = (decide (m.lx.length ≤ 64) && namesN m.lx) := ⟨_, rfl⟩
              rw [← hnb] at hnm2
              have HE : Hid (r = if nb = true then 0 else 87) := Lib.hid (by
                rw [HR.out, hnb]
                by_cases h6 : 64 < m.lx.length
                · rw [checkI_5 h1 Hfb.out h2 HSB.out.symm (by rw [← HRM.out]; exact h3) h6, decide_eq_false (by omega)]; rfl
                · rw [checkI_6 h1 Hfb.out h2 HSB.out.symm (by rw [← HRM.out]; exact h3) h6, decide_eq_true (by omega), Bool.true_and])
              clear hnb
              go_wp2_with fail
              refine hnm2.out.mono ?_
              rintro e w3 ⟨rfl, rfl⟩
              cases nb
              · go_wp2_with fail
                go_ret
                exact ⟨ret_natE (a := 87) HE.out, Bel.tr Hb0.out Hb2.out⟩
              · go_wp2_with fail
                go_ret
                exact ⟨ret_natE (a := 0) HE.out, Bel.tr Hb0.out Hb2.out⟩
def IsBegin (code : List (Nat × Nat)) (i b : Nat) : Prop := b ≤ i ∧ (opAt code b = 3 ∨ b = 0) ∧ ∀ j, b < j → j ≤ i → opAt code j ≠ 3
def IsEnd (code : List (Nat × Nat)) (b e : Nat) : Prop := b < e ∧ e ≤ code.length ∧ (e = code.length ∨ opAt code e = 3) ∧ ∀ j, b < j → j < e → opAt code j ≠ 3
section
variable {code : List (Nat × Nat)} {P : List (Nat × Nat × Nat)} {O : List Nat}
theorem Tiles.begin_eq (h : Tiles code code.length P O) (h0 : opAt code 0 = 3) {i b : Nat} (hi : i < code.length) (hb : IsBegin code i b) : b = (P.getD (O.getD i 0) (0, 0, 0)).1 := by
  obtain ⟨h1, h2, h3⟩ := hb
  have hb3 : opAt code b = 3 := by rcases h2 with h2 | rfl; exact h2; exact h0
  obtain ⟨l1, l2⟩ := h.lo i hi
  have hr := h.lt i hi
  generalize hrr : O.getD i 0 = r at *
  rcases Nat.lt_trichotomy b (P.getD r (0, 0, 0)).1 with c | c | c
  · have := h.mid r hr _ (Nat.le_refl _) (h.bd r hr).1
    have := (h.en _ (Nat.lt_of_le_of_lt l1 hi)).2 (by rw [this])
    exact absurd this (h3 _ c l1)
  · exact c
  · have hm := h.mid r hr b (Nat.le_of_lt c) (Nat.lt_of_le_of_lt h1 l2)
    have := (h.en b (Nat.lt_of_le_of_lt h1 hi)).1 hb3
    rw [hm] at this
    omega
theorem Tiles.end_enter (h : Tiles code code.length P O) {r : Nat} (hr : r < P.length) (hk : (P.getD r (0, 0, 0)).2.1 < code.length) : opAt code (P.getD r (0, 0, 0)).2.1 = 3 := by
  obtain ⟨b1, b2⟩ := h.bd r hr
  generalize hx : (P.getD r (0, 0, 0)).2.1 = x at *
  refine (h.en x hk).2 ?_
  obtain ⟨l1, l2⟩ := h.lo x hk
  have hj := h.lt x hk
  generalize hjj : O.getD x 0 = j at *
  rcases Nat.lt_or_ge (P.getD j (0, 0, 0)).1 x with c | c
  · have m1 := h.mid j hj (x - 1) (by omega) (by omega)
    have m2 := h.mid r hr (x - 1) (by omega) (by omega)
    rw [m1] at m2
    subst m2
    omega
  · omega
theorem Tiles.end_eq (h : Tiles code code.length P O) {r e : Nat} (hr : r < P.length) (he : IsEnd code (P.getD r (0, 0, 0)).1 e) : e = (P.getD r (0, 0, 0)).2.1 := by
  obtain ⟨h1, h2, h3, h4⟩ := he
  obtain ⟨b1, b2⟩ := h.bd r hr
  rcases Nat.lt_trichotomy e (P.getD r (0, 0, 0)).2.1 with c | c | c
  · have e3 : opAt code e = 3 := by rcases h3 with h3 | h3; omega; exact h3
    have hm := h.mid r hr e (Nat.le_of_lt h1) c
    have := (h.en e (by omega)).1 e3
    rw [hm] at this
    omega
  · exact c
  · exact absurd (h.end_enter hr (by omega)) (h4 _ b1 c)
theorem Tiles.inside (h : Tiles code code.length P O) {x : Nat} (hx : x < code.length) : insideN (P.getD (O.getD x 0) (0, 0, 0)) x = (opAt code x != 3) := by
  obtain ⟨l1, l2⟩ := h.lo x hx
  have he := h.en x hx
  unfold insideN opAt
  by_cases c : (code.getD x (0, 0)).1 = 3
  · have := he.1 c
    rw [decide_eq_false (by omega), bne_eq_false_iff_eq.2 c]; rfl
  · have : ¬ (P.getD (O.getD x 0) (0, 0, 0)).1 = x := fun e => c (he.2 e)
    rw [decide_eq_true (by omega), decide_eq_true l2, bne_iff_ne.2 c]; rfl
theorem Tiles.begins (h : Tiles code code.length P O) (x : Nat) : beginsN P O x = (decide (x < code.length) && (opAt code x == 3)) := by
  unfold beginsN
  rw [h.ol]
  by_cases hx : x < code.length
  · rw [decide_eq_true hx, Bool.true_and, Bool.true_and, Bool.eq_iff_iff, beq_iff_eq, beq_iff_eq]
    exact (h.en x hx).symm
  · rw [decide_eq_false hx]; rfl
end
def refFault (code : List (Nat × Nat)) (i b e : Nat) : Nat :=
  if opAt code i = 3 ∧ ((code.getD i (0, 0)).2 = 0 ∨ (code.getD i (0, 0)).2 % 4 ≠ 0 ∨ 4096 < (code.getD i (0, 0)).2) then 131
  else if opAt code i = 4 ∧ (code.getD i (0, 0)).2 ≠ (code.getD b (0, 0)).2 then 131
  else if (kindOf (opAt code i) = 3 ∨ kindOf (opAt code i) = 2) ∧ ((code.getD i (0, 0)).2 ≤ b ∨ e ≤ (code.getD i (0, 0)).2) then 132
  else if i + 1 = e ∧ kindOf (opAt code i) ≠ 3 ∧ kindOf (opAt code i) ≠ 4 ∧ kindOf (opAt code i) ≠ 7 ∧ kindOf (opAt code i) ≠ 8 then 133 else 0
theorem kind6 {o : Nat} (h : isOp o = true) : kindOf o = 6 ↔ o = 3 := by
  have hlt : o < 60 := by simp [isOp] at h; omega
  have : ∀ o < 60, (kindOf o = 6 ↔ o = 3) := by decide +kernel
  exact this o hlt
theorem kind7 {o : Nat} (h : isOp o = true) : kindOf o = 7 ↔ o = 4 := by
  have hlt : o < 60 := by simp [isOp] at h; omega
  have : ∀ o < 60, (kindOf o = 7 ↔ o = 4) := by decide +kernel
  exact this o hlt
theorem refFault_eq {code : List (Nat × Nat)} (h : Tiles code code.length (psTo code code.length) (ofTo code code.length)) {i : Nat} (hi : i < code.length) (hop : isOp (opAt code i) = true) :
    refFault code i ((psTo code code.length).getD ((ofTo code code.length).getD i 0) (0, 0, 0)).1 ((psTo code code.length).getD ((ofTo code code.length).getD i 0) (0, 0, 0)).2.1 = faultAt code i := by
  have hr := h.lt i hi
  have hf := h.fr _ hr
  have k6 := kind6 hop
  have k7 := kind7 hop
  unfold refFault faultAt faultN faultK insideN endsK
  rw [← hf]
  generalize (psTo code code.length).getD ((ofTo code code.length).getD i 0) (0, 0, 0) = p at *
  have ho : opAt code i = (code.getD i (0, 0)).1 := rfl
  rw [ho] at k6 k7 ⊢
  generalize (code.getD i (0, 0)).2 = a at *
  generalize hk : kindOf (code.getD i (0, 0)).1 = K at *
  generalize (code.getD i (0, 0)).1 = o at *
  have hins : (decide (p.1 < a) && decide (a < p.2.1)) = false ↔ (a ≤ p.1 ∨ p.2.1 ≤ a) := by
    rw [Bool.and_eq_false_iff, decide_eq_false_iff_not, decide_eq_false_iff_not]; omega
  have hend : (K == 3 || K == 4 || K == 8) = false ↔ (K ≠ 3 ∧ K ≠ 4 ∧ K ≠ 8) := by
    rw [Bool.or_eq_false_iff, Bool.or_eq_false_iff, beq_eq_false_iff_ne, beq_eq_false_iff_ne, beq_eq_false_iff_ne, and_assoc]
  have a1 : (o = 3 ∧ (a = 0 ∨ a % 4 ≠ 0 ∨ 4096 < a)) ↔ (K = 6 ∧ (a % 4 ≠ 0 ∨ a = 0 ∨ 4096 < a)) := by rw [k6]; omega
  by_cases c1 : K = 6 ∧ (a % 4 ≠ 0 ∨ a = 0 ∨ 4096 < a)
  · rw [if_pos (a1.2 c1), if_pos c1]
  · rw [if_neg (fun h => c1 (a1.1 h)), if_neg c1]
    by_cases c7 : K = 7
    · rw [if_pos c7]
      by_cases c : a = p.2.2
      · have n1 : ¬ (o = 4 ∧ a ≠ p.2.2) := fun h => h.2 c
        have n2 : ¬ ((K = 3 ∨ K = 2) ∧ (a ≤ p.1 ∨ p.2.1 ≤ a)) := fun h => by omega
        have n3 : ¬ (i + 1 = p.2.1 ∧ K ≠ 3 ∧ K ≠ 4 ∧ K ≠ 7 ∧ K ≠ 8) := fun h => h.2.2.2.1 c7
        rw [if_neg n1, if_neg n2, if_neg n3, if_neg (fun h => h c)]
      · rw [if_pos ⟨k7.1 c7, c⟩, if_pos c]
    · have n1 : ¬ (o = 4 ∧ a ≠ p.2.2) := fun h => c7 (k7.2 h.1)
      rw [if_neg n1, if_neg c7]
      have e2 : ((K = 3 ∨ K = 2) ∧ (a ≤ p.1 ∨ p.2.1 ≤ a)) ↔ ((K = 3 ∨ K = 2) ∧ (decide (p.1 < a) && decide (a < p.2.1)) = false) := by rw [hins]
      by_cases c2 : (K = 3 ∨ K = 2) ∧ (a ≤ p.1 ∨ p.2.1 ≤ a)
      · rw [if_pos c2, if_pos (e2.1 c2)]
      · rw [if_neg c2, if_neg (fun h => c2 (e2.2 h))]
        have e3 : (i + 1 = p.2.1 ∧ K ≠ 3 ∧ K ≠ 4 ∧ K ≠ 7 ∧ K ≠ 8) ↔ (i + 1 = p.2.1 ∧ (K == 3 || K == 4 || K == 8) = false) := by rw [hend]; omega
        by_cases c3 : i + 1 = p.2.1 ∧ K ≠ 3 ∧ K ≠ 4 ∧ K ≠ 7 ∧ K ≠ 8
        · rw [if_pos c3, if_pos (e3.1 c3)]
        · rw [if_neg c3, if_neg (fun h => c3 (e3.2 h))]
theorem le4_at (x i : Nat) (hi : i < 4) : (le4 x).take (i + 1) = (le4 x).take i ++ [x / 256 ^ i % 256] := by
  rw [le4_shift x i hi, show (2 : Nat) ^ (8 * i) = 256 ^ i from by rw [Nat.pow_mul]]
set_option maxRecDepth 100000 in
set_option maxHeartbeats 2000000 in
theorem refencode_any (v : Value) (l : List (Nat × Nat)) (w : World) (hv : Instrs w v l) : Calls Tryz.prog 86 #[v] w (EncPost l w) := by
  have hlt := hv.lt
  obtain ⟨a, cap, rfl, hlc, hcm, hnil, hp⟩ := hv.opened
  obtain ⟨i0, hi, hz0, hz1, hz2⟩ := info_parts info5
  have hlm : l.length ≤ 9223372036854775807 := by unfold maxLen at hcm; omega
  by_cases hmany : 16384 < l.length
  · have he := encRes_many hmany
    have hm1 : (16384 : Int) < (l.length : Int) := by omega
    have Hp := Lib.hid hp
    have Hn := Lib.hid hnil
    clear hp hnil
    go_enter Tryz.func86, Tryz.ntmps86
    go_wp2
    go_ret3
    refine ⟨.slice none 0 0, by rw [he]; rfl, by rw [he]; exact World.ownsRow_nil _ _ _ _, Grew.refl _ _, fun _ => rfl⟩
  · have Hp := Lib.hid hp
    have Hn := Lib.hid hnil
    have hm1 : ¬ (16384 : Int) < (l.length : Int) := by omega
    clear hp hnil
    go_enter Tryz.func86, Tryz.ntmps86
    go_wp2_with fail
    go_loopw [5, 6] (fun u i wr => ∃ k : Nat, k ≤ l.length ∧ i = .int .i64 k ∧ (∀ j, j < k → errAt l j = 0) ∧ wr.ownsRow 0 5 1 u (encode (l.take k)).length (encN .u8 (encode (l.take k))) ∧ Grew w wr (.slice none 0 0) u ∧ (k = 0 → u = .slice none 0 0)) (fun _ i _ => l.length - (intOf i).toNat)
    case atStart => exact ⟨0, by omega, rfl, fun j h => by omega, World.ownsRow_nil _ _ _ _, Grew.refl _ _, fun _ => rfl⟩
    case round =>
      obtain ⟨k, hk, rfl, hj, hr, hg, hu⟩ := hrel
      have Hj := Lib.hid hj
      have Hu := Lib.hid hu
      clear hj hu
      by_cases hlt' : k < l.length
      · obtain ⟨b, off, rfl, hbl, hc⟩ := Hp.out (by omega)
        obtain ⟨hc1, hc2⟩ := hc k hlt'
        have hb1 : wr.cell? ⟨b, off + k * 2, none⟩ = some (.int .u8 (l.getD k (0, 0)).1) := ((Grew.bel hg).cell (p := ⟨b, off + k * 2, none⟩) hbl).trans hc1
        have hb2 : wr.cell? ⟨b, off + k * 2 + 1, none⟩ = some (.int .u32 (l.getD k (0, 0)).2) := ((Grew.bel hg).cell (p := ⟨b, off + k * 2 + 1, none⟩) hbl).trans hc2
        have hblr : b < wr.heap.size := Nat.lt_of_lt_of_le hbl hg.1.size
        obtain ⟨ho, ha⟩ := hlt k
        have hch := fun W => refcheck_any (l.getD k (0, 0)).1 (l.getD k (0, 0)).2 ho W
        have hsz := fun W => refsize_any (l.getD k (0, 0)).1 (l.getD k (0, 0)).2 ho W
        have hen := encode_succ l k hlt'
        have her : errAt l k = checkN (l.getD k (0, 0)).1 (l.getD k (0, 0)).2 := rfl
        have hln := encode_len (l.take k)
        rw [List.length_take] at hln
        generalize l.getD k (0, 0) = ins at *
        obtain ⟨o, x⟩ := ins
        have Hen := Lib.hid hen
        have Her := Lib.hid her
        have Hc1 := Lib.hid hc1
        have Hc2 := Lib.hid hc2
        clear hen her hc hc1 hc2 hlt
        simp only at *
        go_wp2_with fail
        refine (hch _).mono ?_
        rintro e w1 ⟨rfl, hb⟩
        clear hch
        have hgb := hg.then hb
        have hr1 := own_below hr hb
        by_cases hce : checkN o x = 0
        · rw [hce] at Her ⊢
          have hk1 : w1.cell? ⟨b, off + k * 2, none⟩ = some (.int .u8 o) := (hb.cell (p := ⟨b, off + k * 2, none⟩) hblr).trans hb1
          have hk2 : w1.cell? ⟨b, off + k * 2 + 1, none⟩ = some (.int .u32 x) := (hb.cell (p := ⟨b, off + k * 2 + 1, none⟩) hblr).trans hb2
          have hblr1 : b < w1.heap.size := Nat.lt_of_lt_of_le hblr hb.size
          go_wp2_with ((with_reducible refine wpList_append1 (o := ⟨some 36, .call { callee := .builtin .append, args := #[.tmp 29, .tmp 35], argTypes := #[24, 24] }, _, _, _, none⟩) rfl _ _ 24 rfl 5 i0 (.int .u8 0) 1 1 Tryz.underlying24 hi hz0 hz1 hz2 ?_ ?_ _ _ _ hr1 _ _ ?_ ?_ ?_ ?_ ?_ ?_ ?_); rfl; decide; rfl; rfl; rfl; (simp [Value.oneCell']); (unfold maxLen; omega); omega; intro g c w2 hr2 hg2 hl2; have hq1 := ((Grew.bel (hgb.trans hg2)).cell (p := ⟨b, off + k * 2, none⟩) hbl).trans Hc1.out; have hq2 := ((Grew.bel (hgb.trans hg2)).cell (p := ⟨b, off + k * 2 + 1, none⟩) hbl).trans Hc2.out)
          refine (hsz _).mono ?_
          rintro e w3 ⟨rfl, hb3⟩
          clear hsz
          have hsz1 : sizeN o x = 1 + widthOf o := by rw [sizeN, if_pos hce]
          rw [hsz1]
          clear hsz1 hce hq1 hq2 hk1 hk2 hb1 hb2
          have hwd := width_le o
          generalize widthOf o = wd at *
          have hr3 := own_below hr2 hb3
          have hg3 := (hgb.trans hg2).then hb3
          clear hr2 hg2 hgb hr1 hr hg
          go_wp2_with fail
          obtain ⟨W0, hW0⟩ : ∃ W0, W0 = w3 := ⟨_, rfl⟩
          go_loopw [5, 8, 10] (fun u y i W => ∃ q : Nat, q ≤ wd ∧ i = .int .i64 (1 + q : Nat) ∧ y = .int .u32 (x / 256 ^ q : Nat) ∧ W.ownsRow 0 5 1 u ((encode (List.take k l)).length + 1 + q) (encN .u8 (encode (List.take k l)) ++ [Value.int IntKind.u8 o] ++ encN .u8 ((le4 x).take q)) ∧ Grew w W (.slice none 0 0) u) (fun _ _ i _ => wd + 1 - (intOf i).toNat)
          case atStart => exact ⟨0, by omega, rfl, by simp, by simpa [encN] using hr3, hg3⟩
          case round =>
            obtain ⟨q, hq, rfl, rfl, hr4, hg4⟩ := hrel
            by_cases hlq : q < wd
            · have hla := le4_at x q (by omega)
              have hdiv : x / 256 ^ (q + 1) = x / 256 ^ q / 256 := by rw [Nat.pow_succ, Nat.div_div_eq_div_mul]
              have hyb : x / 256 ^ q ≤ x := Nat.div_le_self _ _
              generalize x / 256 ^ q = y at hla hdiv hyb
              have hy2 : y < 4294967296 := by omega
              have Hla := Lib.hid hla
              have Hdiv := Lib.hid hdiv
              clear hla hdiv hyb
              go_wp2_with ((with_reducible refine wpList_append1 (o := ⟨some 57, .call { callee := .builtin .append, args := #[.tmp 52, .tmp 56], argTypes := #[24, 24] }, _, _, _, none⟩) rfl _ _ 24 rfl 5 i0 (.int .u8 0) 1 1 Tryz.underlying24 hi hz0 hz1 hz2 ?_ ?_ _ _ _ hr4 _ _ ?_ ?_ ?_ ?_ ?_ ?_ ?_); rfl; decide; rfl; rfl; rfl; (simp [Value.oneCell']); (unfold maxLen; omega); omega; intro g5 c5 w5 hr5 hg5 hl5)
              go_roundw
              case rel => exact ⟨q + 1, by omega, by go_num, by rw [Hdiv.out]; go_num, by
                rw [Hla.out, encN_append, ← List.append_assoc]
                have e1 : encN .u8 [y % 256] = #[Value.int IntKind.u8 ((y : Int) % 256)].toList := by simp [encN]
                rw [e1]; exact hr5, hg4.trans hg5⟩
              case measure => simp [intOf]; omega
            · have : q = wd := by omega
              subst this
              have hfin : wr.ownsRow 0 5 1 u5 (encode (List.take (k + 1) l)).length (encN .u8 (encode (List.take (k + 1) l))) := by
                have e1 : (encode (List.take (k + 1) l)).length = (encode (List.take k l)).length + 1 + q := by
                  rw [Hen.out, List.length_append, List.length_append, List.length_take, le4_length]; simp; omega
                have e2 : encN .u8 (encode (List.take (k + 1) l)) = encN .u8 (encode (List.take k l)) ++ [Value.int IntKind.u8 o] ++ encN .u8 ((le4 x).take q) := by
                  rw [Hen.out, encN_append, encN_append]; simp [encN]
                rw [e1, e2]; exact hr4
              have Hfin := Lib.hid hfin
              clear hfin
              go_wp2
              go_roundw
              case rel => exact ⟨k + 1, by omega, by go_num, fun j h => by
                by_cases e : j = k
                · subst e; rw [Her.out]
                · exact Hj.out j (by omega), Hfin.out, hg4, fun h => by omega⟩
              case measure => simp [intOf]; omega
        · have hne : ((checkN o x : Int) != 0) = true := by simp; exact hce
          have her : errAt l k ≠ 0 := by rw [Her.out]; exact hce
          have he := encRes_bad (by omega) hlt' her Hj.out
          rw [Her.out] at he
          have He := Lib.hid he
          clear he hce her
          generalize checkN o x = c at *
          go_wp2
          go_ret3
          refine ⟨.slice none 0 0, by rw [He.out]; rfl, by rw [He.out]; exact World.ownsRow_nil _ _ _ _, Grew.nilOf hgb, fun _ => rfl⟩
      · have : k = l.length := by omega
        subst this
        rw [List.take_length] at hr
        have he := encRes_ok (by omega) Hj.out
        have He := Lib.hid he
        clear he
        have hu : encode l = [] → u5 = .slice none 0 0 := fun h => Hu.out (by
          by_cases h0 : 0 < l.length
          · have := encode_nil h0; rw [h] at this; simp at this
          · omega)
        have Hu2 := Lib.hid hu
        clear hu
        go_wp2
        go_ret3
        exact ⟨u5, by rw [He.out]; rfl, by rw [He.out]; exact hr, hg, by rw [He.out]; exact Hu2.out⟩
end Go.Proofs.YtflpbgdghaaiaaaGreat
