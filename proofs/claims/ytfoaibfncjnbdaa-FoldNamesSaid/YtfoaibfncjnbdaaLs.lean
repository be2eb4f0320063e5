import Derived.Test.YtfoaibfncjnbdaaAluB
import Derived.Test.YtfoaibfncjnbdaaAluD
import Derived.Test.YtfoaibfncjnbdaaAluE
import Derived.Test.YtfoaibfncjnbdaaIsaCheckC
import Derived.Deep.RegionHeld3
import Derived.StillTailTactics
/- What a row has in the place of the operand stack. -/
namespace Go.Proofs.Ytfoaibfncjnbdaa
open Go.RowKit
def upd (cs : Nat → Nat) (i x : Nat) : Nat → Nat := fun j => if j = i then x else cs j
structure LAt (w : World) (b : Nat) (cs : Nat → Nat) (n : Nat) : Prop where
  hc : ∀ i, i < 64 → w.cell? ⟨b, i, none⟩ = some (.int .u32 (cs i : Nat))
  hn : w.cell? ⟨b, 64, none⟩ = some (.int .i64 n)
  hz : ∀ i, w.frozen? ⟨b, i, none⟩ = false
  le : n ≤ 64
  lt : ∀ i, cs i < 4294967296
theorem LAt.below {w w' : World} {b n B : Nat} {cs : Nat → Nat} (h : LAt w b cs n) (hb : Below B w w') (hB : b < B) : LAt w' b cs n :=
  ⟨fun i hi => (hb.cell (p := ⟨b, i, none⟩) hB).trans (h.hc i hi), (hb.cell (p := ⟨b, 64, none⟩) hB).trans h.hn, fun i => (hb.frozen (p := ⟨b, i, none⟩) hB).trans (h.hz i), h.le, h.lt⟩
theorem LAt.dr {w : World} {b n : Nat} {cs : Nat → Nat} (h : LAt w b cs n) : LAt w.drew b cs n := ⟨h.hc, h.hn, h.hz, h.le, h.lt⟩
theorem LAt.blk {w : World} {b n : Nat} {cs : Nat → Nat} (h : LAt w b cs n) : b < w.heap.size := World.block_lt_of_cell? _ _ h.hn
theorem LAt.drN {w : World} {b n : Nat} {cs : Nat → Nat} (h : LAt w b cs n) (k : Nat) : LAt (w.drewN k) b cs n := h.below (below_drewN (Below.refl w.heap.size w) k) h.blk
theorem LAt.set {w : World} {b n : Nat} {cs : Nat → Nat} (h : LAt w b cs n) (i x : Nat) (hi : i < 64) (hx : x < 4294967296) : LAt (w.setCell ⟨b, i, none⟩ (.int .u32 x)) b (upd cs i x) n := by
  refine ⟨fun j hj => ?_, ?_, fun j => ?_, h.le, fun j => ?_⟩
  · unfold upd
    by_cases e : j = i
    · subst e
      rw [if_pos rfl]
      exact World.cell?_setCell_same _ _ _ (h.hc j hj)
    · rw [if_neg e, World.cell?_setCell_other _ _ _ _ (fun e2 => e (by injection e2 with e3 e4; exact e4.symm))]
      exact h.hc j hj
  · rw [World.cell?_setCell_other _ _ _ _ (fun e2 => by injection e2; omega)]
    exact h.hn
  · simpa [go_sem] using h.hz j
  · unfold upd; split
    · exact hx
    · exact h.lt j
theorem LAt.setN {w : World} {b n : Nat} {cs : Nat → Nat} (h : LAt w b cs n) (m : Nat) (hm : m ≤ 64) : LAt (w.setCell ⟨b, 64, none⟩ (.int .i64 m)) b cs m := by
  refine ⟨fun j hj => ?_, ?_, fun j => ?_, hm, h.lt⟩
  · rw [World.cell?_setCell_other _ _ _ _ (fun e2 => by injection e2; omega)]
    exact h.hc j hj
  · exact World.cell?_setCell_same _ _ _ h.hn
  · simpa [go_sem] using h.hz j
structure LS where
  cs : Nat → Nat
  n : Nat
def LS.push (s : LS) (x : Nat) : Bool × LS := if s.n = 64 then (false, s) else (true, ⟨upd s.cs s.n x, s.n + 1⟩)
set_option maxRecDepth 100000 in
set_option maxHeartbeats 1000000 in
theorem push_any {w : World} {b n : Nat} {cs : Nat → Nat} (h : LAt w b cs n) (x : Nat) (hx : x < 4294967296) :
    Calls Try.prog 26 #[.pointer (some ⟨b, 0, none⟩), .int .u32 x] w fun e w' => e = .returned (.bool (LS.push ⟨cs, n⟩ x).1) ∧ LAt w' b (LS.push ⟨cs, n⟩ x).2.cs (LS.push ⟨cs, n⟩ x).2.n ∧ Below b w w' := by
  have hn := h.hn
  have hle := h.le
  by_cases h64 : n = 64
  · have hd : ((n : Int) == 64) = true := by simp; omega
    have e : LS.push ⟨cs, n⟩ x = (false, ⟨cs, n⟩) := by unfold LS.push; rw [if_pos h64]
    have H := Lib.hid h
    rw [e]
    clear h
    go_enter Try.func26, Try.ntmps26
    go_wp2
    go_ret
    exact ⟨rfl, H.out, Below.refl _ _⟩
  · have hd : ((n : Int) == 64) = false := by simp; omega
    have e : LS.push ⟨cs, n⟩ x = (true, ⟨upd cs n x, n + 1⟩) := by unfold LS.push; rw [if_neg h64]
    have hcn := h.hc n (by omega)
    have hz1 := h.hz n
    have hz2 := h.hz 64
    have hk0 : (0 : Int) ≤ (n : Int) := by omega
    have hk1 : (n : Int) < 64 := by omega
    have H := Lib.hid h
    rw [e]
    clear h
    have hmx : Try.prog.follows .mixedOrders = true := by kernel_rfl
    go_enter Try.func26, Try.ntmps26
    go_wp2
    refine wp_region_still_tail 9 hmx (by kernel_rfl) ?_
    simp only [List.take_succ_cons, List.take_zero, List.drop_succ_cons, List.drop_zero]
    repeat still_step
    refine wpStill_nil ?_
    change wpList _ _ _ _ _ w.drew
    have H2 := Lib.hid (H.out.dr.set n x (by omega) hx)
    go_wp2
    go_ret
    exact ⟨rfl, ((H.out.set n x (by omega) hx).setN (n + 1) (by omega)).dr, (((Below.refl b w).setCell (p := ⟨b, n, none⟩) (Nat.le_refl _) _).setCell (p := ⟨b, 64, none⟩) (Nat.le_refl _) _).drew⟩
theorem wordF_lt {x : Nat} (h : x < 4294967296) : wordF x < 4294967296 := by unfold wordF; split <;> omega
theorem bitsN_lt (op : BinOp) (x y : Int) : (bits op .u32 x y).toNat < 4294967296 := by have := bits_hi_u32 op x y; have := bits_lo_u32 op x y; omega
theorem wf_f32 {x : Nat} (h : (Lit.float .f32 x).wf = true) : x < 4294967296 := by simpa [Lit.wf] using h
theorem unW_lt (o a : Nat) : unW o a < 4294967296 := by
  unfold unW
  split
  · exact w32_lt _
  split
  · exact w32_lt _
  split
  · exact w32_lt _
  split
  · exact bitsN_lt _ _ _
  split
  · exact bitsN_lt _ _ _
  split
  · exact wordF_lt (wf_f32 (floatOfInt_wf .f32 _))
  split
  · exact w32_lt _
  · decide
theorem arithF_lt (op : BinOp) (x y : Nat) : arithF op x y < 4294967296 := by
  unfold arithF
  split
  · rename_i r h; exact wordF_lt (wf_f32 (floatBits_wf h))
  · decide
theorem ite_lt {p : Prop} [Decidable p] {x y c : Nat} (hx : x < c) (hy : y < c) : (if p then x else y) < c := by split <;> assumption
theorem biW_lt (o a b : Nat) (ha : a < 4294967296) : biW o a b < 4294967296 := by
  have h1 : a % b < 4294967296 := Nat.lt_of_le_of_lt (Nat.mod_le _ _) ha
  have h2 : a / 2 ^ (b % 32) < 4294967296 := Nat.lt_of_le_of_lt (Nat.div_le_self _ _) ha
  unfold biW
  repeat' (refine ite_lt ?_ ?_)
  all_goals first | exact w32_lt _ | exact bitsN_lt _ _ _ | exact arithF_lt _ _ _ | assumption | decide
theorem biR_lt (o a b : Nat) (ha : a < 4294967296) : (biR o a b).1 < 4294967296 := by
  have := biW_lt o a b ha
  unfold biR
  repeat' split
  all_goals first | exact this | decide
def LS.one (s : LS) (o : Nat) : Bool × LS :=
  if s.n < 1 then (false, s) else if o = 10 then (true, ⟨s.cs, s.n - 1⟩) else if o = 11 then s.push (s.cs (s.n - 1)) else (unE o == 0, ⟨upd s.cs (s.n - 1) (unW o (s.cs (s.n - 1))), s.n⟩)
set_option maxRecDepth 100000 in
set_option maxHeartbeats 1000000 in
theorem one_any {w : World} {b n : Nat} {cs : Nat → Nat} (h : LAt w b cs n) (o : Nat) :
    Calls Try.prog 27 #[.pointer (some ⟨b, 0, none⟩), .int .u8 o] w fun e w' => e = .returned (.bool (LS.one ⟨cs, n⟩ o).1) ∧ LAt w' b (LS.one ⟨cs, n⟩ o).2.cs (LS.one ⟨cs, n⟩ o).2.n ∧ Below b w w' := by
  have hn := h.hn
  have hle := h.le
  have hmx : Try.prog.follows .mixedOrders = true := by kernel_rfl
  by_cases h1 : n < 1
  · have hd : decide ((n : Int) < 1) = true := decide_eq_true (by omega)
    have e : LS.one ⟨cs, n⟩ o = (false, ⟨cs, n⟩) := by unfold LS.one; rw [if_pos h1]
    have H := Lib.hid h
    rw [e]
    clear h
    go_enter Try.func27, Try.ntmps27
    go_wp2
    go_ret
    exact ⟨rfl, H.out, Below.refl _ _⟩
  · obtain ⟨m, rfl⟩ : ∃ m, n = m + 1 := ⟨n - 1, by omega⟩
    have hd : decide (((m + 1 : Nat) : Int) < 1) = false := decide_eq_false (by omega)
    have hcm := h.hc m (by omega)
    have hz1 := h.hz m
    have hz2 := h.hz 64
    have hk : ((m + 1 : Nat) : Int) - 1 = (m : Int) := by omega
    have hk0 : (0 : Int) ≤ (m : Int) := by omega
    have hk1 : (m : Int) < 64 := by omega
    have H := Lib.hid h
    clear h
    by_cases h10 : o = 10
    · subst h10
      have e : LS.one ⟨cs, m + 1⟩ 10 = (true, ⟨cs, m⟩) := by unfold LS.one; simp
      rw [e]
      go_enter Try.func27, Try.ntmps27
      go_wp2
      go_quiet (fail)
      go_wp2
      go_ret
      exact ⟨rfl, (H.out.drN nq).setN m (by omega), (below_drewN (Below.refl b w) nq).setCell (p := ⟨b, 64, none⟩) (Nat.le_refl _) _⟩
    by_cases h11 : o = 11
    · subst h11
      have e : LS.one ⟨cs, m + 1⟩ 11 = LS.push ⟨cs, m + 1⟩ (cs m) := by unfold LS.one; simp
      rw [e]
      have HP := Lib.hid (fun W (hW : LAt W b cs (m + 1)) => push_any hW (cs m) (H.out.lt m))
      go_enter Try.func27, Try.ntmps27
      go_wp2
      go_quiet (fail)
      go_wp2_with fail
      refine (HP.out _ (H.out.drN nq)).mono ?_
      rintro e w1 ⟨rfl, hl, hb⟩
      have hb2 := Lib.hid ((below_drewN (Below.refl b w) nq).trans hb)
      clear hb
      go_wp2
      go_ret
      exact ⟨rfl, hl, hb2.out⟩
    · have e : LS.one ⟨cs, m + 1⟩ o = (unE o == 0, ⟨upd cs m (unW o (cs m)), m + 1⟩) := by unfold LS.one; simp [h10, h11]
      rw [e]
      have k10 : ((o : Int) == 10) = false := by simp; omega
      have k11 : ((o : Int) == 11) = false := by simp; omega
      have hq : ((unE o : Int) == 0) = (unE o == 0) := beq_int (unE o) 0
      have HU := Lib.hid (fun W => unary_any o (cs m) W)
      have Hlt := Lib.hid (unW_lt o (cs m))
      generalize unW o (cs m) = x at *
      generalize unE o = er at *
      go_enter Try.func27, Try.ntmps27
      go_wp2
      go_quiet (fail)
      have HW := Lib.hid (H.out.drN nq)
      have HB := Lib.hid (below_drewN (Below.refl b w) nq)
      clear hn hcm hz1 hz2
      have hn := HW.out.hn
      have hcm := HW.out.hc m (by omega)
      have hz1 := HW.out.hz m
      have hz2 := HW.out.hz 64
      have hwm : IntKind.i64.wrap (m : Int) = (m : Int) := IntWalk.i64_in _ (by omega)
      generalize w.drewN nq = W at *
      go_wp2_with fail
      refine (HU.out _).mono ?_
      rintro e w1 ⟨rfl, hw1⟩
      subst hw1
      go_wp2
      refine wp_region_still_tail 10 hmx (by kernel_rfl) ?_
      simp only [List.take_succ_cons, List.take_zero, List.drop_succ_cons, List.drop_zero]
      repeat still_step
      refine wpStill_nil ?_
      change wpList _ _ _ _ _ w1.drew
      go_wp2
      go_ret
      exact ⟨rfl, (HW.out.set m x (by omega) Hlt.out).dr, (HB.out.setCell (p := ⟨b, m, none⟩) (Nat.le_refl _) _).drew⟩
def LS.two (s : LS) (o : Nat) (br : Bool) : Nat × LS :=
  if s.n < 2 then (1, s) else if br then ((if hoB o (s.cs (s.n - 2)) (s.cs (s.n - 1)) then 2 else 3), ⟨s.cs, s.n - 2⟩)
  else if (biR o (s.cs (s.n - 2)) (s.cs (s.n - 1))).2 = 0 then (0, ⟨upd s.cs (s.n - 2) (biR o (s.cs (s.n - 2)) (s.cs (s.n - 1))).1, s.n - 1⟩) else (1, s)
set_option maxRecDepth 100000 in
set_option maxHeartbeats 2000000 in
theorem two_any {w : World} {b n : Nat} {cs : Nat → Nat} (h : LAt w b cs n) (o : Nat) (br : Bool) (hbr : br = true → 13 ≤ o ∧ o ≤ 28) :
    Calls Try.prog 25 #[.pointer (some ⟨b, 0, none⟩), .int .u8 o, .bool br] w fun e w' => e = .returned (.int .u8 (LS.two ⟨cs, n⟩ o br).1) ∧ LAt w' b (LS.two ⟨cs, n⟩ o br).2.cs (LS.two ⟨cs, n⟩ o br).2.n ∧ Below b w w' := by
  have hn := h.hn
  have hle := h.le
  have hmx : Try.prog.follows .mixedOrders = true := by kernel_rfl
  by_cases h1 : n < 2
  · have hd : decide ((n : Int) < 2) = true := decide_eq_true (by omega)
    have e : LS.two ⟨cs, n⟩ o br = (1, ⟨cs, n⟩) := by unfold LS.two; rw [if_pos h1]
    have H := Lib.hid h
    rw [e]
    clear h
    go_enter Try.func25, Try.ntmps25
    go_wp2
    go_ret
    exact ⟨rfl, H.out, Below.refl _ _⟩
  · obtain ⟨m, rfl⟩ : ∃ m, n = m + 2 := ⟨n - 2, by omega⟩
    have hd : decide (((m + 2 : Nat) : Int) < 2) = false := decide_eq_false (by omega)
    have hcm := h.hc m (by omega)
    have hcm1 := h.hc (m + 1) (by omega)
    have hz1 := h.hz m
    have hz2 := h.hz 64
    have hk0 : (0 : Int) ≤ (m : Int) := by omega
    have hk1 : (m : Int) < 64 := by omega
    have hk2 : (m : Int) + 1 < 64 := by omega
    have hk3 : (m : Int) + 2 - 2 = m := by omega
    have hk4 : (m : Int) + 2 - 1 = m + 1 := by omega
    have ht : ((m : Int) + 1).toNat = m + 1 := by omega
    have H := Lib.hid h
    clear h
    cases br with
    | true =>
      obtain ⟨ho1, ho2⟩ := hbr rfl
      have e : LS.two ⟨cs, m + 2⟩ o true = ((if hoB o (cs m) (cs (m + 1)) then 2 else 3), ⟨cs, m⟩) := by unfold LS.two; simp
      rw [e]
      have HH := Lib.hid (fun W => holds_any o (cs m) (cs (m + 1)) ho1 ho2 W)
      generalize hoB o (cs m) (cs (m + 1)) = d at *
      go_enter Try.func25, Try.ntmps25
      go_wp2
      go_quiet (fail)
      have HW := Lib.hid (H.out.drN nq)
      have HB := Lib.hid (below_drewN (Below.refl b w) nq)
      clear hn hcm hz1 hz2 hcm1
      have hn := HW.out.hn
      have hz2 := HW.out.hz 64
      generalize w.drewN nq = W at *
      go_wp2_with fail
      refine (HH.out _).mono ?_
      rintro e w1 ⟨rfl, hw1⟩
      subst hw1
      cases d
      · go_wp2
        go_ret
        exact ⟨rfl, HW.out.setN m (by omega), HB.out.setCell (p := ⟨b, 64, none⟩) (Nat.le_refl _) _⟩
      · go_wp2
        go_ret
        exact ⟨rfl, HW.out.setN m (by omega), HB.out.setCell (p := ⟨b, 64, none⟩) (Nat.le_refl _) _⟩
    | false =>
      have HR := Lib.hid (fun W => binary_any o (cs m) (cs (m + 1)) (H.out.lt _) W)
      have Hlt := Lib.hid (biR_lt o (cs m) (cs (m + 1)) (H.out.lt _))
      have e : LS.two ⟨cs, m + 2⟩ o false = if (biR o (cs m) (cs (m + 1))).2 = 0 then (0, ⟨upd cs m (biR o (cs m) (cs (m + 1))).1, m + 1⟩) else (1, ⟨cs, m + 2⟩) := by unfold LS.two; rw [if_neg h1]; simp
      rw [e]
      clear e
      generalize biR o (cs m) (cs (m + 1)) = r at *
      obtain ⟨x, er⟩ := r
      simp only at *
      by_cases her : er = 0
      · subst her
        rw [if_pos rfl]
        go_enter Try.func25, Try.ntmps25
        go_wp2
        go_quiet (fail)
        have HW := Lib.hid (H.out.drN nq)
        have HB := Lib.hid (below_drewN (Below.refl b w) nq)
        clear hn hcm hz1 hz2 hcm1
        generalize w.drewN nq = W at *
        go_wp2_with fail
        refine (HR.out _).mono ?_
        rintro e w1 ⟨rfl, hb1⟩
        have HW1 := Lib.hid (HW.out.below hb1 HW.out.blk)
        have HB1 := Lib.hid (HB.out.trans (hb1.mono (Nat.le_of_lt HW.out.blk)))
        have hn := HW1.out.hn
        have hcm := HW1.out.hc m (by omega)
        have hz1 := HW1.out.hz m
        have hz2 := HW1.out.hz 64
        have hwm : IntKind.i64.wrap (m : Int) = (m : Int) := IntWalk.i64_in _ (by omega)
        clear hb1
        go_wp2
        have HW2 := Lib.hid (show LAt (w1.setCell ⟨b, 64, none⟩ (.int .i64 ((m : Int) + 1))) b cs (m + 1) from HW1.out.setN (m + 1) (by omega))
        have HB2 := Lib.hid (HB1.out.setCell (p := ⟨b, 64, none⟩) (Nat.le_refl _) (.int .i64 ((m : Int) + 1)))
        clear hn hcm hz1 hz2
        have hn := HW2.out.hn
        have hcm := HW2.out.hc m (by omega)
        have hz1 := HW2.out.hz m
        have hz2 := HW2.out.hz 64
        generalize w1.setCell ⟨b, 64, none⟩ (.int .i64 ((m : Int) + 1)) = W2 at *
        refine wp_region_still_tail 10 hmx (by kernel_rfl) ?_
        simp only [List.take_succ_cons, List.take_zero, List.drop_succ_cons, List.drop_zero]
        repeat still_step
        refine wpStill_nil ?_
        change wpList _ _ _ _ _ W2.drew
        go_wp2
        go_ret
        exact ⟨rfl, (HW2.out.set m x (by omega) Hlt.out).dr, (HB2.out.setCell (p := ⟨b, m, none⟩) (Nat.le_refl _) _).drew⟩
      · have her2 : ((er : Int) != 0) = true := by simp; exact her
        rw [if_neg her]
        go_enter Try.func25, Try.ntmps25
        go_wp2
        go_quiet (fail)
        have HW := Lib.hid (H.out.drN nq)
        have HB := Lib.hid (below_drewN (Below.refl b w) nq)
        clear hn hcm hz1 hz2 hcm1
        generalize w.drewN nq = W at *
        go_wp2_with fail
        refine (HR.out _).mono ?_
        rintro e w1 ⟨rfl, hb1⟩
        have HW1 := Lib.hid (HW.out.below hb1 HW.out.blk)
        have HB1 := Lib.hid (HB.out.trans (hb1.mono (Nat.le_of_lt HW.out.blk)))
        clear hb1
        go_wp2
        go_ret
        exact ⟨rfl, HW1.out, HB1.out⟩
end Go.Proofs.Ytfoaibfncjnbdaa
