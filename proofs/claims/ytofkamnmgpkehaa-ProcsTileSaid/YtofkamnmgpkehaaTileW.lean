import Derived.Test.YtofkamnmgpkehaaWithinW
import Derived.Test.YtofkamnmgpkehaaAllP
import Derived.Test.YtofkamnmgpkehaaOpenC
/- The walk of ProcsTile. -/
namespace Go.Proofs.Ytofkamnmgpkehaa
open Go.RowKit
def begOf (P : List (Nat × Nat × Nat)) (n q : Nat) : Nat := if q < P.length then (P.getD q (0, 0, 0)).1 else n
section
variable {code : List (Nat × Nat)} {js ats : List Nat} (h : FindOk code js ats)
include h
theorem FindOk.beg0 : begOf (psTo code code.length) code.length 0 = 0 := by
  unfold begOf; rw [if_pos (h.tl.pos h.h3.1)]; exact h.tl.first
theorem FindOk.begS (q : Nat) (hq : q < (psTo code code.length).length) : begOf (psTo code code.length) code.length (q + 1) = ((psTo code code.length).getD q (0, 0, 0)).2.1 := by
  unfold begOf
  by_cases hs : q + 1 < (psTo code code.length).length
  · rw [if_pos hs]; exact h.tl.next q hs
  · rw [if_neg hs]
    have := h.tl.last (by omega)
    rw [show (psTo code code.length).length - 1 = q from by omega] at this
    exact this.symm
/-- One procedure: where it begins and ends. -/
theorem FindOk.one (q : Nat) (hq : q < (psTo code code.length).length) : ((psTo code code.length).getD q (0, 0, 0)).1 + 2 ≤ ((psTo code code.length).getD q (0, 0, 0)).2.1 ∧ ((psTo code code.length).getD q (0, 0, 0)).2.1 ≤ code.length ∧
    ((psTo code code.length).getD q (0, 0, 0)).2.2 = (code.getD ((psTo code code.length).getD q (0, 0, 0)).1 (0, 0)).2 := by
  have hb := h.tl.bd q hq
  have ho := h.tl.mid q hq ((psTo code code.length).getD q (0, 0, 0)).1 (Nat.le_refl _) hb.1
  have hen := (h.tl.en ((psTo code code.length).getD q (0, 0, 0)).1 (by omega)).2 (by rw [ho])
  have hk : kindOf (code.getD ((psTo code code.length).getD q (0, 0, 0)).1 (0, 0)).1 = 6 := by rw [hen]; decide +kernel
  have hg := h.goes ((psTo code code.length).getD q (0, 0, 0)).1 (by omega) (by rw [hk]; decide)
  have hl := h.tl.lo _ hg.1
  rw [hg.2, ho] at hl
  exact ⟨by omega, hb.2, h.tl.fr q hq⟩
theorem FindOk.at_ (q k : Nat) (hq : q < (psTo code code.length).length) (h1 : ((psTo code code.length).getD q (0, 0, 0)).1 ≤ k) (h2 : k < ((psTo code code.length).getD q (0, 0, 0)).2.1) :
    k < code.length ∧ (ofTo code code.length).getD k 0 = q ∧ beginsN (psTo code code.length) (ofTo code code.length) k = decide (k = ((psTo code code.length).getD q (0, 0, 0)).1) ∧ ((code.getD k (0, 0)).1 = 3 ↔ k = ((psTo code code.length).getD q (0, 0, 0)).1) := by
  have hb := h.tl.bd q hq
  have ho := h.tl.mid q hq k h1 h2
  have hk : k < code.length := by omega
  have hen := h.tl.en k hk
  rw [ho] at hen
  refine ⟨hk, ho, ?_, hen.trans ⟨fun e => e.symm, fun e => e.symm⟩⟩
  unfold beginsN
  rw [ho, decide_eq_true (by rw [h.tl.ol]; exact hk), Bool.true_and, Bool.eq_iff_iff, beq_iff_eq, decide_eq_true_eq]
  exact ⟨fun e => e.symm, fun e => e.symm⟩
end
set_option maxRecDepth 100000 in
set_option maxHeartbeats 4000000 in
theorem procsTile_full (vc vj vn : Value) (code : List (Nat × Nat)) (js ats : List Nat) (w : World) (hc : Instrs w vc code) (hj : RowU w w.heap.size vj js) (hn : NamesU w w.heap.size vn ats) :
    Calls Try.prog 3 #[.agg #[vc, vj, vn]] w fun e w' => e = .returned (.bool true) ∧ Below w.heap.size w w' := by
  have HN := Lib.hid (CodeAt.new hc hj hn 26)
  clear hc hj hn
  have HS := Lib.hid (fun W => small_any W)
  go_enter Try.func3, Try.ntmps3
  go_wp2_with fail
  refine (HS.out _).mono ?_
  rintro e w1 ⟨b1, B1, rfl, hb1, -⟩
  have HC := Lib.hid (HN.out.calm hb1)
  clear hb1 HN HS
  have hc0 := HC.out.c0
  have hc1 := HC.out.c1
  have hc2 := HC.out.c2
  have HF := Lib.hid (find_any vc vj vn code js ats HC.out.hc HC.out.hj HC.out.hn)
  go_wp2_with fail
  refine HF.out.mono ?_
  rintro e w2 ⟨hb2, hx2⟩
  have HC2 := Lib.hid (HC.out.calm hb2)
  clear HF HC hb2 hc0 hc1 hc2
  rcases hx2 with ⟨i, c, rfl, hbad⟩ | ⟨b, B, rfl, hok, hB, hB2, hfound⟩
  · have hne : ((c : Int) != 0) = true := by have := hbad.ne; simp; omega
    go_wp2
    go_ret
    exact ⟨rfl, HC2.out.b⟩
  · obtain ⟨vp, vo, vt, us, tag, hA⟩ := hfound
    have HP := Lib.hid (fun W (hb : Below w2.heap.size w2 W) => (hA.calm hb).at_)
    have Hok := Lib.hid hok
    have hofl : ∀ z, z < (ofTo code code.length).length → (ofTo code code.length).getD z 0 < (psTo code code.length).length := fun z hz => hok.tl.lt z (by rw [← hok.tl.ol]; exact hz)
    have hlm : code.length ≤ 16384 := encRes_short hok.he
    have Hof := Lib.hid (fun z (hz : z < code.length) W (hb : Below w2.heap.size w2 W) => (show Calls Try.prog 9 #[.pointer (some ⟨b, 0, none⟩), .int .u32 z] W fun e w' => e = .returned (.int .i64 ((ofTo code code.length).getD z 0 : Nat)) ∧ W = w' from by
      have := of_any (HP.out W hb) z (by omega)
      unfold ofN at this
      rwa [if_pos (by rw [hok.tl.ol]; exact hz)] at this))
    have Hofn := Lib.hid (fun W (hb : Below w2.heap.size w2 W) => (show Calls Try.prog 9 #[.pointer (some ⟨b, 0, none⟩), .int .u32 (code.length : Nat)] W fun e w' => e = .returned (.int .i64 (-1)) ∧ W = w' from by
      have := of_any (HP.out W hb) code.length (by omega)
      unfold ofN at this
      rwa [if_neg (by rw [hok.tl.ol]; omega)] at this))
    have Hbg := Lib.hid (fun z (hz : z < 4294967296) W (hb : Below w2.heap.size w2 W) => begins_any (HP.out W hb) hofl z hz)
    have Hcnt := Lib.hid (fun W (hb : Below w2.heap.size w2 W) => count_any (HP.out W hb))
    have Hprc := Lib.hid (fun q (hq : q < (psTo code code.length).length) W (hb : Below w2.heap.size w2 W) => (show Calls Try.prog 8 #[.pointer (some ⟨b, 0, none⟩), .int .i64 (q : Nat)] W fun e w' => e = .returned (.tuple #[procV ((psTo code code.length).getD q (0, 0, 0)), .bool true]) ∧ Below W.heap.size W w' from by
      have := proc_any (HP.out W hb) (q : Nat)
      unfold procN at this
      rwa [if_pos ⟨by omega, by omega⟩, Int.toNat_natCast] at this))
    have hpl := psTo_le code code.length
    obtain ⟨a, cap, hvc, hlc, hcm, hnil, hp⟩ := HC2.out.hc.opened
    subst hvc
    have Hlt := Lib.hid HC2.out.hc.lt
    have Hp := Lib.hid hp
    have h0 := hok.beg0
    clear hp hnil hA hok hofl
    obtain ⟨m, hmm⟩ : ∃ m, m = (psTo code code.length).length := ⟨_, rfl⟩
    have HM := Lib.hid hmm
    rw [← hmm] at hpl Hcnt
    clear hmm
    obtain ⟨n, hnn⟩ : ∃ n, n = code.length := ⟨_, rfl⟩
    have HNN := Lib.hid hnn
    rw [← hnn] at hlc hlm hpl ⊢
    have H0 := Lib.hid h0
    clear hnn h0
    go_wp2_with fail
    go_loopw [7, 6] (fun i at_ wr => ∃ (q : Nat), q ≤ m ∧ i = .int .i64 q ∧ at_ = .int .i64 (begOf (psTo code code.length) code.length q : Nat) ∧ Below w2.heap.size w2 wr) (fun i _ _ => m - (intOf i).toNat)
    case atStart => exact ⟨0, by omega, rfl, by rw [H0.out]; rfl, Below.refl _ _⟩
    case round =>
      obtain ⟨q, hq, rfl, rfl, hbw⟩ := hrel
      have Hbw := Lib.hid hbw
      go_wp2_with fail
      refine (Hcnt.out _ Hbw.out).mono ?_
      rintro e w4 ⟨rfl, hb4⟩
      have Hb4 := Lib.hid (Bel.tr Hbw.out hb4)
      clear hbw hb4 Hbw
      by_cases hlt' : q < m
      · have hqm : q < (psTo code code.length).length := by rw [← HM.out]; exact hlt'
        have hbe : begOf (psTo code code.length) code.length q = ((psTo code code.length).getD q (0, 0, 0)).1 := if_pos hqm
        have hbs := Hok.out.begS q hqm
        have hone := Hok.out.one q hqm
        have hat := fun k => Hok.out.at_ q k hqm
        have hpr := Hprc.out q hqm
        rw [hbe]
        generalize (psTo code code.length).getD q (0, 0, 0) = pr at *
        obtain ⟨p0, p1, p2⟩ := pr
        simp only [procV] at *
        have hop0 := (hat p0 (Nat.le_refl _) (by omega)).1
        obtain ⟨cb, coff, rfl, hcb, hcc⟩ := Hp.out (by omega)
        have hr0 := (HC2.out.calm Hb4.out).c0
        rw [← HNN.out] at hr0 hone
        have hq2 := (Hb4.out.cell (p := ⟨cb, coff + p0 * 2 + 1, none⟩) hcb).trans (hcc p0 hop0).2
        rw [← hone.2.2] at hq2
        have Hpr := Lib.hid hpr
        have Hat := Lib.hid hat
        have Hbs := Lib.hid hbs
        have Hcc := Lib.hid hcc
        rw [← HNN.out] at hop0
        have hqi : (q : Int) < (m : Int) := by omega
        have hq0 : (0 : Int) ≤ (q : Int) := by omega
        have hone1 := hone.1
        have hone2 := hone.2.1
        clear hpr hat hbs hcc hbe hqm hone
        go_wp2_with fail
        refine (Hpr.out _ Hb4.out).mono ?_
        rintro e w5 ⟨rfl, hb5⟩
        have hq2 := (hb5.cell (p := ⟨cb, coff + p0 * 2 + 1, none⟩) (World.block_lt_of_cell? _ _ hq2)).trans hq2
        have hr0 := (hb5.cell (p := ⟨w.heap.size, 0, none⟩) (World.block_lt_of_cell? _ _ hr0)).trans hr0
        have Hb5 := Lib.hid (Bel.tr Hb4.out hb5)
        have hl5 : w.heap.size < w5.heap.size := World.block_lt_of_cell? _ _ hr0
        have hcb5 : cb < w5.heap.size := World.block_lt_of_cell? _ _ hq2
        have hz39 := zero39
        have hwp0 : IntKind.i64.wrap (p0 : Int) = (p0 : Int) := IntWalk.i64_in _ (by omega)
        have hwp1 : IntKind.i64.wrap (p1 : Int) = (p1 : Int) := IntWalk.i64_in _ (by omega)
        have hd1 : decide ((p1 : Int) < (p0 : Int) + 2) = false := decide_eq_false (by omega)
        have hd2 : decide ((n : Int) < (p1 : Int)) = false := decide_eq_false (by omega)
        have hd3 : decide (n < p1) = false := decide_eq_false (by omega)
        have hp00 : (0 : Int) ≤ (p0 : Int) := by omega
        have hp0n : (p0 : Int) < (n : Int) := by omega
        clear hb5 Hb4
        go_wp2_with fail
        go_quiet (fail)
        go_wp2_with fail
        clear hd1 hd2 hd3 hq2 hr0
        obtain ⟨w6, hw6⟩ : ∃ w6, w6 = w5.alloc (.cells #[.int .u32 p0, .int .u32 p1, .int .u32 p2, .int .i64 0] 35) := ⟨_, rfl⟩
        rw [← hw6]
        have hq1 : w6.cell? ⟨w5.heap.size, 1, none⟩ = some (.int .u32 p1) := by rw [hw6]; simp [go_sem]
        have Hb6 := Lib.hid (show Below w2.heap.size w2 w6 from by rw [hw6]; exact Bel.al Hb5.out _)
        have Hq1 := Lib.hid hq1
        clear hw6 hq1 Hb5
        go_loopw [10] (fun i wr => ∃ (k : Nat), p0 ≤ k ∧ k ≤ p1 ∧ i = .int .i64 k ∧ Below w6.heap.size w6 wr) (fun i _ => p1 - (intOf i).toNat)
        case atStart => exact ⟨p0, Nat.le_refl _, by omega, rfl, below_drewN (Below.refl _ _) _⟩
        case round =>
          obtain ⟨k, hk1, hk2, rfl, hbk⟩ := hrel
          have hqp := (hbk.cell (p := ⟨w5.heap.size, 1, none⟩) (World.block_lt_of_cell? _ _ Hq1.out)).trans Hq1.out
          have hb8 := Bel.tr Hb6.out hbk
          have Hb8 := Lib.hid hb8
          by_cases hkp : k < p1
          · obtain ⟨hkn, hO, hB, hop⟩ := Hat.out k hk1 hkp
            have hr0 := (HC2.out.calm hb8).c0
            rw [← HNN.out] at hr0
            have hqc := (hb8.cell (p := ⟨cb, coff + k * 2, none⟩) hcb).trans (Hcc.out k hkn).1
            have hof := Hof.out k hkn
            have hbg := fun W hb => Hbg.out k (by omega) W hb
            rw [hO] at hof
            rw [hB] at hbg
            generalize (code.getD k (0, 0)).1 = o at *
            rw [← HNN.out] at hkn
            have Hofk := Lib.hid hof
            have Hbgk := Lib.hid hbg
            have hki : (k : Int) < (p1 : Int) := by omega
            have hkn2 : (k : Int) < (n : Int) := by omega
            have hk0 : (0 : Int) ≤ (k : Int) := by omega
            have hwk : IntKind.u32.wrap (k : Int) = (k : Int) := u32_wrap k (by omega)
            have hl8 := World.block_lt_of_cell? _ _ hr0
            have hl9 := World.block_lt_of_cell? _ _ hqc
            have Hbk := Lib.hid hbk
            clear hof hbg hO hB hb8 hbk
            by_cases hkp0 : k = p0
            · subst hkp0
              obtain rfl : o = 3 := hop.2 rfl
              have hdk : decide (k = k) = true := decide_eq_true rfl
              rw [hdk] at Hbgk
              go_wp2_with (first
                | (go_at_call 9; with_reducible refine (Hofk.out _ ?_).mono ?_; exact Hb8.out; rintro e w9 ⟨rfl, rfl⟩)
                | (go_at_call 10; with_reducible refine (Hbgk.out _ ?_).mono ?_; exact Hb8.out; rintro e w9 ⟨rfl, hb9⟩; have hr0 := (hb9.cell (p := ⟨w.heap.size, 0, none⟩) hl8).trans hr0; have hqc := (hb9.cell (p := ⟨cb, coff + k * 2, none⟩) hl9).trans hqc))
              go_roundw
              case rel => exact ⟨k + 1, by omega, by omega, by go_num, Bel.tr Hbk.out hb9⟩
              case measure => simp [intOf]; omega
            · have ho3 : ¬ o = 3 := fun e => hkp0 (hop.1 e)
              have hdk : decide (k = p0) = false := decide_eq_false hkp0
              have ho4 : ((o : Int) == 3) = false := by simp; omega
              have hkp2 : ((k : Int) == (p0 : Int)) = false := by simp; omega
              rw [hdk] at Hbgk
              clear hop ho3
              go_wp2_with (first
                | (go_at_call 9; with_reducible refine (Hofk.out _ ?_).mono ?_; exact Hb8.out; rintro e w9 ⟨rfl, rfl⟩)
                | (go_at_call 10; with_reducible refine (Hbgk.out _ ?_).mono ?_; exact Hb8.out; rintro e w9 ⟨rfl, hb9⟩; have hr0 := (hb9.cell (p := ⟨w.heap.size, 0, none⟩) hl8).trans hr0; have hqc := (hb9.cell (p := ⟨cb, coff + k * 2, none⟩) hl9).trans hqc))
              go_roundw
              case rel => exact ⟨k + 1, by omega, by omega, by go_num, Bel.tr Hbk.out hb9⟩
              case measure => simp [intOf]; omega
          · obtain rfl : k = p1 := by omega
            have HX := Lib.hid hb8
            have hki : ¬ (k : Int) < (k : Int) := by omega
            clear hb8 hbk Hb8
            go_wp2
            go_roundw
            case rel => exact ⟨q + 1, by omega, by go_num, by rw [Hbs.out], HX.out⟩
            case measure => simp [intOf]; omega
      · obtain rfl : q = m := by omega
        have hbe : begOf (psTo code code.length) code.length q = n := by unfold begOf; rw [if_neg (by rw [← HM.out]; omega)]; exact HNN.out.symm
        rw [hbe]
        have hr0 := (HC2.out.calm Hb4.out).c0
        rw [← HNN.out] at hr0
        have hof := Hofn.out _ Hb4.out
        rw [← HNN.out] at hof
        have Hofq := Lib.hid hof
        have hwn : IntKind.u32.wrap (n : Int) = (n : Int) := u32_wrap n (by omega)
        have HX := Lib.hid (HC2.out.b.trans (Hb4.out.mono HC2.out.b.size))
        clear hof hbe
        go_wp2_with (go_at_call 9; with_reducible refine Hofq.out.mono ?_; rintro e w9 ⟨rfl, rfl⟩)
        go_ret
        exact ⟨rfl, HX.out⟩
end Go.Proofs.Ytofkamnmgpkehaa
