import Derived.Test.YtofkamnmgpkehabAim
import Derived.Test.YtofkamnmgpkehabProcs2
import Derived.Test.YtofkamnmgpkehabTiles
/- procs.Find. -/
namespace Go.Proofs.Ytofkamnmgpkehab
open Go.RowKit
/-- A row of names that came in. -/
def NamesU (w : World) (B : Nat) (v : Value) (ats : List Nat) : Prop := ∃ a cap, v = .slice a ats.length cap ∧ ats.length ≤ cap ∧ cap ≤ maxLen ∧ (∀ k, ats.getD k 0 < 4294967296) ∧
  (0 < ats.length → ∃ b off, a = some ⟨b, off, none⟩ ∧ b < B ∧ ∀ k, k < ats.length → ∃ s, w.cell? ⟨b, off + k * 2, none⟩ = some (.string s) ∧ w.cell? ⟨b, off + k * 2 + 1, none⟩ = some (.int .u32 (ats.getD k 0)))
theorem RowU.calm {w W : World} {B : Nat} {v : Value} {l : List Nat} (h : RowU w w.heap.size v l) (hb : Below w.heap.size w W) (hB : w.heap.size ≤ B) : RowU W B v l := by
  obtain ⟨a, cap, h1, h2, h3, h4, h5⟩ := h
  refine ⟨a, cap, h1, h2, h3, h4, fun h0 => ?_⟩
  obtain ⟨b, off, e, hlt, hc⟩ := h5 h0
  exact ⟨b, off, e, Nat.lt_of_lt_of_le hlt hB, fun k hk => (hb.cell (p := ⟨b, off + k, none⟩) hlt).trans (hc k hk)⟩
def faultAt (code : List (Nat × Nat)) (i : Nat) : Nat := faultN ((psTo code code.length).getD ((ofTo code code.length).getD i 0) (0, 0, 0)) i (code.getD i (0, 0))
def Firsts (code : List (Nat × Nat)) : Prop := 0 < code.length ∧ (code.getD 0 (0, 0)).1 = 3
/-- What Find refuses. -/
inductive FindBad (code : List (Nat × Nat)) (js ats : List Nat) : Nat → Nat → Prop where
  | enc (h : (encRes code).2.2 ≠ 0) : FindBad code js ats (encRes code).2.1 (encRes code).2.2
  | first (he : (encRes code).2.2 = 0) (h : ¬ Firsts code) : FindBad code js ats 0 130
  | fault (he : (encRes code).2.2 = 0) (h3 : Firsts code) (i : Nat) (hi : i < code.length) (hj : ∀ j, j < i → faultAt code j = 0) (hf : faultAt code i ≠ 0) : FindBad code js ats i (faultAt code i)
  | jump (he : (encRes code).2.2 = 0) (h3 : Firsts code) (hall : ∀ j, j < code.length → faultAt code j = 0) (i : Nat) (hi : i < js.length) (hg : GoodTo (psTo code code.length) (ofTo code code.length) js i) (hb : aimOk (psTo code code.length) (ofTo code code.length) js i = false) : FindBad code js ats i 134
  | name (he : (encRes code).2.2 = 0) (h3 : Firsts code) (hall : ∀ j, j < code.length → faultAt code j = 0) (hg : GoodTo (psTo code code.length) (ofTo code code.length) js js.length) (i : Nat) (hi : i < ats.length) (hj : ∀ j, j < i → beginsN (psTo code code.length) (ofTo code code.length) (ats.getD j 0) = true) (hb : beginsN (psTo code code.length) (ofTo code code.length) (ats.getD i 0) = false) : FindBad code js ats i 135
structure FindOk (code : List (Nat × Nat)) (js ats : List Nat) : Prop where
  he : (encRes code).2.2 = 0
  h3 : Firsts code
  hall : ∀ j, j < code.length → faultAt code j = 0
  hg : GoodTo (psTo code code.length) (ofTo code code.length) js js.length
  hn : ∀ j, j < ats.length → beginsN (psTo code code.length) (ofTo code code.length) (ats.getD j 0) = true
def Found (code : List (Nat × Nat)) (js : List Nat) (w : World) (B b : Nat) : Prop :=
  ∃ vp vo vt us tag, AimI w B b vp vo vt (psTo code code.length) (ofTo code code.length) us (aimTo (ofTo code code.length) js (psTo code code.length).length js.length) tag
def FindPost (code : List (Nat × Nat)) (js ats : List Nat) (w : World) (e : Ending) (w' : World) : Prop :=
  Below w.heap.size w w' ∧ ((∃ i c, e = .returned (.tuple #[.pointer none, .int .i64 (i : Nat), .int .i64 (c : Nat)]) ∧ FindBad code js ats i c) ∨
    ∃ b B, e = .returned (.tuple #[.pointer (some ⟨b, 0, none⟩), .int .i64 0, .int .i64 0]) ∧ FindOk code js ats ∧ w.heap.size ≤ B ∧ B ≤ w'.heap.size ∧ Found code js w' B b)
theorem encRes_short {code : List (Nat × Nat)} (h : (encRes code).2.2 = 0) : code.length ≤ 16384 := by
  by_cases h1 : 16384 < code.length
  · rw [encRes_many h1] at h; cases h
  · omega
set_option maxRecDepth 100000 in
set_option maxHeartbeats 4000000 in
theorem find_any {w : World} (vc vj vn : Value) (code : List (Nat × Nat)) (js ats : List Nat) (hc : Instrs w vc code) (hj : RowU w w.heap.size vj js) (hn : NamesU w w.heap.size vn ats) :
    Calls Try.prog 15 #[vc, vj, vn] w (FindPost code js ats w) := by
  have hlt := hc.lt
  have henc := encode_any vc code w hc
  have hmx : Try.prog.follows .mixedOrders = true := by kernel_rfl
  obtain ⟨a, cap, hvc, hlc, hcm, hnil, hp⟩ := hc.opened
  have hlm : code.length ≤ 9223372036854775807 := by unfold maxLen at hcm; omega
  have Henc := Lib.hid henc
  have Hc := Lib.hid hc
  have Hj := Lib.hid hj
  have Hn := Lib.hid hn
  have Hlt := Lib.hid hlt
  have Hp := Lib.hid hp
  clear hp hnil hlt hj hn hc henc
  subst hvc
  go_enter Try.func15, Try.ntmps15
  go_wp2_with fail
  refine Henc.out.mono ?_
  rintro e w1 ⟨ve, rfl, hown, hgr, hnil⟩
  have Hb1 := Lib.hid (show Below w.heap.size w w1 from hgr.bel)
  clear hown hgr hnil Henc
  by_cases h0 : (encRes code).2.2 = 0
  · have Hs := Lib.hid (encRes_short h0)
    have He := Lib.hid h0
    rw [h0]
    generalize (encRes code).2.1 = ei
    clear h0
    by_cases h1 : code.length = 0
    · have HB := Lib.hid (show FindBad code js ats 0 130 from .first He.out (fun h => by have := h.1; omega))
      have hz : (code.length : Int) = 0 := by omega
      go_wp2
      exact bodyPost_ret (v := .tuple #[.pointer none, .int .i64 ((0 : Nat) : Int), .int .i64 ((130 : Nat) : Int)]) (by simp [results, Try.results15, go_sem]) rfl ⟨Hb1.out, .inl ⟨_, _, rfl, HB.out⟩⟩
    · obtain ⟨cb, coff, rfl, hcb, hcc⟩ := Hp.out (by omega)
      have hlen : (code.length : Int) ≠ 0 := by omega
      have hlen2 : (0 : Int) < (code.length : Int) := by omega
      have hq0 := (Hb1.out.cell (p := ⟨cb, coff + 0 * 2, none⟩) hcb).trans (hcc 0 (by omega)).1
      rw [Nat.zero_mul, Nat.add_zero] at hq0
      by_cases h3 : (code.getD 0 (0, 0)).1 = 3
      · have H3 := Lib.hid (show Firsts code from ⟨by omega, h3⟩)
        rw [h3] at hq0
        have Hcc := Lib.hid hcc
        have Hcut := Lib.hid (cut_any _ code Hs.out (by omega) h3 w1 (Hc.out.below Hb1.out))
        clear hcc h3
        go_wp2_with fail
        refine Hcut.out.mono ?_
        rintro e w2 ⟨b, vp, vo, vt, tag, rfl, hA, hb2⟩
        have HA := Lib.hid hA
        have Hb2 := Lib.hid hb2
        have hcb1 : cb < w1.heap.size := Nat.lt_of_lt_of_le hcb Hb1.out.size
        clear hA hb2 Hcut hq0
        go_wp2_with fail
        have HT := Lib.hid (tiles (code := code) H3.out.2 code.length)
        obtain ⟨n, hnn⟩ : ∃ n, n = code.length := ⟨_, rfl⟩
        have HN := Lib.hid hnn
        rw [← hnn] at hlc hlm hlen hlen2 h1 ⊢
        clear hnn
        have hcl := Lib.hid (fun (wr : World) (hb : Below w2.heap.size w2 wr) (k : Nat) (hk : k < n) => (show wr.cell? ⟨cb, coff + k * 2, none⟩ = some (.int .u8 (code.getD k (0, 0)).1) ∧ wr.cell? ⟨cb, coff + k * 2 + 1, none⟩ = some (.int .u32 (code.getD k (0, 0)).2) from by
          have hx := Bel.tr Hb2.out hb
          obtain ⟨e1, e2⟩ := Hcc.out k (by rw [← HN.out]; exact hk)
          exact ⟨(hx.cell (p := ⟨cb, coff + k * 2, none⟩) hcb1).trans ((Hb1.out.cell (p := ⟨cb, coff + k * 2, none⟩) hcb).trans e1), (hx.cell (p := ⟨cb, coff + k * 2 + 1, none⟩) hcb1).trans ((Hb1.out.cell (p := ⟨cb, coff + k * 2 + 1, none⟩) hcb).trans e2)⟩))
        go_loopw [44] (fun i wr => ∃ (k : Nat), k ≤ n ∧ i = .int .i64 k ∧ Below w2.heap.size w2 wr ∧ ∀ j, j < k → faultAt code j = 0) (fun i _ => n - (intOf i).toNat)
        case atStart => exact ⟨0, by omega, rfl, Below.refl _ _, fun j h => absurd h (Nat.not_lt_zero j)⟩
        case round =>
          obtain ⟨k, hk, rfl, hbw, hgd⟩ := hrel
          by_cases hlt' : k < n
          · obtain ⟨hq1, hq2⟩ := hcl.out wr hbw k hlt'
            obtain ⟨hlo, hla⟩ := Hlt.out k
            have hfa : faultAt code k = faultN ((psTo code code.length).getD ((ofTo code code.length).getD k 0) (0, 0, 0)) k (code.getD k (0, 0)) := rfl
            have hI := (HA.out.calm hbw).at_
            have hr := HT.out.lt k (by rw [← HN.out]; exact hlt')
            have hol := HT.out.ol.trans HN.out.symm
            have hki : (k : Int) < (n : Int) := by omega
            have hk0 : (0 : Int) ≤ (k : Int) := by omega
            have hs := Hs.out
            rw [← HN.out] at hs
            generalize code.getD k (0, 0) = ins at *
            obtain ⟨o, x⟩ := ins
            simp only at hq1 hq2 hlo hla
            generalize psTo code code.length = P at *
            generalize ofTo code code.length = O at *
            obtain ⟨ao, co, hvo, -, -, hog⟩ := own_sl hI.oo
            obtain ⟨ap, cp, hvp, -, -, hpg⟩ := own_sl hI.op
            obtain ⟨go, hao, hgo, hoc⟩ := hog (by omega)
            obtain ⟨gp, hap, hgp, hpc⟩ := hpg (by omega)
            have hqo := hoc k (by rw [encN_length]; omega)
            rw [encN_at _ _ _ (by omega)] at hqo
            have hl4 := encP_length P
            obtain ⟨r0, r1, r2, r3⟩ := encP_at P (O.getD k 0) hr
            rw [← hpc _ (by omega)] at r0 r1 r2 r3
            have hcp := hI.c0
            have hc1 := hI.c1
            rw [hvp, hap] at hcp
            rw [hvo, hao] at hc1
            clear hog hpg hoc hpc hl4 hvo hvp hao hap hI
            have hfu := fun W => fault_any (P.getD (O.getD k 0) (0, 0, 0)) k o x (by omega) hlo hla W
            generalize O.getD k 0 = r at *
            generalize P.getD r (0, 0, 0) = pr at *
            obtain ⟨p0, p1, p2⟩ := pr
            simp only at r0 r1 r2
            rw [← hfa] at hfu
            have Hfa := Lib.hid hfa
            obtain ⟨f, hf⟩ : ∃ f, f = faultAt code k := ⟨_, rfl⟩
            rw [← hf] at hfu
            have Hf := Lib.hid hf
            obtain ⟨np, hnp⟩ : ∃ np, np = P.length := ⟨_, rfl⟩
            rw [← hnp] at hcp hr
            rw [hol] at hc1
            have hwk : IntKind.u32.wrap (k : Int) = (k : Int) := u32_wrap k (by omega)
            have hb3 := Bel.new wr (.cells #[.int .u8 o, .int .u32 x] 49)
            have hw0 := cells_new2 wr (.int .u8 o) (.int .u32 x) 49
            have bel := fun {bb j : Nat} {v : Value} (h : wr.cell? ⟨bb, j, none⟩ = some v) => BelW.cell ((hb3.cell (p := ⟨bb, j, none⟩) (World.block_lt_of_cell? _ _ h)).trans h)
            have tcp := bel hcp
            have tc1 := bel hc1
            have tqo := bel hqo
            have tr0 := bel r0
            have tr1 := bel r1
            have tr2 := bel r2
            have tr3 := bel r3
            have ti0 := BelW.cell hw0.1
            have ti1 := BelW.cell hw0.2
            have hne : Nonempty (BelW (wr.alloc (.cells #[.int .u8 o, .int .u32 x] 49))) := ⟨⟨_, Below.refl _ _⟩⟩
            have hr0 : (0 : Int) ≤ (r : Int) := by omega
            have hr1 : (r : Int) < (np : Int) := by omega
            have Hgd := Lib.hid hgd
            have Hbw := Lib.hid (Bel.tr hbw hb3)
            have Hfu := Lib.hid hfu
            clear hgd hfa hf hfu hbw hb3 hw0 bel hcp hc1 hqo r0 r1 r2 r3 hnp hr hol hgo hgp
            go_wp2_with fail
            clear hq1 hq2
            refine wp_region_quietB hmx (by kernel_rfl) ?_
            repeat (go_big_quiet_step ((go_at_call 35; exact (Hfu.out _).mono fun e w' h => ⟨h.1, BelW.to _ h.2⟩)))
            refine wpQuiet_nil ?_
            rintro w3 ⟨⟨w4, hb4⟩, rfl⟩
            have Hb4 := Lib.hid (Bel.tr Hbw.out hb4)
            clear tcp tc1 tqo tr0 tr1 tr2 tr3 ti0 ti1 hne hb4 Hfu
            by_cases hf0 : f = 0
            · subst hf0
              go_wp2
              go_roundw
              case rel => exact ⟨k + 1, by omega, by go_num, Hb4.out, fun j hj => by
                by_cases e : j = k
                · rw [e]; exact Hf.out.symm
                · exact Hgd.out j (by omega)⟩
              case measure => simp [intOf]; omega
            · have hd : ((f : Int) == 0) = false := by simp; omega
              have hd2 : ((f : Int) != 0) = true := by simp; omega
              have HB := Lib.hid (show FindBad code js ats k f from by
                rw [Hf.out]; exact .fault He.out H3.out k (by rw [← HN.out]; exact hlt') Hgd.out (by rw [← Hf.out]; exact hf0))
              go_wp2
              exact bodyPost_ret (v := .tuple #[.pointer none, .int .i64 k, .int .i64 f]) (by simp [results, Try.results15, go_sem]) rfl ⟨Hb1.out.trans ((Bel.tr Hb2.out Hb4.out).mono Hb1.out.size), .inl ⟨_, _, rfl, HB.out⟩⟩
          · obtain rfl : k = n := by omega
            have Hall := Lib.hid (show ∀ j, j < code.length → faultAt code j = 0 from fun j hj => hgd j (by rw [HN.out]; exact hj))
            have hA := HA.out.calm hbw
            have hs1 := Hb1.out.size
            have hs2 := Hb2.out.size
            have hs3 := hbw.size
            have hbx := Bel.tr Hb2.out hbw
            have Haim := Lib.hid (aim_any hA (fun x hx => HT.out.lt x (by rw [← HT.out.ol]; exact hx)) (by rw [HT.out.ol]; exact Hs.out) (Nat.le_trans hs2 hs3) vj js (Hj.out.calm (Hb1.out.trans (hbx.mono hs1)) hs1))
            have Hbw := Lib.hid (Hb1.out.trans (hbx.mono hs1))
            have Hw1 := Lib.hid (show w.heap.size ≤ w1.heap.size from hs1)
            have Hw2 := Lib.hid (Nat.le_trans hs2 hs3)
            clear hgd hbw hA hs1 hs2 hs3 hbx HA
            go_wp2_with fail
            refine Haim.out.mono ?_
            rintro e w3 ⟨hb3, hx⟩
            have Hb3 := Lib.hid (show Below w.heap.size w w3 from Hbw.out.trans (hb3.mono Hw1.out))
            have Hw3 := Lib.hid (Nat.le_trans Hw2.out hb3.size)
            clear hb3 Haim
            rcases hx with ⟨rfl, hg, us, tag, hA⟩ | ⟨i, hi, rfl, hg, hbad⟩
            · have Hg := Lib.hid hg
              have HA := Lib.hid hA
              clear hg hA
              obtain ⟨an, capn, rfl, hnc, hncm, hnl, hnp⟩ := Hn.out
              have hnm : ats.length ≤ 9223372036854775807 := by unfold maxLen at hncm; omega
              have Hnp := Lib.hid hnp
              have Hnl := Lib.hid hnl
              clear hnp hnl
              obtain ⟨m, hmm⟩ : ∃ m, m = ats.length := ⟨_, rfl⟩
              have HM := Lib.hid hmm
              rw [← hmm] at hnc hnm ⊢
              clear hmm
              go_wp2_with fail
              go_loopw [83] (fun i wr => ∃ (k : Nat), k ≤ m ∧ i = .int .i64 k ∧ Below w3.heap.size w3 wr ∧ ∀ j, j < k → beginsN (psTo code code.length) (ofTo code code.length) (ats.getD j 0) = true) (fun i _ => m - (intOf i).toNat)
              case atStart => exact ⟨0, by omega, rfl, Below.refl _ _, fun j h => absurd h (Nat.not_lt_zero j)⟩
              case round =>
                obtain ⟨k, hk, rfl, hbw, hgd⟩ := hrel
                by_cases hlt' : k < m
                · obtain ⟨nb, noff, rfl, hnb, hnc2⟩ := Hnp.out (by rw [← HM.out]; omega)
                  obtain ⟨sn, hs1, hs2⟩ := hnc2 k (by rw [← HM.out]; exact hlt')
                  have hnb3 : nb < w3.heap.size := Nat.lt_of_lt_of_le hnb Hb3.out.size
                  have hq1 := (hbw.cell (p := ⟨nb, noff + k * 2, none⟩) hnb3).trans ((Hb3.out.cell (p := ⟨nb, noff + k * 2, none⟩) hnb).trans hs1)
                  have hq2 := (hbw.cell (p := ⟨nb, noff + k * 2 + 1, none⟩) hnb3).trans ((Hb3.out.cell (p := ⟨nb, noff + k * 2 + 1, none⟩) hnb).trans hs2)
                  have hxl := Hnl.out k
                  have hI := (HA.out.calm (Bel.tr hbw (Bel.new wr (.cells #[.string sn, .int .u32 (ats.getD k 0)] 54)))).at_
                  have hbg := begins_any hI (fun x hx => HT.out.lt x (by rw [← HT.out.ol]; exact hx)) (ats.getD k 0) hxl
                  have hki : (k : Int) < (m : Int) := by omega
                  have hk0 : (0 : Int) ≤ (k : Int) := by omega
                  have Hgd := Lib.hid hgd
                  have Hbw := Lib.hid (Bel.tr hbw (Bel.new wr (.cells #[.string sn, .int .u32 (ats.getD k 0)] 54)))
                  obtain ⟨bv, hbv⟩ : ∃ bv, bv = beginsN (psTo code code.length) (ofTo code code.length) (ats.getD k 0) := ⟨_, rfl⟩
                  rw [← hbv] at hbg
                  have Hbv := Lib.hid hbv
                  have Hbg := Lib.hid hbg
                  clear hgd hbw hI hbg hbv hs1 hs2 hnc2
                  obtain ⟨x, hx⟩ : ∃ x, x = ats.getD k 0 := ⟨_, rfl⟩
                  have Hxe := Lib.hid hx
                  rw [← hx] at Hbv Hbg Hbw hq2 hxl
                  clear hx
                  go_wp2_with fail
                  refine Hbg.out.mono ?_
                  rintro e w4 ⟨rfl, hb4⟩
                  have Hb4 := Lib.hid (Bel.tr Hbw.out hb4)
                  clear Hbg hb4 hq1 hq2
                  cases bv with
                  | false =>
                    have HB := Lib.hid (show FindBad code js ats k 135 from .name He.out H3.out Hall.out Hg.out k (by rw [← HM.out]; exact hlt') Hgd.out (by rw [← Hxe.out]; exact Hbv.out.symm))
                    go_wp2
                    exact bodyPost_ret (v := .tuple #[.pointer none, .int .i64 k, .int .i64 ((135 : Nat) : Int)]) (by simp [results, Try.results15, go_sem]) rfl ⟨Hb3.out.trans (Hb4.out.mono Hb3.out.size), .inl ⟨_, _, rfl, HB.out⟩⟩
                  | true =>
                    go_wp2
                    go_roundw
                    case rel => exact ⟨k + 1, by omega, by go_num, Hb4.out, fun j hj => by
                      by_cases e : j = k
                      · rw [e, ← Hxe.out]; exact Hbv.out.symm
                      · exact Hgd.out j (by omega)⟩
                    case measure => simp [intOf]; omega
                · obtain rfl : k = m := by omega
                  have Hx := Lib.hid (show FindPost code js ats w (.returned (.tuple #[.pointer (some ⟨b, 0, none⟩), .int .i64 0, .int .i64 0])) wr from
                    ⟨Hb3.out.trans (hbw.mono Hb3.out.size), .inr ⟨b, w1.heap.size, rfl, ⟨He.out, H3.out, Hall.out, Hg.out, fun j hj => hgd j (by rw [HM.out]; exact hj)⟩, Hw1.out, Nat.le_trans Hw3.out hbw.size, vp, vo, vt, us, tag, HA.out.calm hbw⟩⟩)
                  clear hbw hgd
                  go_wp2
                  exact bodyPost_ret (v := .tuple #[.pointer (some ⟨b, 0, none⟩), .int .i64 0, .int .i64 0]) (by simp [results, Try.results15, go_sem]) rfl Hx.out
            · have HB := Lib.hid (show FindBad code js ats i 134 from .jump He.out H3.out Hall.out i hi hg hbad)
              clear hg hbad
              go_wp2
              exact bodyPost_ret (v := .tuple #[.pointer none, .int .i64 i, .int .i64 ((134 : Nat) : Int)]) (by simp [results, Try.results15, go_sem]) rfl ⟨Hb3.out, .inl ⟨_, _, rfl, HB.out⟩⟩
      · have HB := Lib.hid (show FindBad code js ats 0 130 from .first He.out (fun h => h3 h.2))
        generalize (code.getD 0 (0, 0)).1 = o at *
        have hd : ((o : Int) == 3) = false := by simp; omega
        have hd2 : ((o : Int) != 3) = true := by simp; omega
        clear hcc
        go_wp2
        exact bodyPost_ret (v := .tuple #[.pointer none, .int .i64 ((0 : Nat) : Int), .int .i64 ((130 : Nat) : Int)]) (by simp [results, Try.results15, go_sem]) rfl ⟨Hb1.out, .inl ⟨_, _, rfl, HB.out⟩⟩
  · have HB := Lib.hid (show FindBad code js ats (encRes code).2.1 (encRes code).2.2 from .enc h0)
    generalize (encRes code).2.1 = ei at *
    generalize (encRes code).2.2 = ec at *
    have hd : ((ec : Int) == 0) = false := by simp; omega
    go_wp2
    exact bodyPost_ret (v := .tuple #[.pointer none, .int .i64 ei, .int .i64 ec]) (by simp [results, Try.results15, go_sem]) rfl ⟨Hb1.out, .inl ⟨_, _, rfl, HB.out⟩⟩
end Go.Proofs.Ytofkamnmgpkehab
