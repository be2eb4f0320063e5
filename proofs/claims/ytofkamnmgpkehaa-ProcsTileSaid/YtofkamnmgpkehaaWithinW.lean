import Derived.Test.YtofkamnmgpkehaaWithin
import Derived.Test.YtofkamnmgpkehaaSmall
import Derived.Test.YtofkamnmgpkehaaSearch
/- The walk of ProcsWithin. -/
namespace Go.Proofs.Ytofkamnmgpkehaa
open Go.RowKit
theorem NamesU.calm {w W : World} {B : Nat} {v : Value} {l : List Nat} (h : NamesU w w.heap.size v l) (hb : Below w.heap.size w W) (hB : w.heap.size ≤ B) : NamesU W B v l := by
  obtain ⟨a, cap, h1, h2, h3, h4, h5⟩ := h
  refine ⟨a, cap, h1, h2, h3, h4, fun h0 => ?_⟩
  obtain ⟨b, off, e, hlt, hc⟩ := h5 h0
  refine ⟨b, off, e, Nat.lt_of_lt_of_le hlt hB, fun k hk => ?_⟩
  obtain ⟨s, e1, e2⟩ := hc k hk
  exact ⟨s, (hb.cell (p := ⟨b, off + k * 2, none⟩) hlt).trans e1, (hb.cell (p := ⟨b, off + k * 2 + 1, none⟩) hlt).trans e2⟩
theorem cells_new3 (w : World) (a b c : Value) (t : TypeId) : (w.alloc (.cells #[a, b, c] t)).cell? ⟨w.heap.size, 0, none⟩ = some a ∧ (w.alloc (.cells #[a, b, c] t)).cell? ⟨w.heap.size, 1, none⟩ = some b ∧ (w.alloc (.cells #[a, b, c] t)).cell? ⟨w.heap.size, 2, none⟩ = some c := ⟨by simp [go_sem], by simp [go_sem], by simp [go_sem]⟩
/-- What the walk of a law keeps of its first argument: the struct in a block of its own, the lists as they came. -/
structure CodeAt (w : World) (W : World) (vc vj vn : Value) (code : List (Nat × Nat)) (js ats : List Nat) : Prop where
  b : Below w.heap.size w W
  lt : w.heap.size < W.heap.size
  c0 : W.cell? ⟨w.heap.size, 0, none⟩ = some vc
  c1 : W.cell? ⟨w.heap.size, 1, none⟩ = some vj
  c2 : W.cell? ⟨w.heap.size, 2, none⟩ = some vn
  hc : Instrs W vc code
  hj : RowU W W.heap.size vj js
  hn : NamesU W W.heap.size vn ats
theorem CodeAt.calm {w W W' : World} {vc vj vn : Value} {code : List (Nat × Nat)} {js ats : List Nat} (h : CodeAt w W vc vj vn code js ats) (hb : Below W.heap.size W W') : CodeAt w W' vc vj vn code js ats :=
  ⟨Bel.tr h.b hb, Nat.lt_of_lt_of_le h.lt hb.size, (hb.cell (p := ⟨w.heap.size, 0, none⟩) h.lt).trans h.c0, (hb.cell (p := ⟨w.heap.size, 1, none⟩) h.lt).trans h.c1, (hb.cell (p := ⟨w.heap.size, 2, none⟩) h.lt).trans h.c2, h.hc.below hb, h.hj.calm hb hb.size, h.hn.calm hb hb.size⟩
theorem CodeAt.new {w : World} {vc vj vn : Value} {code : List (Nat × Nat)} {js ats : List Nat} (hc : Instrs w vc code) (hj : RowU w w.heap.size vj js) (hn : NamesU w w.heap.size vn ats) (t : TypeId) : CodeAt w (w.alloc (.cells #[vc, vj, vn] t)) vc vj vn code js ats :=
  have hb := Bel.new w (.cells #[vc, vj, vn] t)
  ⟨hb, by simp, (cells_new3 _ _ _ _ _).1, (cells_new3 _ _ _ _ _).2.1, (cells_new3 _ _ _ _ _).2.2, hc.below hb, hj.calm hb hb.size, hn.calm hb hb.size⟩
set_option maxRecDepth 100000 in
set_option maxHeartbeats 4000000 in
theorem procsWithin_full (vc vj vn : Value) (code : List (Nat × Nat)) (js ats : List Nat) (x y : Nat) (hx : x < 4294967296) (hy : y < 4294967296) (w : World) (hc : Instrs w vc code) (hj : RowU w w.heap.size vj js) (hn : NamesU w w.heap.size vn ats) :
    Calls Try.prog 4 #[.agg #[vc, vj, vn], .int .u32 x, .int .u32 y] w fun e w' => e = .returned (.bool true) ∧ Below w.heap.size w w' := by
  have HN := Lib.hid (CodeAt.new hc hj hn 26)
  clear hc hj hn
  have hmx : Try.prog.follows .mixedOrders = true := by kernel_rfl
  have HS := Lib.hid (fun W => small_any W)
  go_enter Try.func4, Try.ntmps4
  go_wp2_with fail
  refine (HS.out _).mono ?_
  rintro e w1 ⟨b1, B1, rfl, hb1, -⟩
  have HC := Lib.hid (HN.out.calm hb1)
  clear hb1 HN HS
  have hc0 := HC.out.c0
  have hc1 := HC.out.c1
  have hc2 := HC.out.c2
  have HF := Lib.hid (find_any vc vj vn code js ats HC.out.hc HC.out.hj HC.out.hn)
  go_wp2_with fail
  refine HF.out.mono ?_
  rintro e w2 ⟨hb2, hx2⟩
  have HC2 := Lib.hid (HC.out.calm hb2)
  clear HF HC hb2 hc0 hc1 hc2
  rcases hx2 with ⟨i, c, rfl, hbad⟩ | ⟨b, B, rfl, hok, hB, hB2, hfound⟩
  · have hne : ((c : Int) != 0) = true := by have := hbad.ne; simp; omega
    go_wp2
    go_ret
    exact ⟨rfl, HC2.out.b⟩
  · obtain ⟨vp, vo, vt, us, tag, hA⟩ := hfound
    have HP := Lib.hid (fun W (hb : Below w2.heap.size w2 W) => (hA.calm hb).at_)
    have Hok := Lib.hid hok
    have hofl : ∀ z, z < (ofTo code code.length).length → (ofTo code code.length).getD z 0 < (psTo code code.length).length := fun z hz => hok.tl.lt z (by rw [← hok.tl.ol]; exact hz)
    have Hof := Lib.hid (fun z (hz : z < code.length) W (hb : Below w2.heap.size w2 W) => (show Calls Try.prog 9 #[.pointer (some ⟨b, 0, none⟩), .int .u32 z] W fun e w' => e = .returned (.int .i64 ((ofTo code code.length).getD z 0 : Nat)) ∧ W = w' from by
      have := of_any (HP.out W hb) z (by have := encRes_short hok.he; omega)
      unfold ofN at this
      rwa [if_pos (by rw [hok.tl.ol]; exact hz)] at this))
    have Hbg := Lib.hid (fun z (hz : z < 4294967296) W (hb : Below w2.heap.size w2 W) => begins_any (HP.out W hb) hofl z hz)
    have Hlg := Lib.hid (fun z z' (hz : z < 4294967296) W (hb : Below w2.heap.size w2 W) => legal_any (HP.out W hb) (fun q hq => by rw [aimTo_length]; exact hofl q hq) hok.tg.sorted (fun j => by
      have h1 := aimTo_row_le (ofTo code code.length) js (psTo code code.length).length js.length j
      have h2 := hok.hg.le
      rw [hok.tl.ol] at h2
      have := encRes_short hok.he
      omega) z z' hz)
    obtain ⟨a, cap, hvc, hlc, hcm, hnil, hp⟩ := HC2.out.hc.opened
    subst hvc
    have hlm : code.length ≤ 16384 := encRes_short hok.he
    have Hlt := Lib.hid HC2.out.hc.lt
    have Hp := Lib.hid hp
    clear hp hnil hA hok hofl
    go_wp2_with fail
    obtain ⟨n, hnn⟩ : ∃ n, n = code.length := ⟨_, rfl⟩
    have HNN := Lib.hid hnn
    rw [← hnn] at hlc hlm ⊢
    have hc0 := HC2.out.c0
    rw [← hnn] at hc0
    clear hnn
    go_loopw [10] (fun i wr => ∃ (k : Nat), k ≤ n ∧ i = .int .i64 k ∧ Below w2.heap.size w2 wr) (fun i _ => n - (intOf i).toNat)
    case atStart => exact ⟨0, by omega, rfl, Below.refl _ _⟩
    case round =>
      obtain ⟨k, hk, rfl, hbw⟩ := hrel
      have HCr := Lib.hid (HC2.out.calm hbw)
      have hr0 := HCr.out.c0
      rw [← HNN.out] at hr0
      by_cases hlt' : k < n
      · obtain ⟨cb, coff, rfl, hcb, hcc⟩ := Hp.out (by rw [← HNN.out]; omega)
        obtain ⟨e1, e2⟩ := hcc k (by rw [← HNN.out]; exact hlt')
        have hq1 := (hbw.cell (p := ⟨cb, coff + k * 2, none⟩) hcb).trans e1
        have hq2 := (hbw.cell (p := ⟨cb, coff + k * 2 + 1, none⟩) hcb).trans e2
        have hlk := Hlt.out k
        have hk' : k < code.length := by rw [← HNN.out]; exact hlt'
        have hop := Hok.out.op k hk'
        have htg := Hok.out.target k hk'
        have hgo := Hok.out.goes k hk'
        have hoi := Hof.out k hk'
        generalize code.getD k (0, 0) = ins at *
        obtain ⟨o, t⟩ := ins
        simp only at hq1 hq2 hlk hop htg hgo
        have hinf := fun W => info_any o hlk.1 W
        rw [hop] at hinf
        unfold rowVal rowCells at hinf
        have hK9 := kind_lt o
        generalize kindOf o = K at *
        generalize wordOf o = wd at *
        generalize widthOf o = wi at *
        generalize mostOf o = mo at *
        generalize takesOf o = ta at *
        generalize givesOf o = gi at *
        generalize (ofTo code code.length).getD k 0 = r at *
        have hki : (k : Int) < (n : Int) := by omega
        have hk0 : (0 : Int) ≤ (k : Int) := by omega
        have hwk : IntKind.u32.wrap (k : Int) = (k : Int) := u32_wrap k (by omega)
        have hwk1 : IntKind.u32.wrap ((k : Int) + 1) = (k : Int) + 1 := by have := u32_wrap (k + 1) (by omega); rwa [show ((k + 1 : Nat) : Int) = (k : Int) + 1 from by omega] at this
        have Htg := Lib.hid htg
        have Hgo := Lib.hid hgo
        have Hoi := Lib.hid hoi
        have Hinf := Lib.hid hinf
        have Hbw := Lib.hid hbw
        have Hlt2 := Lib.hid hlk.2
        clear e1 e2 hcc hop htg hgo hoi hinf hbw hlk
        go_wp2_with fail
        refine (Hinf.out _).mono ?_
        rintro e w4 ⟨rfl, hb4⟩
        obtain ⟨hcl, hfl⟩ := bcell hb4
        have hq1 := (hb4.cell (p := ⟨cb, coff + k * 2, none⟩) (World.block_lt_of_cell? _ _ hq1)).trans hq1
        have hq2 := (hb4.cell (p := ⟨cb, coff + k * 2 + 1, none⟩) (World.block_lt_of_cell? _ _ hq2)).trans hq2
        have hr0 := (hb4.cell (p := ⟨w.heap.size, 0, none⟩) (World.block_lt_of_cell? _ _ hr0)).trans hr0
        have Hb4 := Lib.hid (Bel.tr Hbw.out hb4)
        have hl4 : w.heap.size < w4.heap.size := World.block_lt_of_cell? _ _ hr0
        have hcb4 : cb < w4.heap.size := World.block_lt_of_cell? _ _ hq1
        have hz := zero26
        unfold zeroRow at hz
        have Ht := Lib.hid (fun (hK : K = 3 ∨ K = 2) W (hb : Below w2.heap.size w2 W) => (show Calls Try.prog 9 #[.pointer (some ⟨b, 0, none⟩), .int .u32 t] W fun e w' => e = .returned (.int .i64 r) ∧ W = w' from by
          have := Hof.out t (Htg.out hK).1 W hb
          rwa [(Htg.out hK).2.1] at this))
        have Hbt := Lib.hid (fun (hK : K = 3 ∨ K = 2) W (hb : Below w2.heap.size w2 W) => (show Calls Try.prog 10 #[.pointer (some ⟨b, 0, none⟩), .int .u32 t] W fun e w' => e = .returned (.bool false) ∧ Below W.heap.size W w' from by
          have := Hbg.out t Hlt2.out W hb
          rwa [(Htg.out hK).2.2] at this))
        have Hn1 := Lib.hid (fun (hK : K ≠ 3 ∧ K ≠ 4 ∧ K ≠ 7 ∧ K ≠ 8) W (hb : Below w2.heap.size w2 W) => (show Calls Try.prog 9 #[.pointer (some ⟨b, 0, none⟩), .int .u32 ((k : Int) + 1)] W fun e w' => e = .returned (.int .i64 r) ∧ W = w' from by
          have := Hof.out (k + 1) (Hgo.out hK).1 W hb
          rwa [(Hgo.out hK).2, show ((k + 1 : Nat) : Int) = (k : Int) + 1 from by omega] at this))
        clear hcl hfl hb4 Hinf Htg Hgo
        have hK : K = 0 ∨ K = 1 ∨ K = 2 ∨ K = 3 ∨ K = 4 ∨ K = 5 ∨ K = 6 ∨ K = 7 ∨ K = 8 := by omega
        clear hK9
        rcases hK with rfl | rfl | rfl | rfl | rfl | rfl | rfl | rfl | rfl
        all_goals
          go_wp2_with (first
            | (go_at_call 9; with_reducible refine (Ht.out (by decide) _ ?_).mono ?_; exact Bel.al Hb4.out _; rintro e w5 ⟨rfl, rfl⟩)
            | (go_at_call 9; with_reducible refine (Hn1.out (by decide) _ ?_).mono ?_; (first | exact Bel.al Hb4.out _ | exact Bel.tr (Bel.al Hb4.out _) hb6); rintro e w5 ⟨rfl, rfl⟩)
            | (go_at_call 9; with_reducible refine (Hoi.out _ ?_).mono ?_; (first | exact Bel.al Hb4.out _ | exact Bel.tr (Bel.al Hb4.out _) hb6); rintro e w5 ⟨rfl, rfl⟩)
            | (go_at_call 10; with_reducible refine (Hbt.out (by decide) _ ?_).mono ?_; exact Bel.al Hb4.out _; rintro e w6 ⟨rfl, hb6⟩; have q9 := (hb6.cell (p := ⟨w4.heap.size, 5, none⟩) (by simp)).trans (cell_new5 w4 _ _ _ _ _ _ _)))
          go_roundw
          case rel => exact ⟨k + 1, by omega, by go_num, by first | exact Bel.al Hb4.out _ | exact Bel.tr (Bel.al Hb4.out _) hb6⟩
          case measure => simp [intOf]; omega
      · obtain rfl : k = n := by omega
        have hol := Hok.out.tl.ol
        have hlg := Hlg.out x y hx wr hbw
        have hlv : (decide (x < (ofTo code code.length).length) && decide (y ∈ (aimTo (ofTo code code.length) js (psTo code code.length).length js.length).getD ((ofTo code code.length).getD x 0) [])) = true → x < code.length ∧ y < code.length ∧ (ofTo code code.length).getD y 0 = (ofTo code code.length).getD x 0 ∧ beginsN (psTo code code.length) (ofTo code code.length) y = false := by
          intro h
          rw [Bool.and_eq_true, decide_eq_true_eq, decide_eq_true_eq] at h
          exact ⟨by rw [← hol]; exact h.1, Hok.out.legal h.2⟩
        generalize (decide (x < (ofTo code code.length).length) && decide (y ∈ (aimTo (ofTo code code.length) js (psTo code code.length).length js.length).getD ((ofTo code code.length).getD x 0) [])) = lv at *
        obtain ⟨r, hr⟩ : ∃ r, r = (ofTo code code.length).getD x 0 := ⟨_, rfl⟩
        rw [← hr] at hlv
        have Hx := Lib.hid (fun (h : lv = true) W (hb : Below w2.heap.size w2 W) => (show Calls Try.prog 9 #[.pointer (some ⟨b, 0, none⟩), .int .u32 x] W fun e w' => e = .returned (.int .i64 r) ∧ W = w' from by
          have := Hof.out x (hlv h).1 W hb
          rwa [← hr] at this))
        have Hy := Lib.hid (fun (h : lv = true) W (hb : Below w2.heap.size w2 W) => (show Calls Try.prog 9 #[.pointer (some ⟨b, 0, none⟩), .int .u32 y] W fun e w' => e = .returned (.int .i64 r) ∧ W = w' from by
          have := Hof.out y (hlv h).2.1 W hb
          rwa [(hlv h).2.2.1] at this))
        have Hby := Lib.hid (fun (h : lv = true) W (hb : Below w2.heap.size w2 W) => (show Calls Try.prog 10 #[.pointer (some ⟨b, 0, none⟩), .int .u32 y] W fun e w' => e = .returned (.bool false) ∧ Below W.heap.size W w' from by
          have := Hbg.out y hy W hb
          rwa [(hlv h).2.2.2] at this))
        have Hl := Lib.hid hlg
        have Hbw := Lib.hid hbw
        have hr0 : (0 : Int) ≤ (r : Int) := by omega
        have hr1 : ¬ (r : Int) < 0 := by omega
        clear hlg hlv hr hbw hol hlt'
        obtain ⟨aj, capj, hvj, hjc, hjm, hj32, hjp⟩ := HC2.out.hj
        subst hvj
        have hjm2 : js.length ≤ 9223372036854775807 := by unfold maxLen at hjm; omega
        have Hjp := Lib.hid hjp
        have Hj32 := Lib.hid hj32
        clear hjp hj32
        obtain ⟨m, hmm⟩ : ∃ m, m = js.length := ⟨_, rfl⟩
        have HM := Lib.hid hmm
        rw [← hmm] at hjc hjm2 ⊢
        have hc1 := HC2.out.c1
        rw [← hmm] at hc1
        clear hmm
        cases lv
        all_goals
          go_wp2_with (first
            | (go_at_call 12; with_reducible refine Hl.out.mono ?_; rintro e w5 ⟨rfl, rfl⟩)
            | (go_at_call 9; with_reducible refine (Hx.out (by trivial) _ ?_).mono ?_; exact Hbw.out; rintro e w5 ⟨rfl, rfl⟩)
            | (go_at_call 9; with_reducible refine (Hy.out (by trivial) _ ?_).mono ?_; exact Hbw.out; rintro e w5 ⟨rfl, rfl⟩)
            | (go_at_call 10; with_reducible refine (Hby.out (by trivial) _ ?_).mono ?_; exact Hbw.out; rintro e w6 ⟨rfl, hb6⟩))
          all_goals
            first
              | (have Hb9 := Lib.hid (Bel.tr Hbw.out hb6); clear hb6)
              | have Hb9 := Lib.hid Hbw.out
            clear Hx Hy Hby Hl
            go_loopw [15] (fun i wr => ∃ (q : Nat), q ≤ m ∧ i = .int .i64 q ∧ Below w2.heap.size w2 wr) (fun i _ => m - (intOf i).toNat)
            case atStart => exact ⟨0, by omega, rfl, Hb9.out⟩
            case round =>
              obtain ⟨q, hq, rfl, hbq⟩ := hrel
              have hq1 := (HC2.out.calm hbq).c1
              rw [← HM.out] at hq1
              by_cases hlt' : q < m
              · obtain ⟨jb, joff, rfl, hjb, hjc⟩ := Hjp.out (by rw [← HM.out]; omega)
                have hjq := (hbq.cell (p := ⟨jb, joff + q, none⟩) hjb).trans (hjc q (by rw [← HM.out]; exact hlt'))
                obtain ⟨h1, h2, h3⟩ := Hok.out.jumps q (by rw [← HM.out]; exact hlt')
                have h32 := Hj32.out q
                have hol := Hok.out.tl.ol
                have hl := Hlg.out (js.getD q 0) (js.getD q 0) h32 wr hbq
                rw [decide_eq_true (by rw [hol]; exact h1), decide_eq_true h2, Bool.and_true] at hl
                have hbg := fun W hb => Hbg.out (js.getD q 0) h32 W hb
                have hof := fun W hb => Hof.out (js.getD q 0) h1 W hb
                rw [h3] at hbg
                generalize (ofTo code code.length).getD (js.getD q 0) 0 = r at *
                have Hl := Lib.hid hl
                have Hbj := Lib.hid hbg
                have Hoj := Lib.hid hof
                have Hbq := Lib.hid hbq
                have hqi : (q : Int) < (m : Int) := by omega
                have hq0 : (0 : Int) ≤ (q : Int) := by omega
                have hr1 : ¬ (r : Int) < 0 := by omega
                clear hl hbg hof hbq h1 h2 h3 hol hjc
                generalize js.getD q 0 = j at *
                go_wp2_with (first
                  | (go_at_call 12; with_reducible refine Hl.out.mono ?_; rintro e w5 ⟨rfl, hw5⟩; subst hw5)
                  | (go_at_call 10; with_reducible refine (Hbj.out _ ?_).mono ?_; exact Hbq.out; rintro e w6 ⟨rfl, hb6⟩)
                  | (go_at_call 9; with_reducible refine (Hoj.out _ ?_).mono ?_; exact Bel.tr Hbq.out hb6; rintro e w7 ⟨rfl, rfl⟩))
                go_roundw
                case rel => exact ⟨q + 1, by omega, by go_num, Bel.tr Hbq.out hb6⟩
                case measure => simp [intOf]; omega
              · have hqi : ¬ (q : Int) < (m : Int) := by omega
                have HX := Lib.hid (HC2.out.b.trans (hbq.mono HC2.out.b.size))
                clear hbq
                go_wp2
                go_ret
                exact ⟨rfl, HX.out⟩
end Go.Proofs.Ytofkamnmgpkehaa
