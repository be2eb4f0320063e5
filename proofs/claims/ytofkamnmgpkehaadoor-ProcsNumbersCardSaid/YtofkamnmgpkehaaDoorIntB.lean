import Derived.Test.YtofkamnmgpkehaaDoorIntA
/- Sets of ints: All, Same. -/
namespace Go.Proofs.YtofkamnmgpkehaaDoor.I
open Go.RowKit
attribute [local go_sem] Oper.semAt_some
set_option maxRecDepth 100000 in
set_option maxHeartbeats 1000000 in
theorem allw_any {W : World} {B b : Nat} {vw : Value} {N : Nat} {ws : List Nat} (h : SetAt W B b vw N ws) :
    Calls Tryd.prog 34 #[.pointer (some ⟨b, 0, none⟩)] W fun e w' => e = .returned (.func (.func 47) #[] #[.pointer (some ⟨W.heap.size, 0, none⟩)]) ∧ ∃ v, w'.cell? ⟨W.heap.size, 0, none⟩ = some v ∧ w'.ownsRow 0 78 1 v ws.length (encN .u64 ws) ∧ Below W.heap.size W w' := by
  have hn := h.hn
  have hN := h.hN
  have hl16 : ws.length ≤ 16384 := by omega
  have hnew := Bel.new W (.cells #[.slice none 0 0] 65)
  have hc1 := (hnew.cell (p := ⟨b, 1, none⟩) (World.block_lt_of_cell? _ _ h.c1)).trans h.c1
  have Hc := Lib.hid (clone64_any vw ws hl16 _ (Reads.own (own_below h.ow hnew) Nat.one_pos))
  have Hn := Lib.hid hnew
  have hcn : (W.alloc (.cells #[.slice none 0 0] 65)).cell? ⟨W.heap.size, 0, none⟩ = some (.slice none 0 0) := by simp [go_sem]
  have hfn : (W.alloc (.cells #[.slice none 0 0] 65)).frozen? ⟨W.heap.size, 0, none⟩ = false := by simp [go_sem]
  clear h hn hN hnew
  go_enter Tryd.func34, Tryd.ntmps34
  go_wp2_with fail
  refine Hc.out.mono ?_
  rintro e w1 ⟨v, rfl, ho, hb⟩
  have hlt : W.heap.size < (W.alloc (.cells #[.slice none 0 0] 65)).heap.size := by simp
  have hc2 := (hb.cell (p := ⟨W.heap.size, 0, none⟩) hlt).trans hcn
  have hf2 := (hb.frozen (p := ⟨W.heap.size, 0, none⟩) hlt).trans hfn
  obtain ⟨va, vc, hve, -, -, -⟩ := own_sl ho
  subst hve
  have Ho := Lib.hid ho
  have Hb := Lib.hid (Bel.tr Hn.out hb)
  clear ho hb Hc
  go_wp2
  go_ret
  refine ⟨rfl, _, World.cell?_setCell_same' _ _ _ (by rw [hc2]; rfl), ownsRow_setCell_other (own_base Ho.out) (fun e => by have := (Ho.out.lt _ e).1; simp at this; omega) _, Hb.out.setCell (p := ⟨W.heap.size, 0, none⟩) (Nat.le_refl _) _⟩
def encW1 (x : Nat) : Array Value := #[.int .i64 (x : Nat)]
set_option maxRecDepth 100000 in
set_option maxHeartbeats 4000000 in
theorem allw_seq (n : Nat) (hn : 3 ≤ n) (bx : Nat) (v : Value) (ws : List Nat) (hl : ∀ k, ws.getD k 0 < 18446744073709551616) (h16 : ws.length ≤ 16384) :
    SeqTo Tryd.prog n 47 #[.pointer (some ⟨bx, 0, none⟩)] encW1 (eW 0 ws) (KnW bx v ws) (fun A C => C = A) := by
  intro l J Jx W hst hk hY h0
  have h1 : 1 ≤ n := by omega
  obtain ⟨hbx, hrow, -⟩ := hk _ _ h0
  obtain ⟨av, cv, rfl, hnc, hcm, hp⟩ := own_sl hrow
  clear hrow hp
  refine callsIn_of_wp Tryd.func47 rfl trivial ?_ rfl
  simp only [Tryd.ntmps47, List.size_toArray, List.length_cons, List.length_nil, Nat.reduceAdd, Nat.reduceSub, Array.replicate_succ, Array.replicate_zero, List.push_toArray, List.append_toArray, List.nil_append, List.cons_append]
  gi_wp2
  obtain ⟨m, hmm⟩ : ∃ m, m = ws.length := ⟨_, rfl⟩
  have HM := Lib.hid hmm
  rw [← hmm] at hnc h16 ⊢
  clear hmm hbx
  gi_loopw [7] (fun i wr => ∃ (k : Nat) (d : List Nat), k ≤ m ∧ i = .int .i64 k ∧ eW 0 ws = d ++ eW k (ws.drop k) ∧ J d wr) (fun i _ => m - (intOf i).toNat)
  case atStart => exact ⟨0, [], by omega, rfl, rfl, h0⟩
  case round =>
    obtain ⟨k, d, hkm, rfl, hE, hj⟩ := hrel
    by_cases hlt : k < m
    · obtain ⟨hbx, hrow, -⟩ := hk _ _ hj
      have hkl : k < ws.length := by rw [← HM.out]; exact hlt
      obtain ⟨q, cq, hvq, -, -⟩ := own_start hrow (by omega)
      cases hvq
      have hcq : wr.cell? ⟨q, k, none⟩ = some (.int .u64 (ws.getD k 0 : Nat)) := by rw [hrow.cellAt k (by omega)]; exact encN_at _ _ _ hkl
      have hsp : eW k (ws.drop k) = (bl (ws.getD k 0)).map (64 * k + ·) ++ eW (k + 1) (ws.drop (k + 1)) := by
        rw [List.drop_eq_getElem_cons hkl, List.getD_eq_getElem?_getD, List.getElem?_eq_getElem hkl]; rfl
      rw [hsp] at hE
      have hwl := hl k
      have HE := Lib.hid hE
      have Hj := Lib.hid hj
      have hki : (k : Int) < (m : Int) := by omega
      have hk0 : (0 : Int) ≤ (k : Int) := by omega
      clear hE hj hrow hbx hsp hkl
      generalize ws.getD k 0 = w0 at *
      gi_wp2
      gi_loopw [4] (fun i wr => ∃ (wv : Nat) (d : List Nat), i = .int .u64 wv ∧ wv < 18446744073709551616 ∧ eW 0 ws = d ++ ((bl wv).map (64 * k + ·) ++ eW (k + 1) (ws.drop (k + 1))) ∧ J d wr) (fun i _ => (intOf i).toNat)
      case atStart => exact ⟨w0, d, rfl, hwl, HE.out, Hj.out⟩
      case round =>
        clear HE Hj hcq
        obtain ⟨wv, d, rfl, hwv, hE, hj⟩ := hrel
        by_cases hz : wv = 0
        · subst hz
          rw [bl_zero] at hE
          have HE := Lib.hid hE
          have Hj := Lib.hid hj
          clear hE hj
          gi_wp2
          go_roundw
          case rel => exact ⟨k + 1, d, by omega, by go_num, HE.out, Hj.out⟩
          case measure => simp [intOf]; omega
        · obtain ⟨hs, hc, hlt2⟩ := bl_step wv hz hwv
          rw [hs] at hE
          have hne : ((wv : Int) != 0) = true := by simp; omega
          have hbit2 : bits .and .u64 (wv : Int) ((wv : Int) - 1) = ((wv &&& (wv - 1) : Nat) : Int) := by
            rw [show ((wv : Int) - 1) = ((wv - 1 : Nat) : Int) from by omega]
            exact and_u64 _ _ hwv (by omega)
          have hct := ctz_any wv hwv hz wr (hk _ _ hj).2.2
          have hyy := hY d (64 * k + Lib.ctz 64 wv) _ wr hE hj
          have hE2 : eW 0 ws = (d ++ [64 * k + Lib.ctz 64 wv]) ++ ((bl (wv &&& (wv - 1))).map (64 * k + ·) ++ eW (k + 1) (ws.drop (k + 1))) := by rw [hE]; simp
          have HE2 := Lib.hid hE2
          have Hct := Lib.hid hct
          have hw2 : wv &&& (wv - 1) < 18446744073709551616 := by omega
          generalize wv &&& (wv - 1) = w2 at *
          generalize Lib.ctz 64 wv = c at *
          simp only [encW1] at hyy
          rw [show ((64 * k + c : Nat) : Int) = 64 * (k : Int) + (c : Int) from by omega] at hyy
          obtain ⟨fn, tmps, assign, body, hy, hR⟩ := hyy
          clear hE hj hs hE2 hct
          gi_wp2_with (refine ⟨trivial, ?_⟩; gi_at_call 48; refine (callsIn_wide.2 Hct.out).mono ?_; rintro e w5 ⟨rfl, hw5⟩; subst hw5)
          refine hR.mono ?_
          rintro e W3 (⟨rfl, hJ3⟩ | ⟨rfl, hJx3⟩)
          · gi_wp2
            go_roundw
            case rel => exact ⟨w2, _, rfl, hw2, HE2.out, hJ3⟩
            case measure => simp [intOf]; omega
          · gi_wp2
            refine bodyPost_ret (results_none rfl _ _ _) rfl ?_
            exact ⟨⟨_, rfl⟩, .inr hJx3⟩
    · obtain rfl : k = m := by omega
      rw [List.drop_of_length_le (by rw [← HM.out]; exact Nat.le_refl _)] at hE
      simp only [eW, List.append_nil] at hE
      subst hE
      gi_wp2
      go_end0
      exact ⟨⟨_, rfl⟩, .inl ⟨wr, hj, rfl⟩⟩
set_option maxRecDepth 100000 in
set_option maxHeartbeats 1000000 in
/-- One of the two has a number. -/
theorem same_noW {w : World} {a b : Option Addr} {m n : Nat} (hmn : m ≠ n) (hA : ∀ W, Below w.heap.size w W → Calls Tryd.prog 33 #[.pointer a] W fun e w' => e = .returned (.int .i64 m) ∧ w' = W) (hB : ∀ W, Below w.heap.size w W → Calls Tryd.prog 33 #[.pointer b] W fun e w' => e = .returned (.int .i64 n) ∧ w' = W) :
    Calls Tryd.prog 17 #[.pointer a, .pointer b] w fun e w' => e = .returned (.bool false) ∧ Below w.heap.size w w' := by
  have HA := Lib.hid hA
  have HB := Lib.hid hB
  have hd : ((m : Int) != (n : Int)) = true := by simp; omega
  clear hA hB hmn
  refine (callsIn_wide (n := 9)).1 ?_
  have h1 : (1 : Nat) ≤ 9 := by omega
  refine callsIn_of_wp_marks Tryd.func17 rfl trivial ?_ rfl
  simp only [Tryd.ntmps17, List.size_toArray, List.length_cons, List.length_nil, Nat.reduceAdd, Nat.reduceSub, Array.replicate_succ, Array.replicate_zero, List.push_toArray, List.append_toArray, List.nil_append, List.cons_append]
  gi_wp2
  have hc3 : ((w.alloc (.cells #[.pointer b] 39)).alloc (.cells #[.bool false] 4)).cell? ⟨w.heap.size, 0, none⟩ = some (.pointer b) := by simp [go_sem]
  have hc4 : ((w.alloc (.cells #[.pointer b] 39)).alloc (.cells #[.bool false] 4)).cell? ⟨w.heap.size + 1, 0, none⟩ = some (.bool false) := by simp [go_sem]
  have hf4 : ((w.alloc (.cells #[.pointer b] 39)).alloc (.cells #[.bool false] 4)).frozen? ⟨w.heap.size + 1, 0, none⟩ = false := by simp [go_sem]
  have Hb2 := Lib.hid (Bel.al (Bel.new w (.cells #[.pointer b] 39)) (.cells #[.bool false] 4))
  generalize (w.alloc (.cells #[.pointer b] 39)).alloc (.cells #[.bool false] 4) = w2 at *
  refine wpIn_wide.2 ?_
  go_quiet (first
    | (go_at_call 33; with_reducible refine Calls.quiet_of_same (HA.out _ ?_); exact below_drewN Hb2.out _)
    | (go_at_call 33; with_reducible refine Calls.quiet_of_same (HB.out _ ?_); exact below_drewN Hb2.out _))
  have hr : ((w2.drewN nq).setCell ⟨w.heap.size + 1, 0, none⟩ (.bool false)).cell? ⟨w.heap.size + 1, 0, none⟩ = some (.bool false) := World.cell?_setCell_same' _ _ _ (by show (w2.cell? _).isSome = true; rw [hc4]; rfl)
  gi_wp2
  refine ⟨.bool false, by simp [results, Tryd.results17, go_sem, hr], rfl, ?_⟩
  exact (below_drewN Hb2.out _).setCell (p := ⟨w.heap.size + 1, 0, none⟩) (by show w.heap.size ≤ w.heap.size + 1; omega) _
set_option maxRecDepth 100000 in
set_option maxHeartbeats 1000000 in
theorem same_allW {w : World} {B1 b1 B2 b2 N1 N2 : Nat} {va vb : Value} {w1 w2 : List Nat} (hA : SetAt w B1 b1 va N1 w1) (hB : SetAt w B2 b2 vb N2 w2) (hT : TabAt w)
    (hs : (w1.map pop).sum = (w2.map pop).sum) (d : Bool) (hd : d = (eW 0 w1).all (fun x => decide (x < N2) && mem w2 x)) (h32 : ∀ x ∈ eW 0 w1, x < 9223372036854775808) :
    Calls Tryd.prog 17 #[.pointer (some ⟨b1, 0, none⟩), .pointer (some ⟨b2, 0, none⟩)] w fun e w' => e = .returned (.bool d) ∧ Below w.heap.size w w' := by
  have hlB := len_any hB
  have HA := Lib.hid (fun W (hb : Below w.heap.size w W) => len_any (hA.below hb))
  have HB := Lib.hid (fun W (hb : Below w.heap.size w W) => (show Calls Tryd.prog 33 #[.pointer (some ⟨b2, 0, none⟩)] W fun e w' => e = .returned (.int .i64 ((w1.map pop).sum : Nat)) ∧ w' = W from by rw [hs]; exact len_any (hB.below hb)))
  have HAll := Lib.hid (fun W (hb : Below w.heap.size w W) => allw_any (hA.below hb))
  have HS := Lib.hid (fun W (hb : Below w.heap.size w W) => hB.below hb)
  have HT := Lib.hid (fun W (hb : Below w.heap.size w W) => hT.below hb)
  have Hl := Lib.hid hA.hl
  have h16 : w1.length ≤ 16384 := by have := hA.hn; have := hA.hN; omega
  have HD := Lib.hid hd
  have H32 := Lib.hid h32
  clear hA hB hT hs hd h32 hlB
  generalize (w1.map pop).sum = sm at *
  refine (callsIn_wide (n := 9)).1 ?_
  have h1 : (1 : Nat) ≤ 9 := by omega
  refine callsIn_of_wp_marks Tryd.func17 rfl trivial ?_ rfl
  simp only [Tryd.ntmps17, List.size_toArray, List.length_cons, List.length_nil, Nat.reduceAdd, Nat.reduceSub, Array.replicate_succ, Array.replicate_zero, List.push_toArray, List.append_toArray, List.nil_append, List.cons_append]
  gi_wp2
  have hc3 : ((w.alloc (.cells #[.pointer (some ⟨b2, 0, none⟩)] 39)).alloc (.cells #[.bool false] 4)).cell? ⟨w.heap.size, 0, none⟩ = some (.pointer (some ⟨b2, 0, none⟩)) := by simp [go_sem]
  have hc4 : ((w.alloc (.cells #[.pointer (some ⟨b2, 0, none⟩)] 39)).alloc (.cells #[.bool false] 4)).cell? ⟨w.heap.size + 1, 0, none⟩ = some (.bool false) := by simp [go_sem]
  have hf4 : ((w.alloc (.cells #[.pointer (some ⟨b2, 0, none⟩)] 39)).alloc (.cells #[.bool false] 4)).frozen? ⟨w.heap.size + 1, 0, none⟩ = false := by simp [go_sem]
  have Hb2 := Lib.hid (Bel.al (Bel.new w (.cells #[.pointer (some ⟨b2, 0, none⟩)] 39)) (.cells #[.bool false] 4))
  generalize (w.alloc (.cells #[.pointer (some ⟨b2, 0, none⟩)] 39)).alloc (.cells #[.bool false] 4) = wz at *
  refine wpIn_wide.2 ?_
  go_quiet (first
    | (go_at_call 33; with_reducible refine Calls.quiet_of_same (HA.out _ ?_); exact below_drewN Hb2.out _)
    | (go_at_call 33; with_reducible refine Calls.quiet_of_same (HB.out _ ?_); exact below_drewN Hb2.out _))
  gi_wp2_with (refine ⟨trivial, ?_⟩; gi_at_call 34; refine (callsIn_wide.2 (HAll.out _ (below_drewN Hb2.out _))).mono ?_; rintro e w3 ⟨rfl, v, hc, ho, hb⟩)
  have hb3 : Below w.heap.size w w3 := Bel.tr (below_drewN Hb2.out _) hb
  have hI0 : SamW w (wz.drewN nq).heap.size v w1 B2 b2 vb N2 w2 w3 := ⟨(hb.cell (p := ⟨w.heap.size + 1, 0, none⟩) (World.block_lt_of_cell? wz _ hc4)).trans hc4, (hb.frozen (p := ⟨w.heap.size + 1, 0, none⟩) (World.block_lt_of_cell? wz _ hc4)).trans hf4, (hb.cell (p := ⟨w.heap.size, 0, none⟩) (World.block_lt_of_cell? wz _ hc3)).trans hc3, ⟨hc, ho, HT.out _ hb3⟩, HS.out _ hb3, hb3⟩
  have hsz := hb3.size
  clear hc hb hc3 hc4 hf4 ho hb3
  refine range_to (gf := 47) (lb := #[.pointer (some ⟨(wz.drewN nq).heap.size, 0, none⟩)]) rfl (enters_of Tryd.func47 (by kernel_rfl) rfl) (encs := encW1) (fun _ => rfl) (eW 0 w1) _ _
    (allw_seq 8 (by omega) _ v w1 Hl.out h16) (fun A C h => by rw [h]; exact KeepsOthers.refl _)
    (fun pre A => SamW w (wz.drewN nq).heap.size v w1 B2 b2 vb N2 w2 A ∧ pre.all (fun x => decide (x < N2) && mem w2 x) = true) (fun c A => c = .ret ∧ A.cell? ⟨w.heap.size + 1, 0, none⟩ = some (.bool false) ∧ Below w.heap.size w A ∧ d = false)
    (fun d A C h k => ⟨h.1.calm hsz k, h.2⟩) (fun c A C h k => ⟨h.1, k.cell h.2.1, Calm.below h.2.2.1 ⟨k.os, k.tape, k.output, k.size, k.cells, fun i hi => k.block i (by omega)⟩, h.2.2.2⟩) (fun d A h => h.1.kn) ⟨hI0, rfl⟩ ?round ?done ?stop
  case round =>
    rintro l' pre x rest W hx ⟨hi, hpre⟩ hs3
    have hx32 := H32.out x (by rw [hx]; simp)
    have hdd := HD.out
    rw [hx, List.all_append, hpre, List.all_cons, Bool.true_and] at hdd
    simp only [encW1]
    gi_wp2
    refine ⟨KeepsOthers.refl _, fun W2 hs2 hc2 => ?_⟩
    have hi2 := hi.calm hsz hc2
    have hp2 := hi2.p
    have hc4 := hi2.c
    have hf4 := hi2.f
    have Hh := Lib.hid (has_any hi2.s x hx32)
    have HI := Lib.hid hi2
    have HP := Lib.hid hpre
    clear hi hi2 hc2 hx hpre
    by_cases hok : (decide (x < N2) && mem w2 x) = true
    · rw [hok] at Hh
      have HK := Lib.hid hok
      clear hdd hok
      gi_wp2_with fail
      refine ⟨trivial, (CallsIn.inRound l' (callsIn_wide.2 Hh.out)).mono ?_⟩
      rintro e w5 ⟨rfl, hw5⟩
      subst hw5
      gi_wp2
      exact ⟨KeepsOthers.refl _, HI.out, by rw [List.all_append, HP.out]; simp [HK.out]⟩
    · have hno := Bool.eq_false_iff.2 hok
      rw [hno] at Hh hdd
      have HDD := Lib.hid hdd
      clear hdd hok hno
      gi_wp2_with fail
      refine ⟨trivial, (CallsIn.inRound l' (callsIn_wide.2 Hh.out)).mono ?_⟩
      rintro e w5 ⟨rfl, hw5⟩
      subst hw5
      gi_wp2
      exact ⟨KeepsOthers.setCell _ _ _, rfl, World.cell?_setCell_same' _ _ _ (by rw [hc4]; rfl), HI.out.below.setCell (p := ⟨w.heap.size + 1, 0, none⟩) (by show w.heap.size ≤ w.heap.size + 1; omega) _, by rw [HDD.out]; rfl⟩
  case done =>
    rintro D W2 W3 W4 ⟨hi, hall⟩ rfl hc hD hd
    have HDT := Lib.hid (show d = true from HD.out.trans hall)
    clear hall
    rename_i K hK
    refine hK _ _ (wpIn_wide.2 ?_)
    have hi4 := hi.calm hsz hc
    have hc4 := hi4.c
    have hf4 := hi4.f
    have HB4 := Lib.hid hi4.below
    have hw4 : w.heap.size + 1 < W4.heap.size := World.block_lt_of_cell? _ _ hc4
    have hd4 : (W4.setCell ⟨w.heap.size + 1, 0, none⟩ (.bool true)).heap[D]? = some (.deferred (some [])) := by
      by_cases e : D = w.heap.size + 1
      · exfalso
        obtain ⟨o, ho, hcs⟩ := cells_of_cell hc4
        rw [← show D = (⟨w.heap.size + 1, 0, none⟩ : Addr).block from e, hd] at ho
        cases ho; cases hcs
      · rw [Below.heap_setCell _ _ _ _ e]; exact hd
    have hr : (W4.setCell ⟨w.heap.size + 1, 0, none⟩ (.bool true)).cell? ⟨w.heap.size + 1, 0, none⟩ = some (.bool true) := World.cell?_setCell_same' _ _ _ (by rw [hc4]; rfl)
    have Hd4 := Lib.hid hd4
    have Hr := Lib.hid hr
    clear hi hi4 hc hd hd4 hr hI0
    go_wp2
    refine ⟨by simp, .inl ⟨_, _, rfl, run_takeDeferred Hd4.out, ?_⟩⟩
    have hk' := Calm.putObj (B := w.heap.size) _ (.deferred none) Hd4.out rfl (by omega)
    have hr5 := hk'.cell Hr.out
    refine ⟨.bool true, by simp [results, Tryd.results17, go_sem, hr5], by rw [HDT.out], Calm.below (HB4.out.setCell (p := ⟨w.heap.size + 1, 0, none⟩) (by show w.heap.size ≤ w.heap.size + 1; omega) _) hk'⟩
  case stop =>
    rintro D c W4 ⟨rfl, hc4, hb4, hdf⟩ hD hd4
    have Hd4 := Lib.hid hd4
    have HB4 := Lib.hid hb4
    have HDF := Lib.hid hdf
    clear hd4 hI0 hb4 hdf
    gi_wp2
    refine ⟨by simp, .inl ⟨_, _, rfl, run_takeDeferred Hd4.out, ?_⟩⟩
    have hk' := Calm.putObj (B := w.heap.size) _ (.deferred none) Hd4.out rfl (by omega)
    have hr5 := hk'.cell hc4
    exact ⟨.bool false, by simp [results, Tryd.results17, go_sem, hr5], by rw [HDF.out], Calm.below HB4.out hk'⟩
/-- Same tells whether the lists are the same. -/
theorem same_any {W : World} {B1 b1 B2 b2 N1 N2 : Nat} {va vb : Value} {w1 w2 l m : List Nat} (hA : SetAt W B1 b1 va N1 w1) (hB : SetAt W B2 b2 vb N2 w2) (hT : TabAt W) (i1 : IsB N1 w1 l) (i2 : IsB N2 w2 m) :
    Calls Tryd.prog 17 #[.pointer (some ⟨b1, 0, none⟩), .pointer (some ⟨b2, 0, none⟩)] W fun e w' => e = .returned (.bool (decide (l = m))) ∧ Below W.heap.size W w' := by
  by_cases hlen : l.length = m.length
  · refine same_allW hA hB hT (by rw [i1.1.len, i2.1.len, hlen]) _ ?_ ?_
    · rw [← i1.1.eq]
      cases hall : l.all (fun x => decide (x < N2) && mem w2 x)
      · exact decide_eq_false (fun e => by
          subst e
          have : l.all (fun x => decide (x < N2) && mem w2 x) = true := List.all_eq_true.2 (fun x hx => by rw [decide_eq_true (i2.2 x hx), (i2.1.2 x).1 hx]; rfl)
          rw [this] at hall; cases hall)
      · refine decide_eq_true (up_sub_eq m l i1.1.1 i2.1.1 (fun x hx => ?_) hlen)
        have := List.all_eq_true.1 hall x hx
        rw [Bool.and_eq_true] at this
        exact (i2.1.2 x).2 this.2
    · rw [← i1.1.eq]; exact fun x hx => Nat.lt_trans ((is_le20 hA i1).2 x hx) (by decide)
  · rw [decide_eq_false (fun e => hlen (by rw [e]))]
    exact same_noW (by rw [i1.1.len, i2.1.len]; exact hlen) (fun w' hb => len_any (hA.below hb)) (fun w' hb => len_any (hB.below hb))
end Go.Proofs.YtofkamnmgpkehaaDoor.I
