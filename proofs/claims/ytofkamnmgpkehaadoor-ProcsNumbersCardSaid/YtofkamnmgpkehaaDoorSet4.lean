import Derived.Test.YtofkamnmgpkehaaDoorSet3
/- All and Same of sets of words. -/
namespace Go.Proofs.YtofkamnmgpkehaaDoor
open Go.RowKit
attribute [local go_sem] Oper.semAt_some
set_option maxRecDepth 100000 in
set_option maxHeartbeats 1000000 in
theorem allw_any {W : World} {B b : Nat} {vw : Value} {N : Nat} {ws : List Nat} (h : SetAt W B b vw N ws) :
    Calls Tryd.prog 35 #[.pointer (some ⟨b, 0, none⟩)] W fun e w' => e = .returned (.func (.func 49) #[] #[.pointer (some ⟨W.heap.size, 0, none⟩)]) ∧ ∃ v, w'.cell? ⟨W.heap.size, 0, none⟩ = some v ∧ w'.ownsRow 0 78 1 v ws.length (encN .u64 ws) ∧ Below W.heap.size W w' := by
  have hn := h.hn
  have hN := h.hN
  have hl16 : ws.length ≤ 16384 := by omega
  have hnew := Bel.new W (.cells #[.slice none 0 0] 65)
  have hc1 := (hnew.cell (p := ⟨b, 1, none⟩) (World.block_lt_of_cell? _ _ h.c1)).trans h.c1
  have Hc := Lib.hid (clone64_any vw ws hl16 _ (Reads.own (own_below h.ow hnew) Nat.one_pos))
  have Hn := Lib.hid hnew
  have hcn : (W.alloc (.cells #[.slice none 0 0] 65)).cell? ⟨W.heap.size, 0, none⟩ = some (.slice none 0 0) := by simp [go_sem]
  have hfn : (W.alloc (.cells #[.slice none 0 0] 65)).frozen? ⟨W.heap.size, 0, none⟩ = false := by simp [go_sem]
  clear h hn hN hnew
  go_enter Tryd.func35, Tryd.ntmps35
  go_wp2_with fail
  refine Hc.out.mono ?_
  rintro e w1 ⟨v, rfl, ho, hb⟩
  have hlt : W.heap.size < (W.alloc (.cells #[.slice none 0 0] 65)).heap.size := by simp
  have hc2 := (hb.cell (p := ⟨W.heap.size, 0, none⟩) hlt).trans hcn
  have hf2 := (hb.frozen (p := ⟨W.heap.size, 0, none⟩) hlt).trans hfn
  obtain ⟨va, vc, hve, -, -, -⟩ := own_sl ho
  subst hve
  have Ho := Lib.hid ho
  have Hb := Lib.hid (Bel.tr Hn.out hb)
  clear ho hb Hc
  go_wp2
  go_ret
  refine ⟨rfl, _, World.cell?_setCell_same' _ _ _ (by rw [hc2]; rfl), ownsRow_setCell_other (own_base Ho.out) (fun e => by have := (Ho.out.lt _ e).1; simp at this; omega) _, Hb.out.setCell (p := ⟨W.heap.size, 0, none⟩) (Nat.le_refl _) _⟩
def KnW (bx : Nat) (v : Value) (ws : List Nat) (A : World) : Prop := A.cell? ⟨bx, 0, none⟩ = some v ∧ A.ownsRow 0 78 1 v ws.length (encN .u64 ws) ∧ TabAt A
def encW1 (x : Nat) : Array Value := #[.int .u32 (x : Nat)]
set_option maxRecDepth 100000 in
set_option maxHeartbeats 4000000 in
theorem allw_seq (n : Nat) (hn : 3 ≤ n) (bx : Nat) (v : Value) (ws : List Nat) (hl : ∀ k, ws.getD k 0 < 18446744073709551616) (h16 : ws.length ≤ 16384) :
    SeqTo Tryd.prog n 49 #[.pointer (some ⟨bx, 0, none⟩)] encW1 (eW 0 ws) (KnW bx v ws) (fun A C => C = A) := by
  intro l J Jx W hst hk hY h0
  have h1 : 1 ≤ n := by omega
  obtain ⟨hbx, hrow, -⟩ := hk _ _ h0
  obtain ⟨av, cv, rfl, hnc, hcm, hp⟩ := own_sl hrow
  clear hrow hp
  refine callsIn_of_wp Tryd.func49 rfl trivial ?_ rfl
  simp only [Tryd.ntmps49, List.size_toArray, List.length_cons, List.length_nil, Nat.reduceAdd, Nat.reduceSub, Array.replicate_succ, Array.replicate_zero, List.push_toArray, List.append_toArray, List.nil_append, List.cons_append]
  gi_wp2
  obtain ⟨m, hmm⟩ : ∃ m, m = ws.length := ⟨_, rfl⟩
  have HM := Lib.hid hmm
  rw [← hmm] at hnc h16 ⊢
  clear hmm hbx
  gi_loopw [7] (fun i wr => ∃ (k : Nat) (d : List Nat), k ≤ m ∧ i = .int .i64 k ∧ eW 0 ws = d ++ eW k (ws.drop k) ∧ J d wr) (fun i _ => m - (intOf i).toNat)
  case atStart => exact ⟨0, [], by omega, rfl, rfl, h0⟩
  case round =>
    obtain ⟨k, d, hkm, rfl, hE, hj⟩ := hrel
    by_cases hlt : k < m
    · obtain ⟨hbx, hrow, -⟩ := hk _ _ hj
      have hkl : k < ws.length := by rw [← HM.out]; exact hlt
      obtain ⟨q, cq, hvq, -, -⟩ := own_start hrow (by omega)
      cases hvq
      have hcq : wr.cell? ⟨q, k, none⟩ = some (.int .u64 (ws.getD k 0 : Nat)) := by rw [hrow.cellAt k (by omega)]; exact encN_at _ _ _ hkl
      have hsp : eW k (ws.drop k) = (bl (ws.getD k 0)).map (64 * k + ·) ++ eW (k + 1) (ws.drop (k + 1)) := by
        rw [List.drop_eq_getElem_cons hkl, List.getD_eq_getElem?_getD, List.getElem?_eq_getElem hkl]; rfl
      rw [hsp] at hE
      have hwl := hl k
      have HE := Lib.hid hE
      have Hj := Lib.hid hj
      have hki : (k : Int) < (m : Int) := by omega
      have hk0 : (0 : Int) ≤ (k : Int) := by omega
      clear hE hj hrow hbx hsp hkl
      generalize ws.getD k 0 = w0 at *
      gi_wp2
      gi_loopw [4] (fun i wr => ∃ (wv : Nat) (d : List Nat), i = .int .u64 wv ∧ wv < 18446744073709551616 ∧ eW 0 ws = d ++ ((bl wv).map (64 * k + ·) ++ eW (k + 1) (ws.drop (k + 1))) ∧ J d wr) (fun i _ => (intOf i).toNat)
      case atStart => exact ⟨w0, d, rfl, hwl, HE.out, Hj.out⟩
      case round =>
        clear HE Hj hcq
        obtain ⟨wv, d, rfl, hwv, hE, hj⟩ := hrel
        by_cases hz : wv = 0
        · subst hz
          rw [bl_zero] at hE
          have HE := Lib.hid hE
          have Hj := Lib.hid hj
          clear hE hj
          gi_wp2
          go_roundw
          case rel => exact ⟨k + 1, d, by omega, by go_num, HE.out, Hj.out⟩
          case measure => simp [intOf]; omega
        · obtain ⟨hs, hc, hlt2⟩ := bl_step wv hz hwv
          rw [hs] at hE
          have hne : ((wv : Int) != 0) = true := by simp; omega
          have hbit2 : bits .and .u64 (wv : Int) ((wv : Int) - 1) = ((wv &&& (wv - 1) : Nat) : Int) := by
            rw [show ((wv : Int) - 1) = ((wv - 1 : Nat) : Int) from by omega]
            exact and_u64 _ _ hwv (by omega)
          have hct := ctz_any wv hwv hz wr (hk _ _ hj).2.2
          have hyy := hY d (64 * k + Lib.ctz 64 wv) _ wr hE hj
          have hE2 : eW 0 ws = (d ++ [64 * k + Lib.ctz 64 wv]) ++ ((bl (wv &&& (wv - 1))).map (64 * k + ·) ++ eW (k + 1) (ws.drop (k + 1))) := by rw [hE]; simp
          have HE2 := Lib.hid hE2
          have Hct := Lib.hid hct
          have hw2 : wv &&& (wv - 1) < 18446744073709551616 := by omega
          generalize wv &&& (wv - 1) = w2 at *
          generalize Lib.ctz 64 wv = c at *
          simp only [encW1] at hyy
          rw [show ((64 * k + c : Nat) : Int) = 64 * (k : Int) + (c : Int) from by omega] at hyy
          obtain ⟨fn, tmps, assign, body, hy, hR⟩ := hyy
          clear hE hj hs hE2 hct
          gi_wp2_with (refine ⟨trivial, ?_⟩; gi_at_call 48; refine (callsIn_wide.2 Hct.out).mono ?_; rintro e w5 ⟨rfl, hw5⟩; subst hw5)
          refine hR.mono ?_
          rintro e W3 (⟨rfl, hJ3⟩ | ⟨rfl, hJx3⟩)
          · gi_wp2
            go_roundw
            case rel => exact ⟨w2, _, rfl, hw2, HE2.out, hJ3⟩
            case measure => simp [intOf]; omega
          · gi_wp2
            refine bodyPost_ret (results_none rfl _ _ _) rfl ?_
            exact ⟨⟨_, rfl⟩, .inr hJx3⟩
    · obtain rfl : k = m := by omega
      rw [List.drop_of_length_le (by rw [← HM.out]; exact Nat.le_refl _)] at hE
      simp only [eW, List.append_nil] at hE
      subst hE
      gi_wp2
      go_end0
      exact ⟨⟨_, rfl⟩, .inl ⟨wr, hj, rfl⟩⟩
end Go.Proofs.YtofkamnmgpkehaaDoor
