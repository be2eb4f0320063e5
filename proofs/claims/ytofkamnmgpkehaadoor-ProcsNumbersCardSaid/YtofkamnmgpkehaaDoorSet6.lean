import Derived.Test.YtofkamnmgpkehaaDoorSet5
import Derived.Test.YtofkamnmgpkehaaDoorRise
/- Same of any two sets of words. -/
namespace Go.Proofs.YtofkamnmgpkehaaDoor
open Go.RowKit
attribute [local go_sem] Oper.semAt_some
set_option maxRecDepth 100000 in
set_option maxHeartbeats 1000000 in
theorem same_allW {w : World} {B1 b1 B2 b2 N1 N2 : Nat} {va vb : Value} {w1 w2 : List Nat} (hA : SetAt w B1 b1 va N1 w1) (hB : SetAt w B2 b2 vb N2 w2) (hT : TabAt w)
    (hs : (w1.map pop).sum = (w2.map pop).sum) (d : Bool) (hd : d = (eW 0 w1).all (fun x => decide (x < N2) && mem w2 x)) (h32 : ∀ x ∈ eW 0 w1, x < 4294967296) :
    Calls Tryd.prog 9 #[.pointer (some ⟨b1, 0, none⟩), .pointer (some ⟨b2, 0, none⟩)] w fun e w' => e = .returned (.bool d) ∧ Below w.heap.size w w' := by
  have hlB := len_any hB
  have HA := Lib.hid (fun W (hb : Below w.heap.size w W) => len_any (hA.below hb))
  have HB := Lib.hid (fun W (hb : Below w.heap.size w W) => (show Calls Tryd.prog 14 #[.pointer (some ⟨b2, 0, none⟩)] W fun e w' => e = .returned (.int .i64 ((w1.map pop).sum : Nat)) ∧ w' = W from by rw [hs]; exact len_any (hB.below hb)))
  have HAll := Lib.hid (fun W (hb : Below w.heap.size w W) => allw_any (hA.below hb))
  have HS := Lib.hid (fun W (hb : Below w.heap.size w W) => hB.below hb)
  have HT := Lib.hid (fun W (hb : Below w.heap.size w W) => hT.below hb)
  have Hl := Lib.hid hA.hl
  have h16 : w1.length ≤ 16384 := by have := hA.hn; have := hA.hN; omega
  have HD := Lib.hid hd
  have H32 := Lib.hid h32
  clear hA hB hT hs hd h32 hlB
  generalize (w1.map pop).sum = sm at *
  refine (callsIn_wide (n := 9)).1 ?_
  have h1 : (1 : Nat) ≤ 9 := by omega
  refine callsIn_of_wp_marks Tryd.func9 rfl trivial ?_ rfl
  simp only [Tryd.ntmps9, List.size_toArray, List.length_cons, List.length_nil, Nat.reduceAdd, Nat.reduceSub, Array.replicate_succ, Array.replicate_zero, List.push_toArray, List.append_toArray, List.nil_append, List.cons_append]
  gi_wp2
  have hc3 : ((w.alloc (.cells #[.pointer (some ⟨b2, 0, none⟩)] 23)).alloc (.cells #[.bool false] 4)).cell? ⟨w.heap.size, 0, none⟩ = some (.pointer (some ⟨b2, 0, none⟩)) := by simp [go_sem]
  have hc4 : ((w.alloc (.cells #[.pointer (some ⟨b2, 0, none⟩)] 23)).alloc (.cells #[.bool false] 4)).cell? ⟨w.heap.size + 1, 0, none⟩ = some (.bool false) := by simp [go_sem]
  have hf4 : ((w.alloc (.cells #[.pointer (some ⟨b2, 0, none⟩)] 23)).alloc (.cells #[.bool false] 4)).frozen? ⟨w.heap.size + 1, 0, none⟩ = false := by simp [go_sem]
  have Hb2 := Lib.hid (Bel.al (Bel.new w (.cells #[.pointer (some ⟨b2, 0, none⟩)] 23)) (.cells #[.bool false] 4))
  generalize (w.alloc (.cells #[.pointer (some ⟨b2, 0, none⟩)] 23)).alloc (.cells #[.bool false] 4) = wz at *
  refine wpIn_wide.2 ?_
  go_quiet (first
    | (go_at_call 14; with_reducible refine Calls.quiet_of_same (HA.out _ ?_); exact below_drewN Hb2.out _)
    | (go_at_call 14; with_reducible refine Calls.quiet_of_same (HB.out _ ?_); exact below_drewN Hb2.out _))
  gi_wp2_with (refine ⟨trivial, ?_⟩; gi_at_call 35; refine (callsIn_wide.2 (HAll.out _ (below_drewN Hb2.out _))).mono ?_; rintro e w3 ⟨rfl, v, hc, ho, hb⟩)
  have hb3 : Below w.heap.size w w3 := Bel.tr (below_drewN Hb2.out _) hb
  have hI0 : SamW w (wz.drewN nq).heap.size v w1 B2 b2 vb N2 w2 w3 := ⟨(hb.cell (p := ⟨w.heap.size + 1, 0, none⟩) (World.block_lt_of_cell? wz _ hc4)).trans hc4, (hb.frozen (p := ⟨w.heap.size + 1, 0, none⟩) (World.block_lt_of_cell? wz _ hc4)).trans hf4, (hb.cell (p := ⟨w.heap.size, 0, none⟩) (World.block_lt_of_cell? wz _ hc3)).trans hc3, ⟨hc, ho, HT.out _ hb3⟩, HS.out _ hb3, hb3⟩
  have hsz := hb3.size
  clear hc hb hc3 hc4 hf4 ho hb3
  refine range_to (gf := 49) (lb := #[.pointer (some ⟨(wz.drewN nq).heap.size, 0, none⟩)]) rfl (enters_of Tryd.func49 (by kernel_rfl) rfl) (encs := encW1) (fun _ => rfl) (eW 0 w1) _ _
    (allw_seq 8 (by omega) _ v w1 Hl.out h16) (fun A C h => by rw [h]; exact KeepsOthers.refl _)
    (fun pre A => SamW w (wz.drewN nq).heap.size v w1 B2 b2 vb N2 w2 A ∧ pre.all (fun x => decide (x < N2) && mem w2 x) = true) (fun c A => c = .ret ∧ A.cell? ⟨w.heap.size + 1, 0, none⟩ = some (.bool false) ∧ Below w.heap.size w A ∧ d = false)
    (fun d A C h k => ⟨h.1.calm hsz k, h.2⟩) (fun c A C h k => ⟨h.1, k.cell h.2.1, Calm.below h.2.2.1 ⟨k.os, k.tape, k.output, k.size, k.cells, fun i hi => k.block i (by omega)⟩, h.2.2.2⟩) (fun d A h => h.1.kn) ⟨hI0, rfl⟩ ?round ?done ?stop
  case round =>
    rintro l' pre x rest W hx ⟨hi, hpre⟩ hs3
    have hx32 := H32.out x (by rw [hx]; simp)
    have hdd := HD.out
    rw [hx, List.all_append, hpre, List.all_cons, Bool.true_and] at hdd
    simp only [encW1]
    gi_wp2
    refine ⟨KeepsOthers.refl _, fun W2 hs2 hc2 => ?_⟩
    have hi2 := hi.calm hsz hc2
    have hp2 := hi2.p
    have hc4 := hi2.c
    have hf4 := hi2.f
    have Hh := Lib.hid (has_any hi2.s x hx32)
    have HI := Lib.hid hi2
    have HP := Lib.hid hpre
    clear hi hi2 hc2 hx hpre
    by_cases hok : (decide (x < N2) && mem w2 x) = true
    · rw [hok] at Hh
      have HK := Lib.hid hok
      clear hdd hok
      gi_wp2_with fail
      refine ⟨trivial, (CallsIn.inRound l' (callsIn_wide.2 Hh.out)).mono ?_⟩
      rintro e w5 ⟨rfl, hw5⟩
      subst hw5
      gi_wp2
      exact ⟨KeepsOthers.refl _, HI.out, by rw [List.all_append, HP.out]; simp [HK.out]⟩
    · have hno := Bool.eq_false_iff.2 hok
      rw [hno] at Hh hdd
      have HDD := Lib.hid hdd
      clear hdd hok hno
      gi_wp2_with fail
      refine ⟨trivial, (CallsIn.inRound l' (callsIn_wide.2 Hh.out)).mono ?_⟩
      rintro e w5 ⟨rfl, hw5⟩
      subst hw5
      gi_wp2
      exact ⟨KeepsOthers.setCell _ _ _, rfl, World.cell?_setCell_same' _ _ _ (by rw [hc4]; rfl), HI.out.below.setCell (p := ⟨w.heap.size + 1, 0, none⟩) (by show w.heap.size ≤ w.heap.size + 1; omega) _, by rw [HDD.out]; rfl⟩
  case done =>
    rintro D W2 W3 W4 ⟨hi, hall⟩ rfl hc hD hd
    have HDT := Lib.hid (show d = true from HD.out.trans hall)
    clear hall
    rename_i K hK
    refine hK _ _ (wpIn_wide.2 ?_)
    have hi4 := hi.calm hsz hc
    have hc4 := hi4.c
    have hf4 := hi4.f
    have HB4 := Lib.hid hi4.below
    have hw4 : w.heap.size + 1 < W4.heap.size := World.block_lt_of_cell? _ _ hc4
    have hd4 : (W4.setCell ⟨w.heap.size + 1, 0, none⟩ (.bool true)).heap[D]? = some (.deferred (some [])) := by
      by_cases e : D = w.heap.size + 1
      · exfalso
        obtain ⟨o, ho, hcs⟩ := cells_of_cell hc4
        rw [← show D = (⟨w.heap.size + 1, 0, none⟩ : Addr).block from e, hd] at ho
        cases ho; cases hcs
      · rw [Below.heap_setCell _ _ _ _ e]; exact hd
    have hr : (W4.setCell ⟨w.heap.size + 1, 0, none⟩ (.bool true)).cell? ⟨w.heap.size + 1, 0, none⟩ = some (.bool true) := World.cell?_setCell_same' _ _ _ (by rw [hc4]; rfl)
    have Hd4 := Lib.hid hd4
    have Hr := Lib.hid hr
    clear hi hi4 hc hd hd4 hr hI0
    go_wp2
    refine ⟨by simp, .inl ⟨_, _, rfl, run_takeDeferred Hd4.out, ?_⟩⟩
    have hk' := Calm.putObj (B := w.heap.size) _ (.deferred none) Hd4.out rfl (by omega)
    have hr5 := hk'.cell Hr.out
    refine ⟨.bool true, by simp [results, Tryd.results9, go_sem, hr5], by rw [HDT.out], Calm.below (HB4.out.setCell (p := ⟨w.heap.size + 1, 0, none⟩) (by show w.heap.size ≤ w.heap.size + 1; omega) _) hk'⟩
  case stop =>
    rintro D c W4 ⟨rfl, hc4, hb4, hdf⟩ hD hd4
    have Hd4 := Lib.hid hd4
    have HB4 := Lib.hid hb4
    have HDF := Lib.hid hdf
    clear hd4 hI0 hb4 hdf
    gi_wp2
    refine ⟨by simp, .inl ⟨_, _, rfl, run_takeDeferred Hd4.out, ?_⟩⟩
    have hk' := Calm.putObj (B := w.heap.size) _ (.deferred none) Hd4.out rfl (by omega)
    have hr5 := hk'.cell hc4
    exact ⟨.bool false, by simp [results, Tryd.results9, go_sem, hr5], by rw [HDF.out], Calm.below HB4.out hk'⟩
theorem is_le20 {W : World} {B b N : Nat} {vw : Value} {ws l : List Nat} (h : SetAt W B b vw N ws) (hi : IsB N ws l) : l.length ≤ 1048576 ∧ ∀ x ∈ l, x < 4294967296 := by
  have h1 := h.hN
  have h2 := h.hn
  have h3 := hi.1.len
  have h4 := sum_pop_le ws
  refine ⟨?_, fun x hx => by have := hi.2 x hx; omega⟩
  have h5 : ∀ (l : List Nat) (a N : Nat), Up l → (∀ x ∈ l, a ≤ x ∧ x < N) → a ≤ N → l.length ≤ N - a := by
    intro l
    induction l with
    | nil => intro a N _ _ _; exact Nat.zero_le _
    | cons c l ih =>
      intro a N hu hx _
      obtain ⟨hc, hu2⟩ := List.pairwise_cons.1 hu
      have hcb := hx c (List.mem_cons_self ..)
      have := ih (c + 1) N hu2 (fun x hxl => ⟨hc x hxl, (hx x (List.mem_cons_of_mem _ hxl)).2⟩) (by omega)
      rw [List.length_cons]; omega
  have := h5 l 0 N hi.1.1 (fun x hx => ⟨Nat.zero_le _, hi.2 x hx⟩) (Nat.zero_le _)
  omega
/-- Same tells whether the lists are the same. -/
theorem same_any {W : World} {B1 b1 B2 b2 N1 N2 : Nat} {va vb : Value} {w1 w2 l m : List Nat} (hA : SetAt W B1 b1 va N1 w1) (hB : SetAt W B2 b2 vb N2 w2) (hT : TabAt W) (i1 : IsB N1 w1 l) (i2 : IsB N2 w2 m) :
    Calls Tryd.prog 9 #[.pointer (some ⟨b1, 0, none⟩), .pointer (some ⟨b2, 0, none⟩)] W fun e w' => e = .returned (.bool (decide (l = m))) ∧ Below W.heap.size W w' := by
  by_cases hlen : l.length = m.length
  · refine same_allW hA hB hT (by rw [i1.1.len, i2.1.len, hlen]) _ ?_ ?_
    · rw [← i1.1.eq]
      cases hall : l.all (fun x => decide (x < N2) && mem w2 x)
      · exact decide_eq_false (fun e => by
          subst e
          have : l.all (fun x => decide (x < N2) && mem w2 x) = true := List.all_eq_true.2 (fun x hx => by rw [decide_eq_true (i2.2 x hx), (i2.1.2 x).1 hx]; rfl)
          rw [this] at hall; cases hall)
      · refine decide_eq_true (up_sub_eq m l i1.1.1 i2.1.1 (fun x hx => ?_) hlen)
        have := List.all_eq_true.1 hall x hx
        rw [Bool.and_eq_true] at this
        exact (i2.1.2 x).2 this.2
    · rw [← i1.1.eq]; exact (is_le20 hA i1).2
  · rw [decide_eq_false (fun e => hlen (by rw [e]))]
    exact same_noW (by rw [i1.1.len, i2.1.len]; exact hlen) (fun w' hb => len_any (hA.below hb)) (fun w' hb => len_any (hB.below hb))
end Go.Proofs.YtofkamnmgpkehaaDoor
