import Derived.Test.YtofkamnmgpkehaaDoorSet6
import Derived.Test.YtofkamnmgpkehaaDoorWrd3
import Derived.Test.YtofkamnmgpkehaaDoorTwo
import Derived.Test.YtofkamnmgpkehaaDoorTwo
/- The law's walk through All of a set of words. -/
namespace Go.Proofs.YtofkamnmgpkehaaDoor
open Go.RowKit
attribute [local go_sem] Oper.semAt_some
theorem grown_setCell (W : World) (g j : Nat) (v : Value) : W.grownBy (W.setCell ⟨g, j, none⟩ v) (some g) :=
  ⟨rfl, rfl, rfl, by simp [World.setCell], fun k _ hne => Below.heap_setCell _ _ _ _ (fun e => hne (by rw [e]))⟩
theorem KeepsOthers.drewN (W : World) (n : Nat) : KeepsOthers W (W.drewN n) := ⟨Nat.le_refl _, fun _ _ h _ => h⟩
structure AW (w : World) (K bx : Nat) (v : Value) (ws : List Nat) (vl : Value) (A : World) : Prop where
  c : A.cell? ⟨w.heap.size + 1, 0, none⟩ = some (.bool false)
  f : A.frozen? ⟨w.heap.size + 1, 0, none⟩ = false
  p : A.cell? ⟨w.heap.size, 0, none⟩ = some vl
  x : A.cell? ⟨bx, 0, none⟩ = some v
  ow : A.ownsRow 0 78 1 v ws.length (encN .u64 ws)
  bel : Below w.heap.size w A
  k1 : w.heap.size + 1 < K
  k2 : bx < K
  k3 : ∀ g, v.ownBlock = some g → g < K
  kl : K ≤ A.heap.size
theorem AW.turn {w A C : World} {K bx : Nat} {v vl : Value} {ws : List Nat} (h : AW w K bx v ws vl A) {r : Option Nat} (hg : A.grownBy C r) (hr : ∀ q, r = some q → K ≤ q) : AW w K bx v ws vl C :=
  have h1 := h.k1
  have h2 := h.k2
  ⟨grown_cell hg h.c (World.block_lt_of_cell? _ _ h.c) (fun e => by have := hr _ e; omega), (World.frozen?_of_block (hg.block _ (World.block_lt_of_cell? _ _ h.c) (fun e => by have := hr _ e.symm; simp at this; omega))).trans h.f,
    grown_cell hg h.p (World.block_lt_of_cell? _ _ h.p) (fun e => by have := hr _ e; omega), grown_cell hg h.x (World.block_lt_of_cell? _ _ h.x) (fun e => by have := hr _ e; omega),
    own_grown h.ow hg (fun g e e2 => by have := hr _ e2; have := h.k3 g e; omega), h.bel.grown hg h.bel.size (fun g e => by have := hr _ e; omega), h1, h2, h.k3, Nat.le_trans h.kl hg.size⟩
theorem AW.calm {w A C : World} {K bx : Nat} {v vl : Value} {ws : List Nat} (h : AW w K bx v ws vl A) {n : Nat} (k : Calm n A C) (hn : w.heap.size ≤ n) : AW w K bx v ws vl C :=
  ⟨k.cell h.c, (k.frozen h.c).trans h.f, k.cell h.p, k.cell h.x, k.own h.ow, Calm.below h.bel ⟨k.os, k.tape, k.output, k.size, k.cells, fun i hi => k.block i (by omega)⟩, h.k1, h.k2, h.k3, Nat.le_trans h.kl k.size⟩
theorem AW.kn {w A : World} {K bx : Nat} {v vl : Value} {ws : List Nat} (h : AW w K bx v ws vl A) (hT : TabAt A) : KnW bx v ws A := ⟨h.x, h.ow, hT⟩
set_option maxRecDepth 100000 in
set_option maxHeartbeats 4000000 in
theorem allwords_any {w : World} {B b N : Nat} {vw : Value} {ws l : List Nat} (hA : SetAt w B b vw N ws) (hT : TabAt w) (hi : IsB N ws l) (vl : Value) (hl : Reads w 1 vl l.length (encN .u32 l)) (leave : Int) :
    Calls Tryd.prog 13 #[.pointer (some ⟨b, 0, none⟩), vl, .int .i64 leave] w fun e w' => e = .returned (.bool true) ∧ Below w.heap.size w w' := by
  have hl20 := (is_le20 hA hi).1
  have HAll := Lib.hid (fun W (hb : Below w.heap.size w W) => allw_any (hA.below hb))
  have HT := Lib.hid (fun W (hb : Below w.heap.size w W) => hT.below hb)
  have HR := Lib.hid (fun W (hb : Below w.heap.size w W) => hl.below hb)
  have Hl := Lib.hid hA.hl
  have h16 : ws.length ≤ 16384 := by have := hA.hn; have := hA.hN; omega
  have HE := Lib.hid hi.1.eq
  have hpk := fun W => pick_any leave (l.length + 1) (by omega) (by omega) W
  rw [show (((l.length + 1 : Nat)) : Int) = (l.length : Int) + 1 from by omega] at hpk
  have HP := Lib.hid hpk
  clear hpk
  clear hA hT hi
  obtain ⟨al, cl, rfl, hlc, hcm, -, -⟩ := reads_opened hl
  have hlL : l.length ≤ 9223372036854775807 := by omega
  clear hl hcm
  obtain ⟨n, hn⟩ : ∃ n, n = l.length := ⟨_, rfl⟩
  have HN := Lib.hid hn
  rw [← hn] at hlc hlL hl20 HP HR ⊢
  clear hn
  refine (callsIn_wide (n := 13)).1 ?_
  have h1 : (1 : Nat) ≤ 13 := by omega
  refine callsIn_of_wp_marks Tryd.func13 rfl trivial ?_ rfl
  simp only [Tryd.ntmps13, List.size_toArray, List.length_cons, List.length_nil, Nat.reduceAdd, Nat.reduceSub, Array.replicate_succ, Array.replicate_zero, List.push_toArray, List.append_toArray, List.nil_append, List.cons_append]
  gi_wp2_with fail
  have hb2 : Below w.heap.size w ((w.alloc (.cells #[.slice al n cl] 28)).alloc (.cells #[.bool false] 4)) := Bel.al (Bel.new w _) _
  have hc0 : ((w.alloc (.cells #[.slice al n cl] 28)).alloc (.cells #[.bool false] 4)).cell? ⟨w.heap.size, 0, none⟩ = some (.slice al n cl) := by simp [go_sem]
  have hc1 : ((w.alloc (.cells #[.slice al n cl] 28)).alloc (.cells #[.bool false] 4)).cell? ⟨w.heap.size + 1, 0, none⟩ = some (.bool false) := by simp [go_sem]
  have hf1 : ((w.alloc (.cells #[.slice al n cl] 28)).alloc (.cells #[.bool false] 4)).frozen? ⟨w.heap.size + 1, 0, none⟩ = false := by simp [go_sem]
  have hs2 : ((w.alloc (.cells #[.slice al n cl] 28)).alloc (.cells #[.bool false] 4)).heap.size = w.heap.size + 2 := by simp
  have Hb2 := Lib.hid hb2
  clear hb2
  refine ⟨trivial, (callsIn_wide.2 (HAll.out _ Hb2.out)).mono ?_⟩
  rintro e w3 ⟨rfl, v, hx, how, hb3⟩
  rw [hs2] at hx ⊢
  have hp3 := (hb3.cell (p := ⟨w.heap.size, 0, none⟩) (by show w.heap.size < _; omega)).trans hc0
  have hc3 := (hb3.cell (p := ⟨w.heap.size + 1, 0, none⟩) (by show w.heap.size + 1 < _; omega)).trans hc1
  have hf3 := (hb3.frozen (p := ⟨w.heap.size + 1, 0, none⟩) (by show w.heap.size + 1 < _; omega)).trans hf1
  have hs3 := hb3.size
  have hx3 : w.heap.size + 2 < w3.heap.size := World.block_lt_of_cell? _ _ hx
  have HW := Lib.hid (show AW w w3.heap.size (w.heap.size + 2) v ws (.slice al n cl) w3 from ⟨hc3, hf3, hp3, hx, how, Bel.tr Hb2.out hb3, by omega, hx3, fun g e => (how.lt g e).2, Nat.le_refl _⟩)
  clear hc0 hc1 hf1 hs2 hx how hb3 hc3 hf3 Hb2 HAll
  have q76 : ∀ (W : World) (a : Option Addr), (binOp .eql 76 (.func (.func 49) #[] #[.pointer a]) .nilFunc).run Tryd.prog W = .ok (.bool false) W := fun W a => by kernel_rfl
  gi_wp2_with fail
  refine ⟨trivial, (callsIn_wide.2 (HP.out _)).mono ?_⟩
  rintro e w4 ⟨⟨st, hst, rfl⟩, rfl⟩
  have hsi : (st : Int) ≤ (n : Int) := by omega
  have hst2 : st ≤ n := by omega
  clear hst HP hp3 q76
  gi_wp2_with fail
  obtain ⟨K, hK⟩ : ∃ K, K = w4.heap.size := ⟨_, rfl⟩
  obtain ⟨w5, hw5⟩ : ∃ w5, w5 = (w4.alloc (.cells #[.int .i64 st] 3)).alloc (.cells #[.int .i64 0] 3) := ⟨_, rfl⟩
  have hg5 : w4.grownBy w5 none := by rw [hw5]; exact below_grownBy (Bel.al (Bel.new w4 _) _) none
  have hA5 := HW.out.turn hg5 (fun q e => by cases e)
  have hst5 : w5.cell? ⟨K, 0, none⟩ = some (.int .i64 st) := by rw [hw5, hK]; simp [go_sem]
  have hn5 : w5.cell? ⟨K + 1, 0, none⟩ = some (.int .i64 0) := by rw [hw5, hK]; simp [go_sem]
  have hf5 : w5.frozen? ⟨K + 1, 0, none⟩ = false := by rw [hw5, hK]; simp [go_sem]
  rw [← hw5]
  rw [← hK] at hA5 ⊢
  have H5 := Lib.hid (And.intro hA5 (And.intro hn5 (And.intro hf5 hst5)))
  have hK2 : w.heap.size + 2 < K := by omega
  have hsz5 : w.heap.size ≤ w5.heap.size := hA5.bel.size
  clear hA5 hn5 hf5 hst5 hg5 hw5 HW hK hs3 hx3
  refine range_to (gf := 49) (lb := #[.pointer (some ⟨w.heap.size + 2, 0, none⟩)]) rfl (enters_of Tryd.func49 (by kernel_rfl) rfl) (encs := encW1) (fun _ => rfl) (eW 0 ws) _ _
    (allw_seq 12 (by omega) _ v ws Hl.out h16) (fun A C h => by rw [h]; exact KeepsOthers.refl _)
    (fun pre A => pre.length ≤ st ∧ AW w K (w.heap.size + 2) v ws (.slice al n cl) A ∧ A.cell? ⟨K + 1, 0, none⟩ = some (.int .i64 pre.length) ∧ A.frozen? ⟨K + 1, 0, none⟩ = false ∧ A.cell? ⟨K, 0, none⟩ = some (.int .i64 st))
    (fun c A => c = .exit 0 ∧ AW w K (w.heap.size + 2) v ws (.slice al n cl) A ∧ A.cell? ⟨K + 1, 0, none⟩ = some (.int .i64 st) ∧ A.frozen? ⟨K + 1, 0, none⟩ = false ∧ A.cell? ⟨K, 0, none⟩ = some (.int .i64 st))
    (fun d A C h k => ⟨h.1, h.2.1.calm k hsz5, k.cell h.2.2.1, (k.frozen h.2.2.1).trans h.2.2.2.1, k.cell h.2.2.2.2⟩)
    (fun c A C h k => ⟨h.1, h.2.1.calm k hsz5, k.cell h.2.2.1, (k.frozen h.2.2.1).trans h.2.2.2.1, k.cell h.2.2.2.2⟩)
    (fun d A h => h.2.1.kn (HT.out _ h.2.1.bel)) ⟨Nat.zero_le _, H5.out⟩ ?round1 ?done1 ?stop1
  case round1 =>
    rintro l' pre x rest W hx ⟨hps, hi, hn, hf, hs⟩ hsz
    clear H5
    have hx' := HE.out.trans hx
    have hpl : pre.length < n := by rw [HN.out, hx']; simp
    have hxk : l.getD pre.length 0 = x := by rw [hx', List.getD_eq_getElem?_getD, List.getElem?_append_right (Nat.le_refl _)]; simp
    simp only [encW1]
    gi_wp2
    refine ⟨KeepsOthers.refl _, fun W2 hs2 hc2 => ?_⟩
    have hi2 := hi.calm hc2 hsz5
    have hn2 := hc2.cell hn
    have hf2 := (hc2.frozen hn).trans hf
    have hs2' := hc2.cell hs
    have hp2 := hi2.p
    obtain ⟨al2, cl2, e2, -, -, -, hrd⟩ := reads_opened (l := l) (by rw [← HN.out]; exact HR.out _ hi2.bel)
    rw [← HN.out] at e2
    cases e2
    obtain ⟨rb, roff, rfl, hrb, hrc⟩ := hrd (by rw [← HN.out]; omega)
    have hck := hrc pre.length (by rw [← HN.out]; exact hpl)
    rw [hxk] at hck
    have q0 : (pre.length : Int) < (n : Int) := by omega
    have q1 : (0 : Int) ≤ (pre.length : Int) := by omega
    have Hi2 := Lib.hid hi2
    generalize hk : pre.length = k at *
    have Hk := Lib.hid hk
    clear hi hi2 hc2 hk hx hx' hrc hrd hxk hn hf
    by_cases hks : k = st
    · subst hks
      gi_wp2
      exact ⟨KeepsOthers.refl _, rfl, Hi2.out, hn2, hf2, hs2'⟩
    · have hd1' : ((k : Int) == (st : Int)) = false := by simp; omega
      have hd : decide ((st : Int) < (k : Int)) = false := decide_eq_false (by omega)
      gi_wp2
      have hst' := grown_setCell W2 (K + 1) 0 (.int .i64 ((k : Int) + 1))
      have hko := KeepsOthers.setCell W2 ⟨K + 1, 0, none⟩ (.int .i64 ((k : Int) + 1))
      refine ⟨hko, by rw [List.length_append, Hk.out]; show k + 1 ≤ st; omega, Hi2.out.turn hst' (fun q e => by cases e; omega), ?_, ?_, ?_⟩
      · rw [List.length_append, Hk.out]; exact World.cell?_setCell_same' _ _ _ (by show (W2.cell? ⟨K + 1, 0, none⟩).isSome = true; rw [hn2]; rfl)
      · rw [World.frozen?_setCell]; exact hf2
      · exact (World.cell?_of_block (Below.heap_setCell _ _ _ _ (by show K ≠ K + 1; omega))).trans hs2'
  case done1 =>
    rintro D W2 W3 W4 hi rfl hc hD hd4
    obtain ⟨hps, hi, hn, hf, hs⟩ := hi
    rw [← HE.out, ← HN.out] at hps hn
    obtain rfl : n = st := by omega
    rename_i Kx hKx
    refine hKx _ _ ?_
    clear hKx Kx
    have hi4 := hi.calm hc hsz5
    have hn4 := hc.cell hn
    have hf4 := (hc.frozen hn).trans hf
    have hs4 := hc.cell hs
    clear hi hn hf hs hc
    have hi5 := hi4.turn (grown_setCell W4 (K + 1) 0 (.int .i64 0)) (fun q e => by cases e; omega)
    have hn5 : (W4.setCell ⟨K + 1, 0, none⟩ (.int .i64 0)).cell? ⟨K + 1, 0, none⟩ = some (.int .i64 0) := World.cell?_setCell_same' _ _ _ (by rw [hn4]; rfl)
    have hf5 : (W4.setCell ⟨K + 1, 0, none⟩ (.int .i64 0)).frozen? ⟨K + 1, 0, none⟩ = false := by rw [World.frozen?_setCell]; exact hf4
    have hd5 := (KeepsOthers.setCell W4 ⟨K + 1, 0, none⟩ (.int .i64 0)).same _ _ hd4 rfl
    have H5b := Lib.hid (And.intro hi5 (And.intro hn5 (And.intro hf5 hd5)))
    have hDl : D < W4.heap.size := (Array.getElem?_eq_some_iff.1 hd4).1
    have hsz5b : D < (W4.setCell ⟨K + 1, 0, none⟩ (.int .i64 0)).heap.size ∧ w.heap.size ≤ (W4.setCell ⟨K + 1, 0, none⟩ (.int .i64 0)).heap.size := ⟨by simpa [World.setCell] using hDl, hi5.bel.size⟩
    clear hi4 hi5 hn5 hf5 hd5 hd4
    clear H5
    gi_wp2_with fail
    clear hn4 hf4 hs4
    generalize W4.setCell ⟨K + 1, 0, none⟩ (.int .i64 0) = w9 at *
    obtain ⟨hD9, hsz5⟩ := hsz5b
    refine range_to (gf := 49) (lb := #[.pointer (some ⟨w.heap.size + 2, 0, none⟩)]) rfl (enters_of Tryd.func49 (by kernel_rfl) rfl) (encs := encW1) (fun _ => rfl) (eW 0 ws) _ _
      (allw_seq 12 (by omega) _ v ws Hl.out h16) (fun A C h => by rw [h]; exact KeepsOthers.refl _)
      (fun pre A => AW w K (w.heap.size + 2) v ws (.slice al n cl) A ∧ A.cell? ⟨K + 1, 0, none⟩ = some (.int .i64 pre.length) ∧ A.frozen? ⟨K + 1, 0, none⟩ = false ∧ A.heap[D]? = some (.deferred (some [])))
      (fun _ _ => False)
      (fun d A C h k => ⟨h.1.calm k hsz5, k.cell h.2.1, (k.frozen h.2.1).trans h.2.2.1, (k.block D hD9).trans h.2.2.2⟩)
      (fun _ _ _ h _ => h)
      (fun d A h => h.1.kn (HT.out _ h.1.bel)) H5b.out ?round2a ?done2a (fun _ _ _ h _ _ => h.elim)
    case' round2a =>
      rintro l' pre x rest W hx ⟨hi, hn, hf, hdd⟩ hsz
      clear H5b
      have hx' := HE.out.trans hx
      have hpl : pre.length < n := by rw [HN.out, hx']; simp
      have hxk : l.getD pre.length 0 = x := by rw [hx', List.getD_eq_getElem?_getD, List.getElem?_append_right (Nat.le_refl _)]; simp
      simp only [encW1]
      gi_wp2
      refine ⟨KeepsOthers.refl _, fun W2 hs2 hc2 => ?_⟩
      have hi2 := hi.calm hc2 hsz5
      have hn2 := hc2.cell hn
      have hf2 := (hc2.frozen hn).trans hf
      have hdd2 := (hc2.block D (by omega)).trans hdd
      have hp2 := hi2.p
      obtain ⟨al2, cl2, e2, -, -, -, hrd⟩ := reads_opened (l := l) (by rw [← HN.out]; exact HR.out _ hi2.bel)
      rw [← HN.out] at e2
      cases e2
      obtain ⟨rb, roff, rfl, hrb, hrc⟩ := hrd (by rw [← HN.out]; omega)
      have hck := hrc pre.length (by rw [← HN.out]; exact hpl)
      rw [hxk] at hck
      have q0 : (pre.length : Int) < (n : Int) := by omega
      have q1 : (0 : Int) ≤ (pre.length : Int) := by omega
      have Hi2 := Lib.hid hi2
      generalize hk : pre.length = k at *
      have Hk := Lib.hid hk
      clear hi hi2 hc2 hk hx hx' hrc hrd hxk hn hf
      have hd : decide ((n : Int) ≤ (k : Int)) = false := decide_eq_false (by omega)
      gi_wp2
      have hst' := grown_setCell W2 (K + 1) 0 (.int .i64 ((k : Int) + 1))
      have hko := KeepsOthers.setCell W2 ⟨K + 1, 0, none⟩ (.int .i64 ((k : Int) + 1))
      refine ⟨hko, Hi2.out.turn hst' (fun q e => by cases e; omega), ?_, ?_, ?_⟩
      · rw [List.length_append, Hk.out]; exact World.cell?_setCell_same' _ _ _ (by show (W2.cell? ⟨K + 1, 0, none⟩).isSome = true; rw [hn2]; rfl)
      · rw [World.frozen?_setCell]; exact hf2
      · exact hko.same _ _ hdd2 rfl
    case' done2a =>
      rintro D2 W5 W6 W7 ⟨hi, hn, hf, hdd⟩ rfl hc hD2 hd2
      rw [← HE.out, ← HN.out] at hn
      rename_i Kx hKx
      refine hKx _ _ ?_
      clear hKx Kx H5b
      have hi7 := hi.calm hc hsz5
      have hn7 := hc.cell hn
      have hp7 := hi7.p
      have hc7 := hi7.c
      have hf7 := hi7.f
      have hd7 := (hc.block D hD9).trans hdd
      have HB7 := Lib.hid hi7.bel
      have hkk := hi7.k1
      have e1 := (KeepsOthers.setCell W7 ⟨w.heap.size + 1, 0, none⟩ (.bool true)).same _ _ hd7 rfl
      have e2 := (KeepsOthers.setCell W7 ⟨w.heap.size + 1, 0, none⟩ (.bool true)).same _ _ hd2 rfl
      have hr : (W7.setCell ⟨w.heap.size + 1, 0, none⟩ (.bool true)).cell? ⟨w.heap.size + 1, 0, none⟩ = some (.bool true) := World.cell?_setCell_same' _ _ _ (by rw [hc7]; rfl)
      have HD1 := Lib.hid e1
      have HD2 := Lib.hid e2
      have Hr := Lib.hid hr
      have hnn : ((n : Int) == (n : Int)) = true := by simp
      clear hi hi7 hn hf hdd hc hd7 hd2 e1 e2 hr
      gi_wp2_with fail
      have hDD : D ≠ D2 := by omega
      refine ⟨by simp, .inl ⟨_, _, rfl, run_takeDeferred HD2.out, ?_⟩⟩
      have k1 := Calm.putObj (B := w.heap.size) _ (.deferred none) HD2.out rfl (by omega)
      have h1' := (World.putObj_heap_other (o := .deferred none) hDD).trans HD1.out
      refine ⟨by simp, .inl ⟨_, _, rfl, run_takeDeferred h1', ?_⟩⟩
      have k2 := Calm.putObj (B := w.heap.size) _ (.deferred none) h1' rfl (by omega)
      have hr5 := k2.cell (k1.cell Hr.out)
      refine ⟨.bool true, by simp [results, Tryd.results13, go_sem, hr5], rfl, Calm.below (Calm.below (HB7.out.setCell (p := ⟨w.heap.size + 1, 0, none⟩) (by show w.heap.size ≤ w.heap.size + 1; omega) _) k1) k2⟩
  case stop1 =>
    rintro D c W4 ⟨rfl, hi4, hn4, hf4, hs4⟩ hD hd4
    have hi5 := hi4.turn (grown_setCell W4 (K + 1) 0 (.int .i64 0)) (fun q e => by cases e; omega)
    have hn5 : (W4.setCell ⟨K + 1, 0, none⟩ (.int .i64 0)).cell? ⟨K + 1, 0, none⟩ = some (.int .i64 0) := World.cell?_setCell_same' _ _ _ (by rw [hn4]; rfl)
    have hf5 : (W4.setCell ⟨K + 1, 0, none⟩ (.int .i64 0)).frozen? ⟨K + 1, 0, none⟩ = false := by rw [World.frozen?_setCell]; exact hf4
    have hd5 := (KeepsOthers.setCell W4 ⟨K + 1, 0, none⟩ (.int .i64 0)).same _ _ hd4 rfl
    have H5b := Lib.hid (And.intro hi5 (And.intro hn5 (And.intro hf5 hd5)))
    have hDl : D < W4.heap.size := (Array.getElem?_eq_some_iff.1 hd4).1
    have hsz5b : D < (W4.setCell ⟨K + 1, 0, none⟩ (.int .i64 0)).heap.size ∧ w.heap.size ≤ (W4.setCell ⟨K + 1, 0, none⟩ (.int .i64 0)).heap.size := ⟨by simpa [World.setCell] using hDl, hi5.bel.size⟩
    clear hi4 hi5 hn5 hf5 hd5 hd4
    clear H5
    gi_wp2_with fail
    clear hn4 hf4 hs4
    generalize W4.setCell ⟨K + 1, 0, none⟩ (.int .i64 0) = w9 at *
    obtain ⟨hD9, hsz5⟩ := hsz5b
    refine range_to (gf := 49) (lb := #[.pointer (some ⟨w.heap.size + 2, 0, none⟩)]) rfl (enters_of Tryd.func49 (by kernel_rfl) rfl) (encs := encW1) (fun _ => rfl) (eW 0 ws) _ _
      (allw_seq 12 (by omega) _ v ws Hl.out h16) (fun A C h => by rw [h]; exact KeepsOthers.refl _)
      (fun pre A => AW w K (w.heap.size + 2) v ws (.slice al n cl) A ∧ A.cell? ⟨K + 1, 0, none⟩ = some (.int .i64 pre.length) ∧ A.frozen? ⟨K + 1, 0, none⟩ = false ∧ A.heap[D]? = some (.deferred (some [])))
      (fun _ _ => False)
      (fun d A C h k => ⟨h.1.calm k hsz5, k.cell h.2.1, (k.frozen h.2.1).trans h.2.2.1, (k.block D hD9).trans h.2.2.2⟩)
      (fun _ _ _ h _ => h)
      (fun d A h => h.1.kn (HT.out _ h.1.bel)) H5b.out ?round2b ?done2b (fun _ _ _ h _ _ => h.elim)
    case' round2b =>
      rintro l' pre x rest W hx ⟨hi, hn, hf, hdd⟩ hsz
      clear H5b
      have hx' := HE.out.trans hx
      have hpl : pre.length < n := by rw [HN.out, hx']; simp
      have hxk : l.getD pre.length 0 = x := by rw [hx', List.getD_eq_getElem?_getD, List.getElem?_append_right (Nat.le_refl _)]; simp
      simp only [encW1]
      gi_wp2
      refine ⟨KeepsOthers.refl _, fun W2 hs2 hc2 => ?_⟩
      have hi2 := hi.calm hc2 hsz5
      have hn2 := hc2.cell hn
      have hf2 := (hc2.frozen hn).trans hf
      have hdd2 := (hc2.block D (by omega)).trans hdd
      have hp2 := hi2.p
      obtain ⟨al2, cl2, e2, -, -, -, hrd⟩ := reads_opened (l := l) (by rw [← HN.out]; exact HR.out _ hi2.bel)
      rw [← HN.out] at e2
      cases e2
      obtain ⟨rb, roff, rfl, hrb, hrc⟩ := hrd (by rw [← HN.out]; omega)
      have hck := hrc pre.length (by rw [← HN.out]; exact hpl)
      rw [hxk] at hck
      have q0 : (pre.length : Int) < (n : Int) := by omega
      have q1 : (0 : Int) ≤ (pre.length : Int) := by omega
      have Hi2 := Lib.hid hi2
      generalize hk : pre.length = k at *
      have Hk := Lib.hid hk
      clear hi hi2 hc2 hk hx hx' hrc hrd hxk hn hf
      have hd : decide ((n : Int) ≤ (k : Int)) = false := decide_eq_false (by omega)
      gi_wp2
      have hst' := grown_setCell W2 (K + 1) 0 (.int .i64 ((k : Int) + 1))
      have hko := KeepsOthers.setCell W2 ⟨K + 1, 0, none⟩ (.int .i64 ((k : Int) + 1))
      refine ⟨hko, Hi2.out.turn hst' (fun q e => by cases e; omega), ?_, ?_, ?_⟩
      · rw [List.length_append, Hk.out]; exact World.cell?_setCell_same' _ _ _ (by show (W2.cell? ⟨K + 1, 0, none⟩).isSome = true; rw [hn2]; rfl)
      · rw [World.frozen?_setCell]; exact hf2
      · exact hko.same _ _ hdd2 rfl
    case' done2b =>
      rintro D2 W5 W6 W7 ⟨hi, hn, hf, hdd⟩ rfl hc hD2 hd2
      rw [← HE.out, ← HN.out] at hn
      rename_i Kx hKx
      refine hKx _ _ ?_
      clear hKx Kx H5b
      have hi7 := hi.calm hc hsz5
      have hn7 := hc.cell hn
      have hp7 := hi7.p
      have hc7 := hi7.c
      have hf7 := hi7.f
      have hd7 := (hc.block D hD9).trans hdd
      have HB7 := Lib.hid hi7.bel
      have hkk := hi7.k1
      have e1 := (KeepsOthers.setCell W7 ⟨w.heap.size + 1, 0, none⟩ (.bool true)).same _ _ hd7 rfl
      have e2 := (KeepsOthers.setCell W7 ⟨w.heap.size + 1, 0, none⟩ (.bool true)).same _ _ hd2 rfl
      have hr : (W7.setCell ⟨w.heap.size + 1, 0, none⟩ (.bool true)).cell? ⟨w.heap.size + 1, 0, none⟩ = some (.bool true) := World.cell?_setCell_same' _ _ _ (by rw [hc7]; rfl)
      have HD1 := Lib.hid e1
      have HD2 := Lib.hid e2
      have Hr := Lib.hid hr
      have hnn : ((n : Int) == (n : Int)) = true := by simp
      clear hi hi7 hn hf hdd hc hd7 hd2 e1 e2 hr
      gi_wp2_with fail
      have hDD : D ≠ D2 := by omega
      refine ⟨by simp, .inl ⟨_, _, rfl, run_takeDeferred HD2.out, ?_⟩⟩
      have k1 := Calm.putObj (B := w.heap.size) _ (.deferred none) HD2.out rfl (by omega)
      have h1' := (World.putObj_heap_other (o := .deferred none) hDD).trans HD1.out
      refine ⟨by simp, .inl ⟨_, _, rfl, run_takeDeferred h1', ?_⟩⟩
      have k2 := Calm.putObj (B := w.heap.size) _ (.deferred none) h1' rfl (by omega)
      have hr5 := k2.cell (k1.cell Hr.out)
      refine ⟨.bool true, by simp [results, Tryd.results13, go_sem, hr5], rfl, Calm.below (Calm.below (HB7.out.setCell (p := ⟨w.heap.size + 1, 0, none⟩) (by show w.heap.size ≤ w.heap.size + 1; omega) _) k1) k2⟩
end Go.Proofs.YtofkamnmgpkehaaDoor
