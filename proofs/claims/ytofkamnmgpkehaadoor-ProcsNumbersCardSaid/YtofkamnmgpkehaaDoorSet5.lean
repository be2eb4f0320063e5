import Derived.Test.YtofkamnmgpkehaaDoorSet4
import Derived.Test.YtofkamnmgpkehaaDoorNone3
/- Same of sets of words. -/
namespace Go.Proofs.YtofkamnmgpkehaaDoor
open Go.RowKit
attribute [local go_sem] Oper.semAt_some
set_option maxRecDepth 100000 in
set_option maxHeartbeats 1000000 in
/-- One of the two has a number. -/
theorem same_noW {w : World} {a b : Option Addr} {m n : Nat} (hmn : m ≠ n) (hA : ∀ W, Below w.heap.size w W → Calls Tryd.prog 14 #[.pointer a] W fun e w' => e = .returned (.int .i64 m) ∧ w' = W) (hB : ∀ W, Below w.heap.size w W → Calls Tryd.prog 14 #[.pointer b] W fun e w' => e = .returned (.int .i64 n) ∧ w' = W) :
    Calls Tryd.prog 9 #[.pointer a, .pointer b] w fun e w' => e = .returned (.bool false) ∧ Below w.heap.size w w' := by
  have HA := Lib.hid hA
  have HB := Lib.hid hB
  have hd : ((m : Int) != (n : Int)) = true := by simp; omega
  clear hA hB hmn
  refine (callsIn_wide (n := 9)).1 ?_
  have h1 : (1 : Nat) ≤ 9 := by omega
  refine callsIn_of_wp_marks Tryd.func9 rfl trivial ?_ rfl
  simp only [Tryd.ntmps9, List.size_toArray, List.length_cons, List.length_nil, Nat.reduceAdd, Nat.reduceSub, Array.replicate_succ, Array.replicate_zero, List.push_toArray, List.append_toArray, List.nil_append, List.cons_append]
  gi_wp2
  have hc3 : ((w.alloc (.cells #[.pointer b] 23)).alloc (.cells #[.bool false] 4)).cell? ⟨w.heap.size, 0, none⟩ = some (.pointer b) := by simp [go_sem]
  have hc4 : ((w.alloc (.cells #[.pointer b] 23)).alloc (.cells #[.bool false] 4)).cell? ⟨w.heap.size + 1, 0, none⟩ = some (.bool false) := by simp [go_sem]
  have hf4 : ((w.alloc (.cells #[.pointer b] 23)).alloc (.cells #[.bool false] 4)).frozen? ⟨w.heap.size + 1, 0, none⟩ = false := by simp [go_sem]
  have Hb2 := Lib.hid (Bel.al (Bel.new w (.cells #[.pointer b] 23)) (.cells #[.bool false] 4))
  generalize (w.alloc (.cells #[.pointer b] 23)).alloc (.cells #[.bool false] 4) = w2 at *
  refine wpIn_wide.2 ?_
  go_quiet (first
    | (go_at_call 14; with_reducible refine Calls.quiet_of_same (HA.out _ ?_); exact below_drewN Hb2.out _)
    | (go_at_call 14; with_reducible refine Calls.quiet_of_same (HB.out _ ?_); exact below_drewN Hb2.out _))
  have hr : ((w2.drewN nq).setCell ⟨w.heap.size + 1, 0, none⟩ (.bool false)).cell? ⟨w.heap.size + 1, 0, none⟩ = some (.bool false) := World.cell?_setCell_same' _ _ _ (by show (w2.cell? _).isSome = true; rw [hc4]; rfl)
  gi_wp2
  refine ⟨.bool false, by simp [results, Tryd.results9, go_sem, hr], rfl, ?_⟩
  exact (below_drewN Hb2.out _).setCell (p := ⟨w.heap.size + 1, 0, none⟩) (by show w.heap.size ≤ w.heap.size + 1; omega) _
theorem TabAt.calm {A C : World} (h : TabAt A) {n : Nat} (k : Calm n A C) : TabAt C := fun j hj => k.cell (h j hj)
theorem SetAt.calm {A C : World} {B b : Nat} {vw : Value} {N : Nat} {ws : List Nat} (h : SetAt A B b vw N ws) {n : Nat} (k : Calm n A C) : SetAt C B b vw N ws :=
  ⟨k.cell h.c0, k.cell h.c1, h.hb, k.own h.ow, h.nb, h.hl, h.hN, h.hn⟩
structure SamW (w : World) (bx : Nat) (v : Value) (ws : List Nat) (B b : Nat) (vb : Value) (N : Nat) (w2 : List Nat) (A : World) : Prop where
  c : A.cell? ⟨w.heap.size + 1, 0, none⟩ = some (.bool false)
  f : A.frozen? ⟨w.heap.size + 1, 0, none⟩ = false
  p : A.cell? ⟨w.heap.size, 0, none⟩ = some (.pointer (some ⟨b, 0, none⟩))
  kn : KnW bx v ws A
  s : SetAt A B b vb N w2
  below : Below w.heap.size w A
theorem SamW.calm {w A C : World} {bx : Nat} {v : Value} {ws : List Nat} {B b : Nat} {vb : Value} {N : Nat} {w2 : List Nat} (h : SamW w bx v ws B b vb N w2 A) {n : Nat} (hn : w.heap.size ≤ n) (k : Calm n A C) : SamW w bx v ws B b vb N w2 C :=
  ⟨k.cell h.c, (k.frozen h.c).trans h.f, k.cell h.p, ⟨k.cell h.kn.1, k.own h.kn.2.1, h.kn.2.2.calm k⟩, h.s.calm k, Calm.below h.below ⟨k.os, k.tape, k.output, k.size, k.cells, fun i hi => k.block i (by omega)⟩⟩
set_option maxRecDepth 100000 in
set_option maxHeartbeats 1000000 in
theorem same_yesW {w : World} {B1 b1 B2 b2 N1 N2 : Nat} {va vb : Value} {w1 w2 : List Nat} (hA : SetAt w B1 b1 va N1 w1) (hB : SetAt w B2 b2 vb N2 w2) (hT : TabAt w)
    (hs : (w1.map pop).sum = (w2.map pop).sum) (hin : ∀ x ∈ eW 0 w1, x < N2 ∧ mem w2 x = true) :
    Calls Tryd.prog 9 #[.pointer (some ⟨b1, 0, none⟩), .pointer (some ⟨b2, 0, none⟩)] w fun e w' => e = .returned (.bool true) ∧ Below w.heap.size w w' := by
  have hlB := len_any hB
  have HA := Lib.hid (fun W (hb : Below w.heap.size w W) => len_any (hA.below hb))
  have HB := Lib.hid (fun W (hb : Below w.heap.size w W) => (show Calls Tryd.prog 14 #[.pointer (some ⟨b2, 0, none⟩)] W fun e w' => e = .returned (.int .i64 ((w1.map pop).sum : Nat)) ∧ w' = W from by rw [hs]; exact len_any (hB.below hb)))
  have HAll := Lib.hid (fun W (hb : Below w.heap.size w W) => allw_any (hA.below hb))
  have HS := Lib.hid (fun W (hb : Below w.heap.size w W) => hB.below hb)
  have HT := Lib.hid (fun W (hb : Below w.heap.size w W) => hT.below hb)
  have Hl := Lib.hid hA.hl
  have h16 : w1.length ≤ 16384 := by have := hA.hn; have := hA.hN; omega
  have Hin := Lib.hid hin
  clear hA hB hT hs hin hlB
  generalize (w1.map pop).sum = sm at *
  refine (callsIn_wide (n := 9)).1 ?_
  have h1 : (1 : Nat) ≤ 9 := by omega
  refine callsIn_of_wp_marks Tryd.func9 rfl trivial ?_ rfl
  simp only [Tryd.ntmps9, List.size_toArray, List.length_cons, List.length_nil, Nat.reduceAdd, Nat.reduceSub, Array.replicate_succ, Array.replicate_zero, List.push_toArray, List.append_toArray, List.nil_append, List.cons_append]
  gi_wp2
  have hc3 : ((w.alloc (.cells #[.pointer (some ⟨b2, 0, none⟩)] 23)).alloc (.cells #[.bool false] 4)).cell? ⟨w.heap.size, 0, none⟩ = some (.pointer (some ⟨b2, 0, none⟩)) := by simp [go_sem]
  have hc4 : ((w.alloc (.cells #[.pointer (some ⟨b2, 0, none⟩)] 23)).alloc (.cells #[.bool false] 4)).cell? ⟨w.heap.size + 1, 0, none⟩ = some (.bool false) := by simp [go_sem]
  have hf4 : ((w.alloc (.cells #[.pointer (some ⟨b2, 0, none⟩)] 23)).alloc (.cells #[.bool false] 4)).frozen? ⟨w.heap.size + 1, 0, none⟩ = false := by simp [go_sem]
  have Hb2 := Lib.hid (Bel.al (Bel.new w (.cells #[.pointer (some ⟨b2, 0, none⟩)] 23)) (.cells #[.bool false] 4))
  generalize (w.alloc (.cells #[.pointer (some ⟨b2, 0, none⟩)] 23)).alloc (.cells #[.bool false] 4) = wz at *
  refine wpIn_wide.2 ?_
  go_quiet (first
    | (go_at_call 14; with_reducible refine Calls.quiet_of_same (HA.out _ ?_); exact below_drewN Hb2.out _)
    | (go_at_call 14; with_reducible refine Calls.quiet_of_same (HB.out _ ?_); exact below_drewN Hb2.out _))
  gi_wp2_with (refine ⟨trivial, ?_⟩; gi_at_call 35; refine (callsIn_wide.2 (HAll.out _ (below_drewN Hb2.out _))).mono ?_; rintro e w3 ⟨rfl, v, hc, ho, hb⟩)
  have hb3 : Below w.heap.size w w3 := Bel.tr (below_drewN Hb2.out _) hb
  have hI0 : SamW w (wz.drewN nq).heap.size v w1 B2 b2 vb N2 w2 w3 := ⟨(hb.cell (p := ⟨w.heap.size + 1, 0, none⟩) (World.block_lt_of_cell? wz _ hc4)).trans hc4, (hb.frozen (p := ⟨w.heap.size + 1, 0, none⟩) (World.block_lt_of_cell? wz _ hc4)).trans hf4, (hb.cell (p := ⟨w.heap.size, 0, none⟩) (World.block_lt_of_cell? wz _ hc3)).trans hc3, ⟨hc, ho, HT.out _ hb3⟩, HS.out _ hb3, hb3⟩
  have hsz := hb3.size
  clear hc hb hc3 hc4 hf4 ho hb3
  refine range_to (gf := 49) (lb := #[.pointer (some ⟨(wz.drewN nq).heap.size, 0, none⟩)]) rfl (enters_of Tryd.func49 (by kernel_rfl) rfl) (encs := encW1) (fun _ => rfl) (eW 0 w1) _ _
    (allw_seq 8 (by omega) _ v w1 Hl.out h16) (fun A C h => by rw [h]; exact KeepsOthers.refl _)
    (fun _ A => SamW w (wz.drewN nq).heap.size v w1 B2 b2 vb N2 w2 A) (fun _ _ => False) (fun d A C h k => h.calm hsz k) (fun _ _ _ h _ => h) (fun d A h => h.kn) hI0 ?round ?done (fun _ _ _ h _ _ => h.elim)
  case round =>
    rintro l' pre x rest W hx hi hs3
    obtain ⟨hxN, hxm⟩ := Hin.out x (by rw [hx]; simp)
    have hN2 := hi.s.hN
    simp only [encW1]
    gi_wp2
    refine ⟨KeepsOthers.refl _, fun W2 hs2 hc2 => ?_⟩
    have hi2 := hi.calm hsz hc2
    have hp2 := hi2.p
    have hhas := has_any hi2.s x (by omega)
    rw [decide_eq_true hxN, hxm, Bool.true_and] at hhas
    have Hh := Lib.hid hhas
    have HI := Lib.hid hi2
    clear hi hi2 hc2 hx hhas hxN hxm
    gi_wp2_with fail
    refine ⟨trivial, (CallsIn.inRound l' (callsIn_wide.2 Hh.out)).mono ?_⟩
    rintro e w5 ⟨rfl, hw5⟩
    subst hw5
    gi_wp2
    exact ⟨KeepsOthers.refl _, HI.out⟩
  case done =>
    rintro D W2 W3 W4 hi rfl hc hD hd
    rename_i K hK
    refine hK _ _ (wpIn_wide.2 ?_)
    have hi4 := hi.calm hsz hc
    have hc4 := hi4.c
    have hf4 := hi4.f
    have HB4 := Lib.hid hi4.below
    have hw4 : w.heap.size + 1 < W4.heap.size := World.block_lt_of_cell? _ _ hc4
    have hd4 : (W4.setCell ⟨w.heap.size + 1, 0, none⟩ (.bool true)).heap[D]? = some (.deferred (some [])) := by
      by_cases e : D = w.heap.size + 1
      · exfalso
        obtain ⟨o, ho, hcs⟩ := cells_of_cell hc4
        rw [← show D = (⟨w.heap.size + 1, 0, none⟩ : Addr).block from e, hd] at ho
        cases ho; cases hcs
      · rw [Below.heap_setCell _ _ _ _ e]; exact hd
    have hr : (W4.setCell ⟨w.heap.size + 1, 0, none⟩ (.bool true)).cell? ⟨w.heap.size + 1, 0, none⟩ = some (.bool true) := World.cell?_setCell_same' _ _ _ (by rw [hc4]; rfl)
    have Hd4 := Lib.hid hd4
    have Hr := Lib.hid hr
    clear hi hi4 hc hd hd4 hr hI0
    go_wp2
    refine ⟨by simp, .inl ⟨_, _, rfl, run_takeDeferred Hd4.out, ?_⟩⟩
    have hk' := Calm.putObj (B := w.heap.size) _ (.deferred none) Hd4.out rfl (by omega)
    have hr5 := hk'.cell Hr.out
    refine ⟨.bool true, by simp [results, Tryd.results9, go_sem, hr5], rfl, Calm.below (HB4.out.setCell (p := ⟨w.heap.size + 1, 0, none⟩) (by show w.heap.size ≤ w.heap.size + 1; omega) _) hk'⟩
end Go.Proofs.YtofkamnmgpkehaaDoor
