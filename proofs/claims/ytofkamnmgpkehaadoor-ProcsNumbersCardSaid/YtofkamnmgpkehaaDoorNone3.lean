import Derived.Test.YtofkamnmgpkehaaDoorNone2
/- Same of such sets. -/
namespace Go.Proofs.YtofkamnmgpkehaaDoor
open Go.RowKit
attribute [local go_sem] Oper.semAt_some
theorem Calls.quiet_same {P : Program} {f : FuncId} {args : Array Value} {w : World} {n : Nat} {v : Value} (h : Calls P f args (w.drewN n) fun e w' => e = .returned v ∧ w' = w.drewN n) : Calls P f args (w.drewN n) fun e w'' => e = .returned v ∧ ∃ m, w'' = w.drewN m := Calls.quiet_of_same h
set_option maxRecDepth 100000 in
set_option maxHeartbeats 1000000 in
/-- One of the two has a number. -/
theorem same_no {w : World} {a b : Option Addr} {m n : Nat} (hmn : m ≠ n) (hA : ∀ W, Below w.heap.size w W → Calls Tryd.prog 33 #[.pointer a] W fun e w' => e = .returned (.int .i64 m) ∧ w' = W) (hB : ∀ W, Below w.heap.size w W → Calls Tryd.prog 33 #[.pointer b] W fun e w' => e = .returned (.int .i64 n) ∧ w' = W) :
    Calls Tryd.prog 17 #[.pointer a, .pointer b] w fun e w' => e = .returned (.bool false) ∧ Below w.heap.size w w' := by
  have HA := Lib.hid hA
  have HB := Lib.hid hB
  have hd : ((m : Int) != (n : Int)) = true := by simp; omega
  clear hA hB hmn
  refine (callsIn_wide (n := 9)).1 ?_
  have h1 : (1 : Nat) ≤ 9 := by omega
  refine callsIn_of_wp_marks Tryd.func17 rfl trivial ?_ rfl
  simp only [Tryd.ntmps17, List.size_toArray, List.length_cons, List.length_nil, Nat.reduceAdd, Nat.reduceSub, Array.replicate_succ, Array.replicate_zero, List.push_toArray, List.append_toArray, List.nil_append, List.cons_append]
  gi_wp2
  have hc3 : ((w.alloc (.cells #[.pointer b] 39)).alloc (.cells #[.bool false] 4)).cell? ⟨w.heap.size, 0, none⟩ = some (.pointer b) := by simp [go_sem]
  have hc4 : ((w.alloc (.cells #[.pointer b] 39)).alloc (.cells #[.bool false] 4)).cell? ⟨w.heap.size + 1, 0, none⟩ = some (.bool false) := by simp [go_sem]
  have hf4 : ((w.alloc (.cells #[.pointer b] 39)).alloc (.cells #[.bool false] 4)).frozen? ⟨w.heap.size + 1, 0, none⟩ = false := by simp [go_sem]
  have Hb2 := Lib.hid (Bel.al (Bel.new w (.cells #[.pointer b] 39)) (.cells #[.bool false] 4))
  generalize (w.alloc (.cells #[.pointer b] 39)).alloc (.cells #[.bool false] 4) = w2 at *
  refine wpIn_wide.2 ?_
  go_quiet (first
    | (go_at_call 33; with_reducible refine Calls.quiet_of_same (HA.out _ ?_); exact below_drewN Hb2.out _)
    | (go_at_call 33; with_reducible refine Calls.quiet_of_same (HB.out _ ?_); exact below_drewN Hb2.out _))
  have hr : ((w2.drewN nq).setCell ⟨w.heap.size + 1, 0, none⟩ (.bool false)).cell? ⟨w.heap.size + 1, 0, none⟩ = some (.bool false) := World.cell?_setCell_same' _ _ _ (by show (w2.cell? _).isSome = true; rw [hc4]; rfl)
  gi_wp2
  refine ⟨.bool false, by simp [results, Tryd.results17, go_sem, hr], rfl, ?_⟩
  exact (below_drewN Hb2.out _).setCell (p := ⟨w.heap.size + 1, 0, none⟩) (by show w.heap.size ≤ w.heap.size + 1; omega) _
structure SamI (w : World) (bx : Nat) (A : World) : Prop where
  c : A.cell? ⟨w.heap.size + 1, 0, none⟩ = some (.bool false)
  f : A.frozen? ⟨w.heap.size + 1, 0, none⟩ = false
  kn : KnS bx A
  below : Below w.heap.size w A
theorem SamI.calm {w A C : World} {bx : Nat} (h : SamI w bx A) {n : Nat} (hn : w.heap.size ≤ n) (k : Calm n A C) : SamI w bx C :=
  ⟨k.cell h.c, (k.frozen h.c).trans h.f, k.cell (show A.cell? _ = _ from h.kn), Calm.below h.below ⟨k.os, k.tape, k.output, k.size, k.cells, fun i hi => k.block i (by omega)⟩⟩
set_option maxRecDepth 100000 in
set_option maxHeartbeats 1000000 in
theorem same_yes {w : World} {a b : Option Addr} (hA : SE w (.pointer a)) (hB : SE w (.pointer b)) :
    Calls Tryd.prog 17 #[.pointer a, .pointer b] w fun e w' => e = .returned (.bool true) ∧ Below w.heap.size w w' := by
  have HA := Lib.hid (fun W (hb : Below w.heap.size w W) => len0 (hA.below hb))
  have HB := Lib.hid (fun W (hb : Below w.heap.size w W) => len0 (hB.below hb))
  have HAll := Lib.hid (fun W (hb : Below w.heap.size w W) => alls0 (hA.below hb))
  clear hA hB
  refine (callsIn_wide (n := 9)).1 ?_
  have h1 : (1 : Nat) ≤ 9 := by omega
  refine callsIn_of_wp_marks Tryd.func17 rfl trivial ?_ rfl
  simp only [Tryd.ntmps17, List.size_toArray, List.length_cons, List.length_nil, Nat.reduceAdd, Nat.reduceSub, Array.replicate_succ, Array.replicate_zero, List.push_toArray, List.append_toArray, List.nil_append, List.cons_append]
  gi_wp2
  have hc3 : ((w.alloc (.cells #[.pointer b] 39)).alloc (.cells #[.bool false] 4)).cell? ⟨w.heap.size, 0, none⟩ = some (.pointer b) := by simp [go_sem]
  have hc4 : ((w.alloc (.cells #[.pointer b] 39)).alloc (.cells #[.bool false] 4)).cell? ⟨w.heap.size + 1, 0, none⟩ = some (.bool false) := by simp [go_sem]
  have hf4 : ((w.alloc (.cells #[.pointer b] 39)).alloc (.cells #[.bool false] 4)).frozen? ⟨w.heap.size + 1, 0, none⟩ = false := by simp [go_sem]
  have Hb2 := Lib.hid (Bel.al (Bel.new w (.cells #[.pointer b] 39)) (.cells #[.bool false] 4))
  generalize (w.alloc (.cells #[.pointer b] 39)).alloc (.cells #[.bool false] 4) = w2 at *
  refine wpIn_wide.2 ?_
  go_quiet (first
    | (go_at_call 33; with_reducible refine Calls.quiet_of_same (HA.out _ ?_); exact below_drewN Hb2.out _)
    | (go_at_call 33; with_reducible refine Calls.quiet_of_same (HB.out _ ?_); exact below_drewN Hb2.out _))
  gi_wp2_with (refine ⟨trivial, ?_⟩; gi_at_call 34; refine (callsIn_wide.2 (HAll.out _ (below_drewN Hb2.out _))).mono ?_; rintro e w3 ⟨rfl, hc, hb⟩)
  have hI0 : SamI w (w2.drewN nq).heap.size w3 := ⟨(hb.cell (p := ⟨w.heap.size + 1, 0, none⟩) (World.block_lt_of_cell? w2 _ hc4)).trans hc4, (hb.frozen (p := ⟨w.heap.size + 1, 0, none⟩) (World.block_lt_of_cell? w2 _ hc4)).trans hf4, hc, Bel.tr (below_drewN Hb2.out _) hb⟩
  have hsz := hI0.below.size
  clear hc hb hc3 hc4 hf4
  refine range_to (gf := 47) (lb := #[.pointer (some ⟨(w2.drewN nq).heap.size, 0, none⟩)]) rfl (enters_of Tryd.func47 (by kernel_rfl) rfl) (encs := fun (x : Int) => #[.int .i64 x]) (fun _ => rfl) [] _ _
    (seqs0 8 (by omega) _) (fun A C h => by rw [h]; exact KeepsOthers.refl _)
    (fun _ A => SamI w (w2.drewN nq).heap.size A) (fun _ _ => False) (fun d A C h k => h.calm hsz k) (fun _ _ _ h _ => h) (fun d A h => h.kn) hI0 (fun l' pre x rest W hx => by cases pre <;> cases hx) ?done (fun _ _ _ h _ _ => h.elim)
  case done =>
    rintro D W2 W3 W4 hi rfl hc hD hd
    rename_i K hK
    refine hK _ _ (wpIn_wide.2 ?_)
    have hi4 := hi.calm hsz hc
    have hc4 := hi4.c
    have hf4 := hi4.f
    have HB4 := Lib.hid hi4.below
    have hw4 : w.heap.size + 1 < W4.heap.size := World.block_lt_of_cell? _ _ hc4
    have hd4 : (W4.setCell ⟨w.heap.size + 1, 0, none⟩ (.bool true)).heap[D]? = some (.deferred (some [])) := by
      by_cases e : D = w.heap.size + 1
      · exfalso
        obtain ⟨o, ho, hcs⟩ := cells_of_cell hc4
        rw [← show D = (⟨w.heap.size + 1, 0, none⟩ : Addr).block from e, hd] at ho
        cases ho; cases hcs
      · rw [Below.heap_setCell _ _ _ _ e]; exact hd
    have hr : (W4.setCell ⟨w.heap.size + 1, 0, none⟩ (.bool true)).cell? ⟨w.heap.size + 1, 0, none⟩ = some (.bool true) := World.cell?_setCell_same' _ _ _ (by rw [hc4]; rfl)
    have Hd4 := Lib.hid hd4
    have Hr := Lib.hid hr
    clear hi hi4 hc hd hd4 hr hI0
    go_wp2
    refine ⟨by simp, .inl ⟨_, _, rfl, run_takeDeferred Hd4.out, ?_⟩⟩
    have hk' := Calm.putObj (B := w.heap.size) _ (.deferred none) Hd4.out rfl (by omega)
    have hr5 := hk'.cell Hr.out
    refine ⟨.bool true, by simp [results, Tryd.results17, go_sem, hr5], rfl, Calm.below (HB4.out.setCell (p := ⟨w.heap.size + 1, 0, none⟩) (by show w.heap.size ≤ w.heap.size + 1; omega) _) hk'⟩
end Go.Proofs.YtofkamnmgpkehaaDoor
