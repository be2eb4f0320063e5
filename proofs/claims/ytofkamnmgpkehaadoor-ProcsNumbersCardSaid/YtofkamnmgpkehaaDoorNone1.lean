import Derived.Test.YtofkamnmgpkehaaDoorAllP
/- Procs that are nil, or that nobody made. -/
namespace Go.Proofs.YtofkamnmgpkehaaDoor
open Go.RowKit
attribute [local go_sem] Oper.semAt_some
/-- nil, or a struct of nils. -/
def PE (w : World) (v : Value) : Prop := v = .pointer none ∨ ∃ b, v = .pointer (some ⟨b, 0, none⟩) ∧ PAt w 0 b (.slice none 0 0) (.slice none 0 0) (.slice none 0 0) [] [] [] []
theorem PE.below {w w' : World} {v : Value} (h : PE w v) (hb : Below w.heap.size w w') : PE w' v := by
  rcases h with h | ⟨b, h, hp⟩
  · exact .inl h
  · exact .inr ⟨b, h, hp.below hb⟩
set_option maxRecDepth 100000 in
set_option maxHeartbeats 1000000 in
theorem proc0 {w : World} {v : Value} (h : PE w v) (i : Int) : Calls Tryd.prog 23 #[v, .int .i64 i] w fun e w' => e = .returned (.tuple #[.agg #[.int .u32 0, .int .u32 0, .int .u32 0, .int .i64 0], .bool false]) ∧ Below w.heap.size w w' := by
  rcases h with rfl | ⟨b, rfl, hp⟩
  · have hb39 := run_build39
    have hz39 := zero39
    go_enter Tryd.func23, Tryd.ntmps23
    go_wp2
    exact bodyPost_ret (v := .tuple #[.agg #[.int .u32 0, .int .u32 0, .int .u32 0, .int .i64 0], .bool false]) (by simp [results, Tryd.results23, go_sem]) rfl ⟨rfl, Bel.new _ _⟩
  · have := proc_any hp i
    unfold procN procV at this
    rwa [if_neg (fun h => absurd h.2 (by show ¬ i < ((0 : Nat) : Int); omega))] at this
set_option maxRecDepth 100000 in
theorem of0 {w : World} {v : Value} (h : PE w v) (x : Nat) (hx : x < 4294967296) : Calls Tryd.prog 25 #[v, .int .u32 x] w fun e w' => e = .returned (.int .i64 (-1)) ∧ w = w' := by
  rcases h with rfl | ⟨b, rfl, hp⟩
  · go_enter Tryd.func25, Tryd.ntmps25
    go_wp2
    go_ret
    exact ⟨rfl, rfl⟩
  · exact of_any hp x hx
set_option maxRecDepth 100000 in
set_option maxHeartbeats 1000000 in
theorem begins0 {w : World} {v : Value} (h : PE w v) (x : Nat) (hx : x < 4294967296) : Calls Tryd.prog 26 #[v, .int .u32 x] w fun e w' => e = .returned (.bool false) ∧ Below w.heap.size w w' := by
  have H1 := Lib.hid (of0 h x hx)
  have H2 := Lib.hid (proc0 h (-1))
  have hz39 := zero39
  go_enter Tryd.func26, Tryd.ntmps26
  go_wp2_with fail
  refine H1.out.mono ?_
  rintro e w1 ⟨rfl, rfl⟩
  go_wp2_with fail
  refine H2.out.mono ?_
  rintro e w2 ⟨rfl, hb⟩
  go_wp2
  go_ret
  exact ⟨by simp, Bel.al hb _⟩
set_option maxRecDepth 100000 in
theorem legal0 {w : World} {v : Value} (h : PE w v) (x y : Nat) (hx : x < 4294967296) : Calls Tryd.prog 27 #[v, .int .u32 x, .int .u32 y] w fun e w' => e = .returned (.bool false) ∧ w = w' := by
  have H1 := Lib.hid (of0 h x hx)
  go_enter Tryd.func27, Tryd.ntmps27
  go_wp2_with fail
  refine H1.out.mono ?_
  rintro e w1 ⟨rfl, rfl⟩
  go_wp2
  go_ret
  exact ⟨by simp, rfl⟩
set_option maxRecDepth 100000 in
set_option maxHeartbeats 1000000 in
theorem targets0 {w : World} {v : Value} (h : PE w v) (i : Int) : Calls Tryd.prog 28 #[v, .int .i64 i] w fun e w' => e = .returned (.slice none 0 0) ∧ Below w.heap.size w w' := by
  have H1 := Lib.hid (proc0 h i)
  have hz39 := zero39
  go_enter Tryd.func28, Tryd.ntmps28
  go_wp2_with fail
  refine H1.out.mono ?_
  rintro e w1 ⟨rfl, hb⟩
  have Hb := Lib.hid hb
  clear hb H1
  go_wp2
  go_ret
  exact ⟨rfl, Bel.al Hb.out _⟩
/-- What the iterator of such needs. -/
def KnE (bx : Nat) (v : Value) (A : World) : Prop := A.cell? ⟨bx, 0, none⟩ = some v ∧ PE A v
set_option maxRecDepth 100000 in
set_option maxHeartbeats 1000000 in
theorem seq0 (n : Nat) (hn : 3 ≤ n) (bx : Nat) (v : Value) : SeqTo Tryd.prog n 44 #[.pointer (some ⟨bx, 0, none⟩)] encP2 [] (KnE bx v) (fun A C => C = A) := by
  intro l J Jx W hst hk hY h0
  obtain ⟨hbx, hpe⟩ := hk _ _ h0
  have h1 : 1 ≤ n := by omega
  rcases hpe with rfl | ⟨b, rfl, hp⟩
  · refine callsIn_of_wp Tryd.func44 rfl trivial ?_ rfl
    simp only [Tryd.ntmps44, List.size_toArray, List.length_cons, List.length_nil, Nat.reduceAdd, Nat.reduceSub, Array.replicate_succ, Array.replicate_zero, List.push_toArray, List.append_toArray, List.nil_append, List.cons_append]
    gi_wp2
    refine bodyPost_ret (results_none rfl _ _ _) rfl ?_
    exact ⟨⟨_, rfl⟩, .inl ⟨W, h0, rfl⟩⟩
  · have hb := hp.c0
    refine callsIn_of_wp Tryd.func44 rfl trivial ?_ rfl
    simp only [Tryd.ntmps44, List.size_toArray, List.length_cons, List.length_nil, Nat.reduceAdd, Nat.reduceSub, Array.replicate_succ, Array.replicate_zero, List.push_toArray, List.append_toArray, List.nil_append, List.cons_append]
    gi_wp2
    gi_loopw [12] (fun i wr => i = .int .i64 0 ∧ wr = W) (fun _ _ => 0)
    case atStart => exact ⟨rfl, rfl⟩
    case round =>
      obtain ⟨rfl, rfl⟩ := hrel
      gi_wp2
      go_end0
      exact ⟨⟨_, rfl⟩, .inl ⟨_, h0, rfl⟩⟩
structure CntE (w : World) (v : Value) (A : World) : Prop where
  c : A.cell? ⟨w.heap.size, 0, none⟩ = some (.int .i64 0)
  kn : KnE (w.heap.size + 1) v A
  below : Below w.heap.size w A
theorem PE.calm {w w' : World} {v : Value} {B : Nat} (h : PE w v) (k : Calm B w w') : PE w' v := by
  rcases h with h | ⟨b, h, hp⟩
  · exact .inl h
  · exact .inr ⟨b, h, ⟨k.cell hp.c0, k.cell hp.c1, k.cell hp.c2, hp.hb, World.ownsRow_nil _ _ _ _, World.ownsRow_nil _ _ _ _, World.ownsRow_nil _ _ _ _, rfl, fun j u l hu => by simp at hu⟩⟩
theorem CntE.calm {w A C : World} {v : Value} (h : CntE w v A) {n : Nat} (hn : w.heap.size ≤ n) (k : Calm n A C) : CntE w v C :=
  ⟨k.cell h.c, ⟨k.cell h.kn.1, h.kn.2.calm k⟩, Calm.below h.below ⟨k.os, k.tape, k.output, k.size, k.cells, fun i hi => k.block i (by omega)⟩⟩
set_option maxRecDepth 100000 in
set_option maxHeartbeats 1000000 in
theorem count0 {w : World} {v : Value} (h : PE w v) (hv : ∃ a, v = .pointer a) : Calls Tryd.prog 24 #[v] w fun e w' => e = .returned (.int .i64 0) ∧ Below w.heap.size w w' := by
  obtain ⟨va, rfl⟩ := hv
  have H := Lib.hid h
  clear h
  refine (callsIn_wide (n := 9)).1 ?_
  have h1 : (1 : Nat) ≤ 9 := by omega
  refine callsIn_of_wp_marks Tryd.func24 rfl trivial ?_ rfl
  simp only [Tryd.ntmps24, List.size_toArray, List.length_cons, List.length_nil, Nat.reduceAdd, Nat.reduceSub, Array.replicate_succ, Array.replicate_zero, List.push_toArray, List.append_toArray, List.nil_append, List.cons_append]
  gi_wp2_with (refine ⟨trivial, ?_⟩; gi_at_call 29; refine (callsIn_wide.2 (all_any _ _)).mono ?_; rintro e w' ⟨rfl, rfl⟩)
  obtain ⟨w5, hw5⟩ : ∃ w5, w5 = ((w.alloc (.cells #[.int .i64 0] 3)).alloc (.cells #[.pointer va] 53)) := ⟨_, rfl⟩
  rw [← hw5]
  have hbel : Below w.heap.size w w5 := by rw [hw5]; exact Bel.al (Bel.new _ _) _
  have hI0 : CntE w (.pointer va) w5 := by
    refine ⟨?_, ⟨?_, H.out.below hbel⟩, hbel⟩ <;> (rw [hw5]; simp [go_sem])
  clear hw5
  refine range_to (gf := 44) (lb := #[.pointer (some ⟨w.heap.size + 1, 0, none⟩)]) rfl (enters_of Tryd.func44 (by kernel_rfl) rfl) (encs := encP2) (fun _ => rfl) [] _ _
    (seq0 8 (by omega) _ (.pointer va)) (fun A C h => by rw [h]; exact KeepsOthers.refl _)
    (fun _ A => CntE w (.pointer va) A) (fun _ _ => False) (fun d A C h k => h.calm hbel.size k) (fun _ _ _ h _ => h) (fun d A h => h.kn) hI0 (fun l' pre x rest W hx => by cases pre <;> cases hx) ?done (fun _ _ _ h _ _ => h.elim)
  case done =>
    rintro D W2 W3 W4 hi rfl hc hD hd
    rename_i K hK
    refine hK _ _ (wpIn_wide.2 ?_)
    have hi4 := hi.calm hbel.size hc
    have hc4 := hi4.c
    have HB := Lib.hid hi4.below
    have hk' := Calm.putObj (B := w.heap.size) W4 (.deferred none) hd rfl (by have := hbel.size; omega)
    clear hi hi4 hc
    have Hd := Lib.hid hd
    clear hd
    go_wp2
    refine ⟨by simp, .inl ⟨_, _, rfl, run_takeDeferred Hd.out, ?_⟩⟩
    exact ⟨.int .i64 0, by simp [results, Tryd.results24, go_sem], rfl, Calm.below HB.out hk'⟩
end Go.Proofs.YtofkamnmgpkehaaDoor
