import Derived.Test.YtofkamnmgpkehabRange
import Derived.Test.YtofkamnmgpkehabAim
/- procs.All and procs.Count. -/
namespace Go.Proofs.Ytofkamnmgpkehab
open Go.RowKit
attribute [local go_sem] Oper.semAt_some
def encP2 (x : Nat × (Nat × Nat × Nat)) : Array Value := #[.int .i64 x.1, procV x.2]
/-- The procedures with their numbers. -/
def nums (ps : List (Nat × Nat × Nat)) : List (Nat × (Nat × Nat × Nat)) := (List.range ps.length).map fun i => (i, ps.getD i (0, 0, 0))
theorem nums_length (ps : List (Nat × Nat × Nat)) : (nums ps).length = ps.length := by simp [nums]
theorem nums_at (ps : List (Nat × Nat × Nat)) (k : Nat) (hk : k < ps.length) : (nums ps)[k]? = some (k, ps.getD k (0, 0, 0)) := by
  unfold nums
  rw [List.getElem?_map, List.getElem?_range hk]
  rfl
theorem nums_take (ps : List (Nat × Nat × Nat)) (k : Nat) (hk : k < ps.length) : (nums ps).take (k + 1) = (nums ps).take k ++ [(k, ps.getD k (0, 0, 0))] := by
  rw [List.take_add_one, nums_at ps k hk]; rfl
theorem nums_split (ps : List (Nat × Nat × Nat)) (k : Nat) (hk : k < ps.length) : nums ps = (nums ps).take k ++ (k, ps.getD k (0, 0, 0)) :: (nums ps).drop (k + 1) := by
  have h := List.take_append_drop (k + 1) (nums ps)
  rw [nums_take ps k hk, List.append_assoc] at h
  exact h.symm
/-- What the iterator needs of the world. -/
def KnP (B bx b : Nat) (vp : Value) (ps : List (Nat × Nat × Nat)) (A : World) : Prop :=
  A.cell? ⟨bx, 0, none⟩ = some (.pointer (some ⟨b, 0, none⟩)) ∧ A.cell? ⟨b, 0, none⟩ = some vp ∧ A.ownsRow B 39 4 vp ps.length (encP ps)
set_option maxRecDepth 100000 in
set_option maxHeartbeats 4000000 in
theorem all1 (n : Nat) (hn : 3 ≤ n) (l B bx b : Nat) (vp : Value) (ps : List (Nat × Nat × Nat)) (J : List (Nat × (Nat × Nat × Nat)) → World → Prop) (Jx : World → Prop)
    (hstab : ∀ d A C, J d A → Below A.heap.size A C → J d C)
    (hJ : ∀ d W, J d W → KnP B bx b vp ps W)
    (hY : ∀ pre x rest W, nums ps = pre ++ x :: rest → J pre W → YieldAt Fence.wide (n - 1) Try.prog l (encP2 x) W fun e W' =>
      (e = .returned (.bool true) ∧ J (pre ++ [x]) W') ∨ (e = .returned (.bool false) ∧ Jx W'))
    (W : World) (h0 : J [] W) :
    CallsIn Fence.wide n Try.prog 43 #[.func (.yield l) #[] #[], .pointer (some ⟨bx, 0, none⟩)] W fun e W' => (∃ u, e = .returned u) ∧ ((∃ W2, J (nums ps) W2 ∧ W' = W2) ∨ Jx W') := by
  have h1 : 1 ≤ n := by omega
  obtain ⟨hbx, hb, hrow⟩ := hJ _ _ h0
  obtain ⟨ap, cp, rfl, hnc, hcm, hp⟩ := own_sl hrow
  have hm : ps.length ≤ 9223372036854775807 := by unfold maxLen at hcm; omega
  clear hrow hp
  refine callsIn_of_wp Try.func43 rfl trivial ?_ rfl
  simp only [Try.ntmps43, List.size_toArray, List.length_cons, List.length_nil, Nat.reduceAdd, Nat.reduceSub, Array.replicate_succ, Array.replicate_zero, List.push_toArray, List.append_toArray, List.nil_append, List.cons_append]
  gi_wp2
  obtain ⟨N, hNN⟩ : ∃ N, N = ps.length := ⟨_, rfl⟩
  have HN := Lib.hid hNN
  rw [← hNN] at hnc hm ⊢
  clear hNN hbx hb
  gi_loopw [12] (fun i wr => ∃ (k : Nat), k ≤ N ∧ i = .int .i64 k ∧ J ((nums ps).take k) wr) (fun i _ => N - (intOf i).toNat)
  case atStart => exact ⟨0, by omega, rfl, h0⟩
  case round =>
    obtain ⟨k, hk, rfl, hj⟩ := hrel
    by_cases hlt' : k < N
    · obtain ⟨hbx, hb, hrow⟩ := hJ _ _ hj
      obtain ⟨gp, cq, hvq, hgp, -⟩ := own_start hrow (by rw [← HN.out]; omega)
      cases hvq
      have hkl : k < ps.length := by rw [← HN.out]; exact hlt'
      obtain ⟨q0, q1, q2, q3⟩ := encP_at ps k hkl
      have hl4 := encP_length ps
      rw [← hrow.cellAt _ (by omega)] at q0 q1 q2 q3
      have hY' := fun W hW => hY _ _ _ W (nums_split ps k hkl) hW
      have htk := nums_take ps k hkl
      generalize ps.getD k (0, 0, 0) = pr at *
      obtain ⟨p0, p1, p2⟩ := pr
      simp only [encP2, procV] at *
      have Htk := Lib.hid htk
      have HY := Lib.hid hY'
      have Hj := Lib.hid hj
      have hki : (k : Int) < (N : Int) := by omega
      have hk0 : (0 : Int) ≤ (k : Int) := by omega
      clear htk hY' hrow hbx hb hl4 hkl hj
      obtain ⟨fn, tmps, assign, body, hy, hR⟩ := HY.out (wr.alloc (.cells #[.int .u32 p0, .int .u32 p1, .int .u32 p2, .int .i64 0] 39)) (hstab _ _ _ Hj.out (Bel.new _ _))
      gi_wp2
      refine hR.mono ?_
      rintro e W3 (⟨rfl, hJ3⟩ | ⟨rfl, hJx3⟩)
      · gi_wp2
        go_roundw
        case rel => exact ⟨k + 1, by omega, by go_num, by rw [Htk.out]; exact hJ3⟩
        case measure => simp [intOf]; omega
      · gi_wp2
        refine bodyPost_ret (results_none rfl _ _ _) rfl ?_
        exact ⟨⟨_, rfl⟩, .inr hJx3⟩
    · obtain rfl : k = N := by omega
      have hj2 : J (nums ps) wr := by
        rw [List.take_of_length_le (by rw [nums_length, ← HN.out]; exact Nat.le_refl _)] at hj
        exact hj
      clear hj
      gi_wp2
      go_end0
      exact ⟨⟨_, rfl⟩, .inl ⟨wr, hj2, rfl⟩⟩
theorem all_seq (n : Nat) (hn : 3 ≤ n) (B bx b : Nat) (vp : Value) (ps : List (Nat × Nat × Nat)) : SeqTo Try.prog n 43 #[.pointer (some ⟨bx, 0, none⟩)] encP2 (nums ps) (KnP B bx b vp ps) (fun A C => C = A) :=
  fun l J Jx W hst hk hY h0 => all1 n hn l B bx b vp ps J Jx hst hk hY W h0
set_option maxRecDepth 100000 in
/-- All boxes the pointer. -/
theorem all_any (a : Option Addr) (w : World) : Calls Try.prog 30 #[.pointer a] w fun r w' => r = .returned (.func (.func 43) #[] #[.pointer (some ⟨w.heap.size, 0, none⟩)]) ∧ w' = w.alloc (.cells #[.pointer a] 28) := by
  go_enter Try.func30, Try.ntmps30
  go_wp2
  go_ret
  exact ⟨rfl, rfl⟩
structure CntI (w : World) (B b : Nat) (vp : Value) (ps : List (Nat × Nat × Nat)) (d : List (Nat × (Nat × Nat × Nat))) (A : World) : Prop where
  c : A.cell? ⟨w.heap.size, 0, none⟩ = some (.int .i64 (d.length : Nat))
  f : A.frozen? ⟨w.heap.size, 0, none⟩ = false
  kn : KnP B (w.heap.size + 1) b vp ps A
  below : Below w.heap.size w A
  lt : w.heap.size + 2 ≤ A.heap.size
theorem CntI.calm {w A C : World} {B b : Nat} {vp : Value} {ps : List (Nat × Nat × Nat)} {d : List (Nat × (Nat × Nat × Nat))} (h : CntI w B b vp ps d A) {n : Nat} (hn : w.heap.size ≤ n) (k : Calm n A C) : CntI w B b vp ps d C :=
  ⟨k.cell h.c, (k.frozen h.c).trans h.f, ⟨k.cell h.kn.1, k.cell h.kn.2.1, k.own h.kn.2.2⟩, Calm.below h.below ⟨k.os, k.tape, k.output, k.size, k.cells, fun i hi => k.block i (by omega)⟩, Nat.le_trans h.lt k.size⟩
set_option maxRecDepth 100000 in
set_option maxHeartbeats 1000000 in
theorem count_any {w : World} {B b : Nat} {vp vo vt : Value} {ps : List (Nat × Nat × Nat)} {ofs : List Nat} {us : List Value} {ts : List (List Nat)} (h : PAt w B b vp vo vt ps ofs us ts) :
    Calls Try.prog 10 #[.pointer (some ⟨b, 0, none⟩)] w fun e w' => e = .returned (.int .i64 (ps.length : Nat)) ∧ Below w.heap.size w w' := by
  have H := Lib.hid h
  have hbl := World.block_lt_of_cell? _ _ h.c0
  have hlen : ps.length ≤ 9223372036854775807 := by
    obtain ⟨ap, cp, -, h1, h2, -⟩ := own_sl h.op
    unfold maxLen at h2; omega
  clear h
  refine (callsIn_wide (n := 9)).1 ?_
  have h1 : (1 : Nat) ≤ 9 := by omega
  refine callsIn_of_wp_marks Try.func10 rfl trivial ?_ rfl
  simp only [Try.ntmps10, List.size_toArray, List.length_cons, List.length_nil, Nat.reduceAdd, Nat.reduceSub, Array.replicate_succ, Array.replicate_zero, List.push_toArray, List.append_toArray, List.nil_append, List.cons_append]
  gi_wp2_with (refine ⟨trivial, ?_⟩; gi_at_call 30; refine (callsIn_wide.2 (all_any _ _)).mono ?_; rintro e w' ⟨rfl, rfl⟩)
  obtain ⟨w5, hw5⟩ : ∃ w5, w5 = ((w.alloc (.cells #[.int .i64 0] 3)).alloc (.cells #[.pointer (some ⟨b, 0, none⟩)] 28)) := ⟨_, rfl⟩
  rw [← hw5]
  have hbel : Below w.heap.size w w5 := by rw [hw5]; exact Bel.al (Bel.new _ _) _
  have hI0 : CntI w B b vp ps [] w5 := by
    have hp := H.out.below hbel
    refine ⟨?_, ?_, ⟨?_, hp.c0, hp.op⟩, hbel, ?_⟩ <;> (rw [hw5]; simp [go_sem])
  clear hw5
  refine range_to (gf := 43) (lb := #[.pointer (some ⟨w.heap.size + 1, 0, none⟩)]) rfl (enters_of Try.func43 (by kernel_rfl) rfl) (encs := encP2) (fun _ => rfl) (nums ps) _ _
    (all_seq 8 (by omega) B _ b vp ps) (fun A C h => by rw [h]; exact KeepsOthers.refl _)
    (CntI w B b vp ps) (fun _ _ => False) (fun d A C h k => h.calm hbel.size k) (fun _ _ _ h _ => h) (fun d A h => h.kn) hI0 ?round ?done (fun _ _ _ h _ _ => h.elim)
  case round =>
    rintro l' pre ⟨i, p0, p1, p2⟩ rest W hx hi hsz
    have hpl : pre.length < ps.length := by rw [← nums_length ps, hx]; simp
    simp only [encP2, procV]
    gi_wp2
    refine ⟨KeepsOthers.refl _, fun W2 hs2 hc2 => ?_⟩
    have hi2 := hi.calm hbel.size hc2
    have hc := hi2.c
    have hf := hi2.f
    have HI := Lib.hid hi2
    have hlt : w.heap.size < W2.heap.size := World.block_lt_of_cell? _ _ hc
    clear hi hi2 hc2 hx
    gi_wp2
    have hi2 := HI.out
    have hnv : vp.ownBlock ≠ some w.heap.size := fun e => by have := (H.out.op.lt _ e).2; omega
    refine ⟨KeepsOthers.setCell _ _ _, ⟨?_, ?_, ⟨?_, ?_, ?_⟩, ?_, ?_⟩⟩
    · rw [List.length_append]
      exact World.cell?_setCell_same' _ _ _ (by rw [hc]; rfl)
    · rw [World.frozen?_setCell]; exact hf
    · exact (World.cell?_of_block (Below.heap_setCell _ _ _ _ (by show w.heap.size + 1 ≠ w.heap.size; omega))).trans hi2.kn.1
    · exact (World.cell?_of_block (Below.heap_setCell _ _ _ _ (by show b ≠ w.heap.size; omega))).trans hi2.kn.2.1
    · exact ownsRow_setCell_other hi2.kn.2.2 hnv _
    · exact hi2.below.setCell (p := ⟨w.heap.size, 0, none⟩) (Nat.le_refl _) _
    · have := hi2.lt
      rw [World.size_setCell]; exact this
  case done =>
    rintro D W2 W3 W4 hi rfl hc hD hd
    rename_i K hK
    refine hK _ _ (wpIn_wide.2 ?_)
    have hi4 := hi.calm hbel.size hc
    have hc4 := hi4.c
    rw [nums_length] at hc4
    have HB := Lib.hid hi4.below
    have hk' := Calm.putObj (B := w.heap.size) W4 (.deferred none) hd rfl (by have := hbel.size; omega)
    clear hi hi4 hc
    have Hd := Lib.hid hd
    clear hd
    go_wp2
    refine ⟨by simp, .inl ⟨_, _, rfl, run_takeDeferred Hd.out, ?_⟩⟩
    exact ⟨.int .i64 (ps.length : Nat), by simp [results, Try.results10, go_sem], rfl, Calm.below HB.out hk'⟩
end Go.Proofs.Ytofkamnmgpkehab
