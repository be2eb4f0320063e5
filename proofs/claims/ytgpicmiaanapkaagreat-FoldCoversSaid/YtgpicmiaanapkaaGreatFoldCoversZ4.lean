import Derived.Test.YtgpicmiaanapkaaGreatFoldCoversZ3
import Derived.Test.YtgpicmiaanapkaaGreatFoldCoversZ1
import Derived.Test.YtgpicmiaanapkaaGreatFoldCoversZ2
import Derived.Lib.Walk
import Derived.WalkLawsBesides
/- procs.All and procs.Count. -/
namespace Go.Proofs.YtgpicmiaanapkaaGreat
open Go.RowKit
attribute [local go_sem] Oper.semAt_some
def encP2 (x : Nat × (Nat × Nat × Nat)) : Array Value := #[.int .i64 x.1, procV x.2]
/-- The procedures with their numbers. -/
def nums (ps : List (Nat × Nat × Nat)) : List (Nat × (Nat × Nat × Nat)) := (List.range ps.length).map fun i => (i, ps.getD i (0, 0, 0))
theorem nums_length (ps : List (Nat × Nat × Nat)) : (nums ps).length = ps.length := by simp [nums]
theorem nums_at (ps : List (Nat × Nat × Nat)) (k : Nat) (hk : k < ps.length) : (nums ps)[k]? = some (k, ps.getD k (0, 0, 0)) := by
  unfold nums
  rw [List.getElem?_map, List.getElem?_range hk]
  rfl
theorem nums_take (ps : List (Nat × Nat × Nat)) (k : Nat) (hk : k < ps.length) : (nums ps).take (k + 1) = (nums ps).take k ++ [(k, ps.getD k (0, 0, 0))] := by
  rw [List.take_add_one, nums_at ps k hk]; rfl
theorem nums_split (ps : List (Nat × Nat × Nat)) (k : Nat) (hk : k < ps.length) : nums ps = (nums ps).take k ++ (k, ps.getD k (0, 0, 0)) :: (nums ps).drop (k + 1) := by
  have h := List.take_append_drop (k + 1) (nums ps)
  rw [nums_take ps k hk, List.append_assoc] at h
  exact h.symm
/-- What the iterator needs of the world. -/
def KnP (B bx b : Nat) (vp : Value) (ps : List (Nat × Nat × Nat)) (A : World) : Prop :=
  A.cell? ⟨bx, 0, none⟩ = some (.pointer (some ⟨b, 0, none⟩)) ∧ A.cell? ⟨b, 0, none⟩ = some vp ∧ A.ownsRow B 259 4 vp ps.length (encP ps)
set_option maxRecDepth 100000 in
set_option maxHeartbeats 4000000 in
theorem all1 (n : Nat) (hn : 3 ≤ n) (l B bx b : Nat) (vp : Value) (ps : List (Nat × Nat × Nat)) (J : List (Nat × (Nat × Nat × Nat)) → World → Prop) (Jx : World → Prop)
    (hstab : ∀ d A C, J d A → Below A.heap.size A C → J d C)
    (hJ : ∀ d W, J d W → KnP B bx b vp ps W)
    (hY : ∀ pre x rest W, nums ps = pre ++ x :: rest → J pre W → YieldAt Fence.wide (n - 1) Tryz.prog l (encP2 x) W fun e W' =>
      (e = .returned (.bool true) ∧ J (pre ++ [x]) W') ∨ (e = .returned (.bool false) ∧ Jx W'))
    (W : World) (h0 : J [] W) :
    CallsIn Fence.wide n Tryz.prog 434 #[.func (.yield l) #[] #[], .pointer (some ⟨bx, 0, none⟩)] W fun e W' => (∃ u, e = .returned u) ∧ ((∃ W2, J (nums ps) W2 ∧ W' = W2) ∨ Jx W') := by
  have h1 : 1 ≤ n := by omega
  obtain ⟨hbx, hb, hrow⟩ := hJ _ _ h0
  obtain ⟨ap, cp, rfl, hnc, hcm, hp⟩ := own_sl hrow
  have hm : ps.length ≤ 9223372036854775807 := by unfold maxLen at hcm; omega
  clear hrow hp
  refine callsIn_of_wp Tryz.func434 rfl trivial ?_ rfl
  simp only [Tryz.ntmps434, List.size_toArray, List.length_cons, List.length_nil, Nat.reduceAdd, Nat.reduceSub, Array.replicate_succ, Array.replicate_zero, List.push_toArray, List.append_toArray, List.nil_append, List.cons_append]
  gi_wp2
  obtain ⟨N, hNN⟩ : ∃ N, N = ps.length := ⟨_, rfl⟩
  have HN := Lib.hid hNN
  rw [← hNN] at hnc hm ⊢
  clear hNN hbx hb
  gi_loopw [12] (fun i wr => ∃ (k : Nat), k ≤ N ∧ i = .int .i64 k ∧ J ((nums ps).take k) wr) (fun i _ => N - (intOf i).toNat)
  case atStart => exact ⟨0, by omega, rfl, h0⟩
  case round =>
    obtain ⟨k, hk, rfl, hj⟩ := hrel
    by_cases hlt' : k < N
    · obtain ⟨hbx, hb, hrow⟩ := hJ _ _ hj
      obtain ⟨gp, cq, hvq, hgp, -⟩ := own_start hrow (by rw [← HN.out]; omega)
      cases hvq
      have hkl : k < ps.length := by rw [← HN.out]; exact hlt'
      obtain ⟨q0, q1, q2, q3⟩ := encP_at ps k hkl
      have hl4 := encP_length ps
      rw [← hrow.cellAt _ (by omega)] at q0 q1 q2 q3
      have hY' := fun W hW => hY _ _ _ W (nums_split ps k hkl) hW
      have htk := nums_take ps k hkl
      generalize ps.getD k (0, 0, 0) = pr at *
      obtain ⟨p0, p1, p2⟩ := pr
      simp only [encP2, procV] at *
      have Htk := Lib.hid htk
      have HY := Lib.hid hY'
      have Hj := Lib.hid hj
      have hki : (k : Int) < (N : Int) := by omega
      have hk0 : (0 : Int) ≤ (k : Int) := by omega
      clear htk hY' hrow hbx hb hl4 hkl hj
      obtain ⟨fn, tmps, assign, body, hy, hR⟩ := HY.out (wr.alloc (.cells #[.int .u32 p0, .int .u32 p1, .int .u32 p2, .int .i64 0] 259)) (hstab _ _ _ Hj.out (Bel.new _ _))
      gi_wp2
      refine hR.mono ?_
      rintro e W3 (⟨rfl, hJ3⟩ | ⟨rfl, hJx3⟩)
      · gi_wp2
        go_roundw
        case rel => exact ⟨k + 1, by omega, by go_num, by rw [Htk.out]; exact hJ3⟩
        case measure => simp [intOf]; omega
      · gi_wp2
        refine bodyPost_ret (results_none rfl _ _ _) rfl ?_
        exact ⟨⟨_, rfl⟩, .inr hJx3⟩
    · obtain rfl : k = N := by omega
      have hj2 : J (nums ps) wr := by
        rw [List.take_of_length_le (by rw [nums_length, ← HN.out]; exact Nat.le_refl _)] at hj
        exact hj
      clear hj
      gi_wp2
      go_end0
      exact ⟨⟨_, rfl⟩, .inl ⟨wr, hj2, rfl⟩⟩
theorem all_seq (n : Nat) (hn : 3 ≤ n) (B bx b : Nat) (vp : Value) (ps : List (Nat × Nat × Nat)) : SeqTo Tryz.prog n 434 #[.pointer (some ⟨bx, 0, none⟩)] encP2 (nums ps) (KnP B bx b vp ps) (fun A C => C = A) :=
  fun l J Jx W hst hk hY h0 => all1 n hn l B bx b vp ps J Jx hst hk hY W h0
set_option maxRecDepth 100000 in
/-- All boxes the pointer. -/
theorem all_any (a : Option Addr) (w : World) : Calls Tryz.prog 371 #[.pointer a] w fun r w' => r = .returned (.func (.func 434) #[] #[.pointer (some ⟨w.heap.size, 0, none⟩)]) ∧ w' = w.alloc (.cells #[.pointer a] 226) := by
  go_enter Tryz.func371, Tryz.ntmps371
  go_wp2
  go_ret
  exact ⟨rfl, rfl⟩
structure CntI (w : World) (B b : Nat) (vp : Value) (ps : List (Nat × Nat × Nat)) (d : List (Nat × (Nat × Nat × Nat))) (A : World) : Prop where
  c : A.cell? ⟨w.heap.size, 0, none⟩ = some (.int .i64 (d.length : Nat))
  f : A.frozen? ⟨w.heap.size, 0, none⟩ = false
  kn : KnP B (w.heap.size + 1) b vp ps A
  below : Below w.heap.size w A
  lt : w.heap.size + 2 ≤ A.heap.size
theorem CntI.calm {w A C : World} {B b : Nat} {vp : Value} {ps : List (Nat × Nat × Nat)} {d : List (Nat × (Nat × Nat × Nat))} (h : CntI w B b vp ps d A) {n : Nat} (hn : w.heap.size ≤ n) (k : Calm n A C) : CntI w B b vp ps d C :=
  ⟨k.cell h.c, (k.frozen h.c).trans h.f, ⟨k.cell h.kn.1, k.cell h.kn.2.1, k.own h.kn.2.2⟩, Calm.below h.below ⟨k.os, k.tape, k.output, k.size, k.cells, fun i hi => k.block i (by omega)⟩, Nat.le_trans h.lt k.size⟩
set_option maxRecDepth 100000 in
set_option maxHeartbeats 1000000 in
theorem count_any {w : World} {B b : Nat} {vp vo vt : Value} {ps : List (Nat × Nat × Nat)} {ofs : List Nat} {us : List Value} {ts : List (List Nat)} (h : PAt w B b vp vo vt ps ofs us ts) :
    Calls Tryz.prog 346 #[.pointer (some ⟨b, 0, none⟩)] w fun e w' => e = .returned (.int .i64 (ps.length : Nat)) ∧ Below w.heap.size w w' := by
  have H := Lib.hid h
  have hbl := World.block_lt_of_cell? _ _ h.c0
  have hlen : ps.length ≤ 9223372036854775807 := by
    obtain ⟨ap, cp, -, h1, h2, -⟩ := own_sl h.op
    unfold maxLen at h2; omega
  clear h
  refine (callsIn_wide (n := 9)).1 ?_
  have h1 : (1 : Nat) ≤ 9 := by omega
  refine callsIn_of_wp_marks Tryz.func346 rfl trivial ?_ rfl
  simp only [Tryz.ntmps346, List.size_toArray, List.length_cons, List.length_nil, Nat.reduceAdd, Nat.reduceSub, Array.replicate_succ, Array.replicate_zero, List.push_toArray, List.append_toArray, List.nil_append, List.cons_append]
  gi_wp2_with (refine ⟨trivial, ?_⟩; gi_at_call 371; refine (callsIn_wide.2 (all_any _ _)).mono ?_; rintro e w' ⟨rfl, rfl⟩)
  obtain ⟨w5, hw5⟩ : ∃ w5, w5 = ((w.alloc (.cells #[.int .i64 0] 3)).alloc (.cells #[.pointer (some ⟨b, 0, none⟩)] 226)) := ⟨_, rfl⟩
  rw [← hw5]
  have hbel : Below w.heap.size w w5 := by rw [hw5]; exact Bel.al (Bel.new _ _) _
  have hI0 : CntI w B b vp ps [] w5 := by
    have hp := H.out.below hbel
    refine ⟨?_, ?_, ⟨?_, hp.c0, hp.op⟩, hbel, ?_⟩ <;> (rw [hw5]; simp [go_sem])
  clear hw5
  refine range_to (gf := 434) (lb := #[.pointer (some ⟨w.heap.size + 1, 0, none⟩)]) rfl (enters_of Tryz.func434 (by kernel_rfl) rfl) (encs := encP2) (fun _ => rfl) (nums ps) _ _
    (all_seq 8 (by omega) B _ b vp ps) (fun A C h => by rw [h]; exact KeepsOthers.refl _)
    (CntI w B b vp ps) (fun _ _ => False) (fun d A C h k => h.calm hbel.size k) (fun _ _ _ h _ => h) (fun d A h => h.kn) hI0 ?round ?done (fun _ _ _ h _ _ => h.elim)
  case round =>
    rintro l' pre ⟨i, p0, p1, p2⟩ rest W hx hi hsz
    have hpl : pre.length < ps.length := by rw [← nums_length ps, hx]; simp
    simp only [encP2, procV]
    gi_wp2
    refine ⟨KeepsOthers.refl _, fun W2 hs2 hc2 => ?_⟩
    have hi2 := hi.calm hbel.size hc2
    have hc := hi2.c
    have hf := hi2.f
    have HI := Lib.hid hi2
    have hlt : w.heap.size < W2.heap.size := World.block_lt_of_cell? _ _ hc
    clear hi hi2 hc2 hx
    gi_wp2
    have hi2 := HI.out
    have hnv : vp.ownBlock ≠ some w.heap.size := fun e => by have := (H.out.op.lt _ e).2; omega
    refine ⟨KeepsOthers.setCell _ _ _, ⟨?_, ?_, ⟨?_, ?_, ?_⟩, ?_, ?_⟩⟩
    · rw [List.length_append]
      exact World.cell?_setCell_same' _ _ _ (by rw [hc]; rfl)
    · rw [World.frozen?_setCell]; exact hf
    · exact (World.cell?_of_block (Below.heap_setCell _ _ _ _ (by show w.heap.size + 1 ≠ w.heap.size; omega))).trans hi2.kn.1
    · exact (World.cell?_of_block (Below.heap_setCell _ _ _ _ (by show b ≠ w.heap.size; omega))).trans hi2.kn.2.1
    · exact ownsRow_setCell_other hi2.kn.2.2 hnv _
    · exact hi2.below.setCell (p := ⟨w.heap.size, 0, none⟩) (Nat.le_refl _) _
    · have := hi2.lt
      rw [World.size_setCell]; exact this
  case done =>
    rintro D W2 W3 W4 hi rfl hc hD hd
    rename_i K hK
    refine hK _ _ (wpIn_wide.2 ?_)
    have hi4 := hi.calm hbel.size hc
    have hc4 := hi4.c
    rw [nums_length] at hc4
    have HB := Lib.hid hi4.below
    have hk' := Calm.putObj (B := w.heap.size) W4 (.deferred none) hd rfl (by have := hbel.size; omega)
    clear hi hi4 hc
    have Hd := Lib.hid hd
    clear hd
    go_wp2
    refine ⟨by simp, .inl ⟨_, _, rfl, run_takeDeferred Hd.out, ?_⟩⟩
    exact ⟨.int .i64 (ps.length : Nat), by simp [results, Tryz.results346, go_sem], rfl, Calm.below HB.out hk'⟩
end Go.Proofs.YtgpicmiaanapkaaGreat
/- slices.BinarySearch of words; procs.Legal. -/
namespace Go.Proofs.YtgpicmiaanapkaaGreat
open Go.RowKit
set_option maxRecDepth 100000 in
theorem nanC_any (x : Int) (w : World) : Calls Tryz.prog 560 #[.int .u32 x] w fun e w' => e = .returned (.bool false) ∧ w' = w := by
  go_enter Tryz.func560, Tryz.ntmps560
  go_wp2
  go_ret
  exact ⟨by simp, rfl⟩
set_option maxRecDepth 100000 in
theorem nanS_any (x : Int) (w : World) : Calls Tryz.prog 541 #[.int .u32 x] w fun e w' => e = .returned (.bool false) ∧ w' = w := by
  go_enter Tryz.func541, Tryz.ntmps541
  go_wp2
  go_ret
  exact ⟨by simp, rfl⟩
set_option maxRecDepth 100000 in
theorem less_any (x y : Nat) (w : World) : Calls Tryz.prog 540 #[.int .u32 x, .int .u32 y] w fun e w' => e = .returned (.bool (decide (x < y))) ∧ w' = w := by
  go_enter Tryz.func540, Tryz.ntmps540
  go_wp2_with (go_at_call 560; refine (nanC_any _ _).mono ?_; rintro e w' ⟨rfl, rfl⟩)
  go_ret
  exact ⟨by simp, rfl⟩
theorem sorted_le {l : List Nat} (h : l.Pairwise (· < ·)) : ∀ a b, a ≤ b → b < l.length → l.getD a 0 ≤ l.getD b 0 := by
  intro a b hab hb
  rcases Nat.lt_or_eq_of_le hab with h1 | rfl
  · have := List.pairwise_iff_getElem.1 h a b (by omega) hb h1
    rw [List.getD_eq_getElem?_getD, List.getD_eq_getElem?_getD, List.getElem?_eq_getElem (by omega), List.getElem?_eq_getElem hb]
    exact Nat.le_of_lt this
  · exact Nat.le_refl _
theorem contains_at {l : List Nat} {i x : Nat} (hi : i ≤ l.length) (h1 : ∀ j, j < i → l.getD j 0 < x) (h2 : ∀ j, i ≤ j → j < l.length → x ≤ l.getD j 0) (hs : ∀ a b, a ≤ b → b < l.length → l.getD a 0 ≤ l.getD b 0) :
    decide (x ∈ l) = decide (i < l.length ∧ l.getD i 0 = x) := by
  have key : x ∈ l ↔ (i < l.length ∧ l.getD i 0 = x) := by
    constructor
    · intro hx
      obtain ⟨j, hj, e⟩ := List.getElem_of_mem hx
      have ej : l.getD j 0 = x := by rw [List.getD_eq_getElem?_getD, List.getElem?_eq_getElem hj]; exact e
      have hij : i ≤ j := by
        rcases Nat.lt_or_ge j i with h | h
        · have := h1 j h; omega
        · exact h
      have hil : i < l.length := by omega
      have := h2 i (Nat.le_refl _) hil
      have := hs i j hij hj
      exact ⟨hil, by omega⟩
    · rintro ⟨hil, e⟩
      rw [← e, List.getD_eq_getElem?_getD, List.getElem?_eq_getElem hil]
      exact List.getElem_mem hil
  exact decide_eq_decide.2 key
set_option maxRecDepth 100000 in
set_option maxHeartbeats 4000000 in
theorem search_any {w : World} {B : Nat} {v : Value} {l : List Nat} (h : w.ownsRow B 25 1 v l.length (encN .u32 l)) (hso : l.Pairwise (· < ·)) (hl16 : l.length ≤ 16384) (x : Nat) :
    Calls Tryz.prog 517 #[v, .int .u32 x] w fun e w' => (∃ p : Nat, e = .returned (.tuple #[.int .i64 p, .bool (decide (x ∈ l))])) ∧ w' = w := by
  obtain ⟨a, c, rfl, hnc, hcm, hp⟩ := own_sl h
  have hbig : l.length ≤ 16384 := hl16
  clear hl16
  have S := Lib.hid (sorted_le hso)
  have Hp := Lib.hid hp
  clear hp hso h
  obtain ⟨n, hnn⟩ : ∃ n, n = l.length := ⟨_, rfl⟩
  have HN := Lib.hid hnn
  rw [← hnn] at hnc hbig ⊢
  clear hnn
  go_enter Tryz.func517, Tryz.ntmps517
  go_wp2
  go_loopg [7, 8] n (fun g s7 s8 wr => ∃ lo hi : Nat, s7 = .int .i64 lo ∧ s8 = .int .i64 hi ∧ lo ≤ hi ∧ hi ≤ n ∧ hi - lo ≤ g ∧ wr = w ∧ (∀ t, t < lo → l.getD t 0 < x) ∧ (∀ t, hi ≤ t → t < n → x ≤ l.getD t 0))
  case atStart => exact ⟨0, n, rfl, rfl, Nat.zero_le _, Nat.le_refl _, by omega, rfl, fun t ht => absurd ht (Nat.not_lt_zero _), fun t h1 h2 => by omega⟩
  case round =>
    obtain ⟨lo, hi, rfl, rfl, hlh, hin, hg, rfl, h1, h2⟩ := hrel
    have I := Lib.hid (show (∀ t, t < lo → l.getD t 0 < x) ∧ (∀ t, hi ≤ t → t < n → x ≤ l.getD t 0) from ⟨h1, h2⟩)
    clear h1 h2
    by_cases hlt : lo < hi
    · obtain ⟨b, rfl, hb, hc⟩ := Hp.out (by rw [← HN.out]; omega)
      have cm := hc ((lo + hi) / 2) (by rw [encN_length, ← HN.out]; omega)
      rw [encN_at _ _ _ (by rw [← HN.out]; omega)] at cm
      clear hc
      obtain ⟨y, hy⟩ : ∃ y, y = l.getD ((lo + hi) / 2) 0 := ⟨_, rfl⟩
      rw [← hy] at cm
      have Y := Lib.hid hy
      clear hy
      have SS := S.out
      rw [← HN.out] at SS
      by_cases hyx : y < x
      · have hd := decide_eq_true hyx
        have S2 := Lib.hid SS
        clear SS
        go_wp2_with (go_at_call 540; refine (less_any _ _ _).mono ?_; rintro e w' ⟨rfl, rfl⟩)
        go_roundg (hi - ((lo + hi) / 2 + 1))
        case measure => omega
        case rel =>
          refine ⟨(lo + hi) / 2 + 1, hi, by rw [show ((lo : Int) + (hi : Int)) / 2 + 1 = (((lo + hi) / 2 + 1 : Nat) : Int) by omega], rfl, by omega, hin, Nat.le_refl _, rfl, fun t ht => ?_, I.out.2⟩
          have := S2.out t ((lo + hi) / 2) (by omega) (by omega)
          rw [← Y.out] at this
          omega
      · have hd := decide_eq_false hyx
        have S2 := Lib.hid SS
        clear SS
        go_wp2_with (go_at_call 540; refine (less_any _ _ _).mono ?_; rintro e w' ⟨rfl, rfl⟩)
        go_roundg ((lo + hi) / 2 - lo)
        case measure => omega
        case rel =>
          refine ⟨lo, (lo + hi) / 2, rfl, by rw [show ((lo : Int) + (hi : Int)) / 2 = (((lo + hi) / 2 : Nat) : Int) by omega], by omega, by omega, Nat.le_refl _, rfl, I.out.1, fun t ht htn => ?_⟩
          have := S2.out ((lo + hi) / 2) t ht htn
          rw [← Y.out] at this
          omega
    · have : hi = lo := by omega
      subst this
      have E := Lib.hid (contains_at (l := l) (i := hi) (x := x) (by rw [← HN.out]; exact hin) I.out.1 (fun j h1 h2 => I.out.2 j h1 (by rw [HN.out]; exact h2)) S.out)
      by_cases hn : hi < n
      · obtain ⟨b, rfl, hb, hc⟩ := Hp.out (by rw [← HN.out]; omega)
        have cl := hc hi (by rw [encN_length, ← HN.out]; omega)
        rw [encN_at _ _ _ (by rw [← HN.out]; omega)] at cl
        clear hc
        obtain ⟨y, hy⟩ : ∃ y, y = l.getD hi 0 := ⟨_, rfl⟩
        rw [← hy] at cl
        have Y := Lib.hid hy
        clear hy
        by_cases hyx : y = x
        · have hd : ((y : Int) == (x : Int)) = true := by simp; omega
          go_wp2_with (go_at_call 541; refine (nanS_any _ _).mono ?_; rintro e w' ⟨rfl, rfl⟩)
          exact bodyPost_ret (v := .tuple #[.int .i64 (hi : Nat), .bool (decide (x ∈ l))]) (by rw [E.out, ← Y.out, decide_eq_true ⟨by rw [← HN.out]; exact hn, hyx⟩]; simp [results, Tryz.results517, go_sem]) rfl ⟨⟨_, rfl⟩, rfl⟩
        · have hd : ((y : Int) == (x : Int)) = false := by simp; omega
          go_wp2_with (go_at_call 541; refine (nanS_any _ _).mono ?_; rintro e w' ⟨rfl, rfl⟩)
          exact bodyPost_ret (v := .tuple #[.int .i64 (hi : Nat), .bool (decide (x ∈ l))]) (by rw [E.out, ← Y.out, decide_eq_false (fun h => hyx h.2)]; simp [results, Tryz.results517, go_sem]) rfl ⟨⟨_, rfl⟩, rfl⟩
      · have hd : ¬ (hi : Int) < (n : Int) := by omega
        go_wp2_with (go_at_call 541; refine (nanS_any _ _).mono ?_; rintro e w' ⟨rfl, rfl⟩)
        exact bodyPost_ret (v := .tuple #[.int .i64 (hi : Nat), .bool (decide (x ∈ l))]) (by rw [E.out, decide_eq_false (fun h => hn (by rw [HN.out]; exact h.1))]; simp [results, Tryz.results517, go_sem]) rfl ⟨⟨_, rfl⟩, rfl⟩
set_option maxRecDepth 100000 in
set_option maxHeartbeats 1000000 in
/-- Legal: the target is in the list of the procedure that holds the jump. -/
theorem legal_any {w : World} {B b : Nat} {vp vo vt : Value} {ps : List (Nat × Nat × Nat)} {ofs : List Nat} {us : List Value} {ts : List (List Nat)} (h : PAt w B b vp vo vt ps ofs us ts) (hof : ∀ x, x < ofs.length → ofs.getD x 0 < ts.length)
    (hso : ∀ j, (ts.getD j []).Pairwise (· < ·)) (hln : ∀ j, (ts.getD j []).length ≤ 16384) (x y : Nat) (hx : x < 4294967296) :
    Calls Tryz.prog 470 #[.pointer (some ⟨b, 0, none⟩), .int .u32 x, .int .u32 y] w fun e w' => e = .returned (.bool (decide (x < ofs.length) && decide (y ∈ ts.getD (ofs.getD x 0) []))) ∧ w' = w := by
  have h1 := of_any h x hx
  unfold ofN at h1
  by_cases hlt : x < ofs.length
  · rw [if_pos hlt] at h1
    have hr := hof x hlt
    have hc2 := h.c2
    have hul : us.length = ts.length := h.ul
    obtain ⟨q, cv, hvt, -, -⟩ := own_start h.ot (by omega)
    subst hvt
    obtain ⟨u, hu⟩ : ∃ u, us[ofs.getD x 0]? = some u := ⟨_, List.getElem?_eq_getElem (by omega)⟩
    have hqc : w.cell? ⟨q, ofs.getD x 0, none⟩ = some u := by rw [h.ot.cellAt (ofs.getD x 0) (by omega)]; exact hu
    have hl2 : ts[ofs.getD x 0]? = some (ts.getD (ofs.getD x 0) []) := getD_at _ _ _ hr
    have hou := h.ou (ofs.getD x 0) u _ hu hl2
    have hs := search_any hou (hso _) (hln _) y
    rw [hul] at hc2
    have hd0 : decide (x < ofs.length) = true := decide_eq_true hlt
    rw [hd0]
    generalize ofs.getD x 0 = r at *
    generalize decide (y ∈ ts.getD r []) = bv at *
    have H1 := Lib.hid h1
    have H2 := Lib.hid hs
    have hr0 : (0 : Int) ≤ (r : Int) := by omega
    have hr1 : (r : Int) < (ts.length : Int) := by omega
    clear h h1 hs hof hou hl2 hu hul hso hln hd0
    go_enter Tryz.func470, Tryz.ntmps470
    go_wp2_with fail
    refine H1.out.mono ?_
    rintro e w1 ⟨rfl, rfl⟩
    go_wp2_with fail
    refine H2.out.mono ?_
    rintro e w2 ⟨⟨p, rfl⟩, rfl⟩
    clear H1 H2
    go_wp2
    go_ret
    exact ⟨by simp, rfl⟩
  · rw [if_neg hlt] at h1
    have hd0 : decide (x < ofs.length) = false := decide_eq_false hlt
    rw [hd0]
    have H1 := Lib.hid h1
    clear h h1 hof hso hln hd0
    go_enter Tryz.func470, Tryz.ntmps470
    go_wp2_with fail
    refine H1.out.mono ?_
    rintro e w1 ⟨rfl, rfl⟩
    clear H1
    go_wp2
    go_ret
    exact ⟨by simp, rfl⟩
end Go.Proofs.YtgpicmiaanapkaaGreat
/- slices.Clone of words; procs.Targets. -/
namespace Go.Proofs.YtgpicmiaanapkaaGreat
open Go.RowKit
theorem run_bs23_0 (w : World) : (Instr.buildSlice 23 0 #[]).run Tryz.prog w = .ok (.slice (some ⟨w.heap.size, 0, none⟩) 0 0) (w.alloc (.cells #[] 25)) := by kernel_rfl
theorem own_empty (w : World) (t : TypeId) (sz : Nat) : (w.alloc (.cells #[] t)).ownsRow 0 t sz (.slice (some ⟨w.heap.size, 0, none⟩) 0 0) 0 [] :=
  ⟨by simp, .inr ⟨w.heap.size, 0, #[], rfl, Nat.zero_le _, World.alloc_heap_new w _, Nat.le_refl _, Nat.zero_le _, by simp, by simp⟩⟩
set_option maxRecDepth 100000 in
set_option maxHeartbeats 1000000 in
theorem clone_any (u : Value) (l : List Nat) (hl : l.length ≤ 16384) (w : World) (hu : Reads w 1 u l.length (encN .u32 l)) :
    Calls Tryz.prog 115 #[u] w fun e w' => ∃ v, e = .returned v ∧ w'.ownsRow w.heap.size 25 1 v l.length (encN .u32 l) ∧ Below w.heap.size w w' := by
  obtain ⟨i0, hi, hz0, hz1, hz2⟩ := info_parts info32
  have hb := run_bs23_0
  have q23 : ∀ (w : World) (a : Option Addr) (n c n' c' : Nat), (binOp .eql 23 (.slice a n c) (.slice none n' c')).run Tryz.prog w = .ok (.bool a.isNone) w := fun w a n c n' c' => Lib.run_eql_slice_nil w _ _ a n c n' c' Tryz.underlying23
  obtain ⟨a, cap, rfl, h1, h2, h3, hn, hp⟩ := hu
  cases a with
  | none =>
    obtain rfl := hn rfl
    have h0 : l.length = 0 := by omega
    obtain rfl : l = [] := List.eq_nil_of_length_eq_zero h0
    clear hp hn h1
    go_enter Tryz.func115, Tryz.ntmps115
    go_wp2
    exact bodyPost_ret (v := .slice none 0 0) (by simp [results, Tryz.results115, go_sem]) rfl ⟨_, rfl, World.ownsRow_nil _ _ _ _, Below.refl _ _⟩
  | some ad =>
    have Hu := Lib.hid (show Reads (w.alloc (.cells #[] 25)) 1 (.slice (some ad) l.length cap) l.length (encN .u32 l) from Reads.below ⟨some ad, cap, rfl, h1, h2, h3, hn, hp⟩ (Bel.new _ _))
    have Hone := Lib.hid (encN_one .u32 l)
    have Hoe := Lib.hid (own_empty w 25 1)
    clear hp hn h1
    go_enter Tryz.func115, Tryz.ntmps115
    go_wp2_with ((with_reducible refine wpList_append_reads (o := ⟨some 7, .call { callee := .builtin .append, args := #[.tmp 5, .tmp 6], argTypes := #[23, 23] }, _, _, _, none⟩) rfl _ _ 23 rfl 25 i0 (.int .u32 0) 1 4 Tryz.underlying23 hi hz0 hz1 hz2 ?_ ?_ _ 0 [] ?_ Hoe.out _ l.length (encN .u32 l) ?_ Hu.out Hone.out ?_ ?_ ?_); rfl; decide; rfl; rfl; (unfold maxLen; omega); omega; intro v1 w1 o1 g1)
    have hx : w1.ownsRow w.heap.size 25 1 v1 l.length (encN .u32 l) := by
      have := own_from o1 (B := w.heap.size) (fun g e => by
        rcases g1.2 g e with h' | h'
        · cases h'; exact Nat.le_refl _
        · simp at h'; omega)
      simpa using this
    have hbw : Below w.heap.size w w1 := (Bel.new w (.cells #[] 25)).grown g1.1 (by simp) (fun g e => by cases e; exact Nat.le_refl _)
    exact bodyPost_ret (v := v1) (by simp [results, Tryz.results115, go_sem]) rfl ⟨_, rfl, hx, hbw⟩
def tgtsAt (n : Nat) (ts : List (List Nat)) (i : Int) : List Nat := if 0 ≤ i ∧ i < n then ts.getD i.toNat [] else []
set_option maxRecDepth 100000 in
set_option maxHeartbeats 1000000 in
theorem targets_any {w : World} {B b : Nat} {vp vo vt : Value} {ps : List (Nat × Nat × Nat)} {ofs : List Nat} {us : List Value} {ts : List (List Nat)} (h : PAt w B b vp vo vt ps ofs us ts) (hpt : ts.length = ps.length)
    (hln : ∀ j, (ts.getD j []).length ≤ 16384) (i : Int) :
    Calls Tryz.prog 487 #[.pointer (some ⟨b, 0, none⟩), .int .i64 i] w fun e w' => ∃ v, e = .returned v ∧ w'.ownsRow w.heap.size 25 1 v (tgtsAt ps.length ts i).length (encN .u32 (tgtsAt ps.length ts i)) ∧ Below w.heap.size w w' := by
  have hp := proc_any h i
  have hz39 := zero39
  unfold procN procV at hp
  unfold tgtsAt
  by_cases hc : 0 ≤ i ∧ i < ps.length
  · rw [if_pos hc] at hp ⊢
    obtain ⟨k, rfl⟩ := Int.eq_ofNat_of_zero_le hc.1
    rw [Int.toNat_natCast] at hp ⊢
    have hk : k < ps.length := by omega
    have hul : us.length = ts.length := h.ul
    obtain ⟨q, cv, hvt, -, -⟩ := own_start h.ot (by omega)
    subst hvt
    obtain ⟨u, hu⟩ : ∃ u, us[k]? = some u := ⟨_, List.getElem?_eq_getElem (by omega)⟩
    have hqc : w.cell? ⟨q, k, none⟩ = some u := by rw [h.ot.cellAt k (by omega)]; exact hu
    have hou := h.ou k u _ hu (getD_at _ k [] (by omega))
    have hlk := hln k
    have hc2 := h.c2
    have hcl := fun (W : World) (hb : Below w.heap.size w W) => clone_any u (ts.getD k []) hlk W (Reads.own (own_below hou hb) Nat.one_pos)
    generalize ps.getD k (0, 0, 0) = pr at *
    generalize ts.getD k [] = l at *
    obtain ⟨p0, p1, p2⟩ := pr
    rw [hul, hpt] at hc2
    have Hp := Lib.hid hp
    have Hcl := Lib.hid hcl
    have hki : (k : Int) < (ps.length : Int) := by omega
    have hk0 : (0 : Int) ≤ (k : Int) := by omega
    have hbl := World.block_lt_of_cell? _ _ hc2
    have hql := World.block_lt_of_cell? _ _ hqc
    clear h hp hcl hou hu hul hln hc
    go_enter Tryz.func487, Tryz.ntmps487
    go_wp2_with fail
    refine Hp.out.mono ?_
    rintro e w1 ⟨rfl, hb1⟩
    have hc2 := (hb1.cell (p := ⟨b, 2, none⟩) hbl).trans hc2
    have hqc := (hb1.cell (p := ⟨q, k, none⟩) hql).trans hqc
    have hbl := World.block_lt_of_cell? _ _ hc2
    have hql := World.block_lt_of_cell? _ _ hqc
    have Hb1 := Lib.hid hb1
    clear hb1 Hp
    go_wp2_with fail
    refine (Hcl.out _ (Bel.al Hb1.out _)).mono ?_
    rintro e w2 ⟨v, rfl, ho, hb2⟩
    have HX := Lib.hid (show w2.ownsRow w.heap.size 25 1 v l.length (encN .u32 l) ∧ Below w.heap.size w w2 from ⟨own_from (own_base ho) (fun g e => by have := (ho.lt g e).1; have := (Bel.al Hb1.out (.cells #[.int .u32 p0, .int .u32 p1, .int .u32 p2, .int .i64 0] 259)).size; omega), Bel.tr (Bel.al Hb1.out _) hb2⟩)
    clear ho hb2 Hcl
    go_wp2
    exact bodyPost_ret (v := v) (by simp [results, Tryz.results487, go_sem]) rfl ⟨_, rfl, HX.out⟩
  · rw [if_neg hc] at hp ⊢
    have Hp := Lib.hid hp
    clear h hp hln hc
    go_enter Tryz.func487, Tryz.ntmps487
    go_wp2_with fail
    refine Hp.out.mono ?_
    rintro e w1 ⟨rfl, hb1⟩
    have Hb1 := Lib.hid hb1
    clear hb1 Hp
    go_wp2
    exact bodyPost_ret (v := .slice none 0 0) (by simp [results, Tryz.results487, go_sem]) rfl ⟨_, rfl, World.ownsRow_nil _ _ _ _, Bel.al Hb1.out _⟩
end Go.Proofs.YtgpicmiaanapkaaGreat
/- Procedures lie one behind the other; the lists of targets: plain laws. -/
namespace Go.Proofs.YtgpicmiaanapkaaGreat
open Go.RowKit
theorem endAt_getD (ps : List (Nat × Nat × Nat)) (e j : Nat) (h0 : 0 < ps.length) : (endAt ps e).getD j (0, 0, 0) = if j = ps.length - 1 then ((ps.getD j (0, 0, 0)).1, e, (ps.getD j (0, 0, 0)).2.2) else ps.getD j (0, 0, 0) := by
  unfold endAt
  rw [List.getD_eq_getElem?_getD, List.getElem?_set]
  by_cases h : j = ps.length - 1
  · subst h
    rw [if_pos rfl, if_pos (by omega), if_pos rfl]; rfl
  · rw [if_neg (fun e => h e.symm), if_neg h, List.getD_eq_getElem?_getD]
theorem getD_snoc {α : Type} (l : List α) (x d : α) (j : Nat) : (l ++ [x]).getD j d = if j < l.length then l.getD j d else if j = l.length then x else d := by
  rw [List.getD_eq_getElem?_getD]
  by_cases h : j < l.length
  · rw [if_pos h, List.getElem?_append_left h, List.getD_eq_getElem?_getD]
  · rw [if_neg h, List.getElem?_append_right (by omega)]
    by_cases e : j = l.length
    · rw [if_pos e, e]; simp
    · rw [if_neg e, List.getElem?_eq_none (by simp; omega)]; rfl
/-- The procedures lie one behind the other. -/
structure Tiles (code : List (Nat × Nat)) (k : Nat) (P : List (Nat × Nat × Nat)) (O : List Nat) : Prop where
  ol : O.length = k
  pos : 0 < k → 0 < P.length
  lt : ∀ i, i < k → O.getD i 0 < P.length
  lo : ∀ i, i < k → (P.getD (O.getD i 0) (0, 0, 0)).1 ≤ i ∧ i < (P.getD (O.getD i 0) (0, 0, 0)).2.1
  en : ∀ i, i < k → ((code.getD i (0, 0)).1 = 3 ↔ (P.getD (O.getD i 0) (0, 0, 0)).1 = i)
  mid : ∀ j, j < P.length → ∀ i, (P.getD j (0, 0, 0)).1 ≤ i → i < (P.getD j (0, 0, 0)).2.1 → O.getD i 0 = j
  bd : ∀ j, j < P.length → (P.getD j (0, 0, 0)).1 < (P.getD j (0, 0, 0)).2.1 ∧ (P.getD j (0, 0, 0)).2.1 ≤ k
  fr : ∀ j, j < P.length → (P.getD j (0, 0, 0)).2.2 = (code.getD (P.getD j (0, 0, 0)).1 (0, 0)).2
  first : (P.getD 0 (0, 0, 0)).1 = 0
  next : ∀ j, j + 1 < P.length → (P.getD (j + 1) (0, 0, 0)).1 = (P.getD j (0, 0, 0)).2.1
  last : 0 < P.length → (P.getD (P.length - 1) (0, 0, 0)).2.1 = k
theorem tiles_enter {code : List (Nat × Nat)} {k : Nat} {P : List (Nat × Nat × Nat)} {O : List Nat} (h : Tiles code k P O) (h3 : (code.getD k (0, 0)).1 = 3) (P' : List (Nat × Nat × Nat)) (O' : List Nat)
    (hl : P'.length = P.length + 1) (hP : ∀ j, P'.getD j (0, 0, 0) = if j < P.length then P.getD j (0, 0, 0) else if j = P.length then (k, k + 1, (code.getD k (0, 0)).2) else (0, 0, 0))
    (hol : O'.length = k + 1) (hO : ∀ i, O'.getD i 0 = if i < k then O.getD i 0 else if i = k then P.length else 0) : Tiles code (k + 1) P' O' := by
  have hPn : P'.getD P.length (0, 0, 0) = (k, k + 1, (code.getD k (0, 0)).2) := by rw [hP, if_neg (Nat.lt_irrefl _), if_pos rfl]
  have hOk : O'.getD k 0 = P.length := by rw [hO, if_neg (Nat.lt_irrefl _), if_pos rfl]
  have hPo : ∀ j, j < P.length → P'.getD j (0, 0, 0) = P.getD j (0, 0, 0) := fun j hj => by rw [hP, if_pos hj]
  have hOo : ∀ i, i < k → O'.getD i 0 = O.getD i 0 := fun i hi => by rw [hO, if_pos hi]
  refine ⟨hol, fun _ => by omega, ?_, ?_, ?_, ?_, ?_, ?_, ?_, ?_, ?_⟩
  · intro i hi
    by_cases e : i = k
    · subst e; rw [hOk]; omega
    · rw [hOo i (by omega)]; have := h.lt i (by omega); omega
  · intro i hi
    by_cases e : i = k
    · subst e; rw [hOk, hPn]; exact ⟨Nat.le_refl _, Nat.lt_succ_self _⟩
    · rw [hOo i (by omega), hPo _ (h.lt i (by omega))]; exact h.lo i (by omega)
  · intro i hi
    by_cases e : i = k
    · subst e; rw [hOk, hPn]; exact ⟨fun _ => rfl, fun _ => h3⟩
    · rw [hOo i (by omega), hPo _ (h.lt i (by omega))]; exact h.en i (by omega)
  · intro j hj i h1 h2
    by_cases e : j = P.length
    · subst e
      rw [hPn] at h1 h2
      have : i = k := by simp only at h1 h2; omega
      rw [this, hOk]
    · have hj' : j < P.length := by omega
      rw [hPo j hj'] at h1 h2
      have := (h.bd j hj').2
      rw [hOo i (by omega)]
      exact h.mid j hj' i h1 h2
  · intro j hj
    by_cases e : j = P.length
    · subst e; rw [hPn]; exact ⟨Nat.lt_succ_self _, Nat.le_refl _⟩
    · have hj' : j < P.length := by omega
      rw [hPo j hj']; have := h.bd j hj'; omega
  · intro j hj
    by_cases e : j = P.length
    · subst e; rw [hPn]
    · have hj' : j < P.length := by omega
      rw [hPo j hj']; exact h.fr j hj'
  · by_cases e : 0 < P.length
    · rw [hPo 0 e]; exact h.first
    · have hk : k = 0 := by
        cases k with
        | zero => rfl
        | succ k => exact absurd (h.pos (by omega)) e
      have := hP 0
      rw [if_neg e, if_pos (by omega)] at this
      rw [this]; exact hk
  · intro j hj
    by_cases e : j + 1 = P.length
    · rw [e, hPn, hPo j (by omega)]
      have := h.last (by omega)
      rw [← e, Nat.add_sub_cancel] at this
      exact this.symm
    · rw [hPo (j + 1) (by omega), hPo j (by omega)]; exact h.next j (by omega)
  · intro _
    rw [hl, Nat.add_sub_cancel, hPn]
theorem tiles_other {code : List (Nat × Nat)} {k : Nat} {P : List (Nat × Nat × Nat)} {O : List Nat} (h : Tiles code k P O) (h3 : (code.getD k (0, 0)).1 ≠ 3) (hk : 0 < P.length) (P' : List (Nat × Nat × Nat)) (O' : List Nat)
    (hl : P'.length = P.length) (hP : ∀ j, P'.getD j (0, 0, 0) = if j = P.length - 1 then ((P.getD j (0, 0, 0)).1, k + 1, (P.getD j (0, 0, 0)).2.2) else P.getD j (0, 0, 0))
    (hol : O'.length = k + 1) (hO : ∀ i, O'.getD i 0 = if i < k then O.getD i 0 else if i = k then P.length - 1 else 0) : Tiles code (k + 1) P' O' := by
  have hPn : P'.getD (P.length - 1) (0, 0, 0) = ((P.getD (P.length - 1) (0, 0, 0)).1, k + 1, (P.getD (P.length - 1) (0, 0, 0)).2.2) := by rw [hP, if_pos rfl]
  have hOk : O'.getD k 0 = P.length - 1 := by rw [hO, if_neg (Nat.lt_irrefl _), if_pos rfl]
  have hPo : ∀ j, j ≠ P.length - 1 → P'.getD j (0, 0, 0) = P.getD j (0, 0, 0) := fun j hj => by rw [hP, if_neg hj]
  have hP1 : ∀ j, (P'.getD j (0, 0, 0)).1 = (P.getD j (0, 0, 0)).1 := fun j => by rw [hP]; split <;> rfl
  have hP3 : ∀ j, (P'.getD j (0, 0, 0)).2.2 = (P.getD j (0, 0, 0)).2.2 := fun j => by rw [hP]; split <;> rfl
  have hOo : ∀ i, i < k → O'.getD i 0 = O.getD i 0 := fun i hi => by rw [hO, if_pos hi]
  have hls := h.last hk
  have hbl := h.bd (P.length - 1) (by omega)
  have hP2 : ∀ j, (P.getD j (0, 0, 0)).2.1 ≤ (P'.getD j (0, 0, 0)).2.1 ∨ ¬ j < P.length := fun j => by
    by_cases hj : j < P.length
    · left; rw [hP]; split
      · rename_i e; show _ ≤ k + 1; have := (h.bd j hj).2; omega
      · exact Nat.le_refl _
    · exact .inr hj
  refine ⟨hol, fun _ => by omega, ?_, ?_, ?_, ?_, ?_, ?_, ?_, ?_, ?_⟩
  · intro i hi
    by_cases e : i = k
    · subst e; rw [hOk]; omega
    · rw [hOo i (by omega)]; have := h.lt i (by omega); omega
  · intro i hi
    by_cases e : i = k
    · subst e; rw [hOk, hPn]; simp only; omega
    · rw [hOo i (by omega), hP1]
      have hlt := h.lt i (by omega)
      have h1 := h.lo i (by omega)
      have h2 := hP2 (O.getD i 0)
      omega
  · intro i hi
    by_cases e : i = k
    · subst e; rw [hOk, hPn]; simp only
      exact ⟨fun e => absurd e h3, fun e => by omega⟩
    · rw [hOo i (by omega), hP1]; exact h.en i (by omega)
  · intro j hj i h1 h2
    rw [hl] at hj
    by_cases e : j = P.length - 1
    · subst e
      rw [hPn] at h1 h2
      simp only at h1 h2
      by_cases e2 : i = k
      · rw [e2, hOk]
      · rw [hOo i (by omega)]
        exact h.mid _ hj i h1 (by omega)
    · rw [hPo j e] at h1 h2
      have := (h.bd j hj).2
      rw [hOo i (by omega)]
      exact h.mid j hj i h1 h2
  · intro j hj
    rw [hl] at hj
    by_cases e : j = P.length - 1
    · subst e; rw [hPn]; simp only; omega
    · rw [hPo j e]; have := h.bd j hj; omega
  · intro j hj
    rw [hl] at hj
    rw [hP3, hP1]; exact h.fr j hj
  · rw [hP1]; exact h.first
  · intro j hj
    rw [hl] at hj
    rw [hP1, hPo j (by omega)]; exact h.next j hj
  · intro _
    rw [hl, hPn]
theorem tiles {code : List (Nat × Nat)} (h0 : (code.getD 0 (0, 0)).1 = 3) (k : Nat) : Tiles code k (psTo code k) (ofTo code k) := by
  induction k with
  | zero =>
    refine ⟨rfl, fun h => absurd h (Nat.lt_irrefl _), ?_, ?_, ?_, ?_, ?_, ?_, rfl, ?_, ?_⟩
    · intro i hi; exact absurd hi (Nat.not_lt_zero i)
    · intro i hi; exact absurd hi (Nat.not_lt_zero i)
    · intro i hi; exact absurd hi (Nat.not_lt_zero i)
    · intro i hi; exact absurd hi (Nat.not_lt_zero i)
    · intro i hi; exact absurd hi (Nat.not_lt_zero i)
    · intro i hi; exact absurd hi (Nat.not_lt_zero i)
    · intro i hi; exact absurd hi (Nat.not_lt_zero _)
    · intro h; exact absurd h (Nat.not_lt_zero _)
  | succ k ih =>
    have hol : (ofTo code (k + 1)).length = k + 1 := by show (ofTo code k ++ [_]).length = _; rw [List.length_append, ih.ol]; rfl
    by_cases h3 : (code.getD k (0, 0)).1 = 3
    · have e1 : psTo code (k + 1) = endAt (psTo code k ++ [(k, 0, (code.getD k (0, 0)).2)]) (k + 1) := by
        show cutStep _ _ _ = _; unfold cutStep; rw [if_pos h3]
      have hlen : (psTo code (k + 1)).length = (psTo code k).length + 1 := by rw [e1, endAt_length, List.length_append]; rfl
      refine tiles_enter ih h3 _ _ hlen ?_ hol ?_
      · intro j
        rw [e1, endAt_getD _ _ _ (by rw [List.length_append]; exact Nat.succ_pos _), List.length_append, getD_snoc]
        have el : (psTo code k).length + [(k, 0, (code.getD k (0, 0)).2)].length - 1 = (psTo code k).length := rfl
        rw [el]
        by_cases a : j < (psTo code k).length
        · rw [if_neg (Nat.ne_of_lt a), if_pos a, if_pos a]
        · rw [if_neg a, if_neg a]
          by_cases b : j = (psTo code k).length
          · rw [if_pos b, if_pos b, if_pos b]
          · rw [if_neg b, if_neg b, if_neg b]
      · intro i
        show (ofTo code k ++ [_]).getD i 0 = _
        rw [getD_snoc, ih.ol, hlen, Nat.add_sub_cancel]
    · have e1 : psTo code (k + 1) = endAt (psTo code k) (k + 1) := by
        show cutStep _ _ _ = _; unfold cutStep; rw [if_neg h3]
      have hk : 0 < (psTo code k).length := ih.pos (by
        cases k with
        | zero => exact absurd h0 h3
        | succ k => omega)
      have hlen : (psTo code (k + 1)).length = (psTo code k).length := by rw [e1, endAt_length]
      refine tiles_other ih h3 hk _ _ hlen ?_ hol ?_
      · intro j
        rw [e1, endAt_getD _ _ _ hk]
      · intro i
        show (ofTo code k ++ [_]).getD i 0 = _
        rw [getD_snoc, ih.ol, hlen]
/-- What lies in the lists of targets. -/
theorem aimTo_getD (ofs js : List Nat) (n k j : Nat) (hr : ofs.getD (js.getD k 0) 0 < n) : (aimTo ofs js n (k + 1)).getD j [] = if j = ofs.getD (js.getD k 0) 0 then (aimTo ofs js n k).getD j [] ++ [js.getD k 0] else (aimTo ofs js n k).getD j [] := by
  show ((aimTo ofs js n k).set _ _).getD j [] = _
  rw [List.getD_eq_getElem?_getD, List.getElem?_set]
  by_cases h : j = ofs.getD (js.getD k 0) 0
  · subst h
    rw [if_pos rfl, if_pos (by rw [aimTo_length]; exact hr), if_pos rfl]; rfl
  · rw [if_neg (fun e => h e.symm), if_neg h, List.getD_eq_getElem?_getD]
structure Tgts (ofs js : List Nat) (k : Nat) (ts : List (List Nat)) : Prop where
  of_mem : ∀ j t, t ∈ ts.getD j [] → ∃ i, i < k ∧ t = js.getD i 0 ∧ ofs.getD t 0 = j
  mem : ∀ i, i < k → js.getD i 0 ∈ ts.getD (ofs.getD (js.getD i 0) 0) []
  sorted : ∀ j, (ts.getD j []).Pairwise (· < ·)
theorem tgts {ps : List (Nat × Nat × Nat)} {ofs js : List Nat} {n : Nat} (hof : ∀ x, x < ofs.length → ofs.getD x 0 < n) (k : Nat) (h : GoodTo ps ofs js k) : Tgts ofs js k (aimTo ofs js n k) := by
  have hup : ∀ a b, a < b → b < k → js.getD a 0 < js.getD b 0 := by
    intro a b hab hb
    induction b with
    | zero => omega
    | succ b ih =>
      have := h (b + 1) hb
      simp only [aimOk, Bool.and_eq_true, Bool.or_eq_true, decide_eq_true_eq] at this
      have h1 : js.getD b 0 < js.getD (b + 1) 0 := by
        rcases this.1 with h | h
        · omega
        · exact h
      by_cases e : a = b
      · rw [e]; exact h1
      · have := ih (by omega) (by omega); omega
  have hlt : ∀ a, a < k → js.getD a 0 < ofs.length := fun a ha => by
    have := h a ha
    simp only [aimOk, Bool.and_eq_true, decide_eq_true_eq] at this
    exact this.2.1
  clear h
  induction k with
  | zero =>
    have e : ∀ j, (aimTo ofs js n 0).getD j [] = [] := fun j => by
      show (List.replicate n []).getD j [] = []
      rw [List.getD_eq_getElem?_getD, List.getElem?_replicate]; split <;> rfl
    refine ⟨fun j t ht => ?_, fun i hi => absurd hi (Nat.not_lt_zero i), fun j => ?_⟩
    · rw [e] at ht; cases ht
    · rw [e]; exact List.Pairwise.nil
  | succ k ih =>
    have I := ih (fun a b hab hb => hup a b hab (by omega)) (fun a ha => hlt a (by omega))
    have hr := hof _ (hlt k (by omega))
    refine ⟨fun j t ht => ?_, fun i hi => ?_, fun j => ?_⟩
    · rw [aimTo_getD _ _ _ _ _ hr] at ht
      split at ht
      · rename_i e
        rcases List.mem_append.1 ht with ht | ht
        · obtain ⟨i, h1, h2⟩ := I.of_mem j t ht; exact ⟨i, by omega, h2⟩
        · rw [List.mem_singleton.1 ht]; exact ⟨k, by omega, rfl, e.symm⟩
      · obtain ⟨i, h1, h2⟩ := I.of_mem j t ht; exact ⟨i, by omega, h2⟩
    · rw [aimTo_getD _ _ _ _ _ hr]
      by_cases e : i = k
      · subst e; rw [if_pos rfl]; simp
      · have := I.mem i (by omega)
        split
        · exact List.mem_append_left _ this
        · exact this
    · rw [aimTo_getD _ _ _ _ _ hr]
      split
      · rw [List.pairwise_append]
        refine ⟨I.sorted j, List.pairwise_singleton _ _, fun a ha b hb => ?_⟩
        obtain ⟨i, h1, h2, _⟩ := I.of_mem j a ha
        rw [List.mem_singleton.1 hb, h2]
        exact hup i k h1 (by omega)
      · exact I.sorted j
end Go.Proofs.YtgpicmiaanapkaaGreat
/- procs.Find. -/
namespace Go.Proofs.YtgpicmiaanapkaaGreat
open Go.RowKit
/-- A row of names that came in. -/
def NamesU (w : World) (B : Nat) (v : Value) (ats : List Nat) : Prop := ∃ a cap, v = .slice a ats.length cap ∧ ats.length ≤ cap ∧ cap ≤ maxLen ∧ (∀ k, ats.getD k 0 < 4294967296) ∧
  (0 < ats.length → ∃ b off, a = some ⟨b, off, none⟩ ∧ b < B ∧ ∀ k, k < ats.length → ∃ s, w.cell? ⟨b, off + k * 2, none⟩ = some (.string s) ∧ w.cell? ⟨b, off + k * 2 + 1, none⟩ = some (.int .u32 (ats.getD k 0)))
theorem RowU.calm {w W : World} {B : Nat} {v : Value} {l : List Nat} (h : RowU w w.heap.size v l) (hb : Below w.heap.size w W) (hB : w.heap.size ≤ B) : RowU W B v l := by
  obtain ⟨a, cap, h1, h2, h3, h4, h5⟩ := h
  refine ⟨a, cap, h1, h2, h3, h4, fun h0 => ?_⟩
  obtain ⟨b, off, e, hlt, hc⟩ := h5 h0
  exact ⟨b, off, e, Nat.lt_of_lt_of_le hlt hB, fun k hk => (hb.cell (p := ⟨b, off + k, none⟩) hlt).trans (hc k hk)⟩
def faultAt (code : List (Nat × Nat)) (i : Nat) : Nat := faultN ((psTo code code.length).getD ((ofTo code code.length).getD i 0) (0, 0, 0)) i (code.getD i (0, 0))
def Firsts (code : List (Nat × Nat)) : Prop := 0 < code.length ∧ (code.getD 0 (0, 0)).1 = 3
/-- What Find refuses. -/
inductive FindBad (code : List (Nat × Nat)) (js ats : List Nat) : Nat → Nat → Prop where
  | enc (h : (encRes code).2.2 ≠ 0) : FindBad code js ats (encRes code).2.1 (encRes code).2.2
  | first (he : (encRes code).2.2 = 0) (h : ¬ Firsts code) : FindBad code js ats 0 130
  | fault (he : (encRes code).2.2 = 0) (h3 : Firsts code) (i : Nat) (hi : i < code.length) (hj : ∀ j, j < i → faultAt code j = 0) (hf : faultAt code i ≠ 0) : FindBad code js ats i (faultAt code i)
  | jump (he : (encRes code).2.2 = 0) (h3 : Firsts code) (hall : ∀ j, j < code.length → faultAt code j = 0) (i : Nat) (hi : i < js.length) (hg : GoodTo (psTo code code.length) (ofTo code code.length) js i) (hb : aimOk (psTo code code.length) (ofTo code code.length) js i = false) : FindBad code js ats i 134
  | name (he : (encRes code).2.2 = 0) (h3 : Firsts code) (hall : ∀ j, j < code.length → faultAt code j = 0) (hg : GoodTo (psTo code code.length) (ofTo code code.length) js js.length) (i : Nat) (hi : i < ats.length) (hj : ∀ j, j < i → beginsN (psTo code code.length) (ofTo code code.length) (ats.getD j 0) = true) (hb : beginsN (psTo code code.length) (ofTo code code.length) (ats.getD i 0) = false) : FindBad code js ats i 135
structure FindOk (code : List (Nat × Nat)) (js ats : List Nat) : Prop where
  he : (encRes code).2.2 = 0
  h3 : Firsts code
  hall : ∀ j, j < code.length → faultAt code j = 0
  hg : GoodTo (psTo code code.length) (ofTo code code.length) js js.length
  hn : ∀ j, j < ats.length → beginsN (psTo code code.length) (ofTo code code.length) (ats.getD j 0) = true
def Found (code : List (Nat × Nat)) (js : List Nat) (w : World) (B b : Nat) : Prop :=
  ∃ vp vo vt us tag, AimI w B b vp vo vt (psTo code code.length) (ofTo code code.length) us (aimTo (ofTo code code.length) js (psTo code code.length).length js.length) tag
def FindPost (code : List (Nat × Nat)) (js ats : List Nat) (w : World) (e : Ending) (w' : World) : Prop :=
  Below w.heap.size w w' ∧ ((∃ i c, e = .returned (.tuple #[.pointer none, .int .i64 (i : Nat), .int .i64 (c : Nat)]) ∧ FindBad code js ats i c) ∨
    ∃ b B, e = .returned (.tuple #[.pointer (some ⟨b, 0, none⟩), .int .i64 0, .int .i64 0]) ∧ FindOk code js ats ∧ w.heap.size ≤ B ∧ B ≤ w'.heap.size ∧ Found code js w' B b)
theorem encRes_short {code : List (Nat × Nat)} (h : (encRes code).2.2 = 0) : code.length ≤ 16384 := by
  by_cases h1 : 16384 < code.length
  · rw [encRes_many h1] at h; cases h
  · omega
set_option maxRecDepth 100000 in
set_option maxHeartbeats 4000000 in
theorem find_any {w : World} (vc vj vn : Value) (code : List (Nat × Nat)) (js ats : List Nat) (hc : Instrs w vc code) (hj : RowU w w.heap.size vj js) (hn : NamesU w w.heap.size vn ats) :
    Calls Tryz.prog 159 #[vc, vj, vn] w (FindPost code js ats w) := by
  have hlt := hc.lt
  have henc := encode_any vc code w hc
  have hmx : Tryz.prog.follows .mixedOrders = true := by kernel_rfl
  obtain ⟨a, cap, hvc, hlc, hcm, hnil, hp⟩ := hc.opened
  have hlm : code.length ≤ 9223372036854775807 := by unfold maxLen at hcm; omega
  have Henc := Lib.hid henc
  have Hc := Lib.hid hc
  have Hj := Lib.hid hj
  have Hn := Lib.hid hn
  have Hlt := Lib.hid hlt
  have Hp := Lib.hid hp
  clear hp hnil hlt hj hn hc henc
  subst hvc
  go_enter Tryz.func159, Tryz.ntmps159
  go_wp2_with fail
  refine Henc.out.mono ?_
  rintro e w1 ⟨ve, rfl, hown, hgr, hnil⟩
  have Hb1 := Lib.hid (show Below w.heap.size w w1 from hgr.bel)
  clear hown hgr hnil Henc
  by_cases h0 : (encRes code).2.2 = 0
  · have Hs := Lib.hid (encRes_short h0)
    have He := Lib.hid h0
    rw [h0]
    generalize (encRes code).2.1 = ei
    clear h0
    by_cases h1 : code.length = 0
    · have HB := Lib.hid (show FindBad code js ats 0 130 from .first He.out (fun h => by have := h.1; omega))
      have hz : (code.length : Int) = 0 := by omega
      go_wp2
      exact bodyPost_ret (v := .tuple #[.pointer none, .int .i64 ((0 : Nat) : Int), .int .i64 ((130 : Nat) : Int)]) (by simp [results, Tryz.results159, go_sem]) rfl ⟨Hb1.out, .inl ⟨_, _, rfl, HB.out⟩⟩
    · obtain ⟨cb, coff, rfl, hcb, hcc⟩ := Hp.out (by omega)
      have hlen : (code.length : Int) ≠ 0 := by omega
      have hlen2 : (0 : Int) < (code.length : Int) := by omega
      have hq0 := (Hb1.out.cell (p := ⟨cb, coff + 0 * 2, none⟩) hcb).trans (hcc 0 (by omega)).1
      rw [Nat.zero_mul, Nat.add_zero] at hq0
      by_cases h3 : (code.getD 0 (0, 0)).1 = 3
      · have H3 := Lib.hid (show Firsts code from ⟨by omega, h3⟩)
        rw [h3] at hq0
        have Hcc := Lib.hid hcc
        have Hcut := Lib.hid (cut_any _ code Hs.out (by omega) h3 w1 (Hc.out.below Hb1.out))
        clear hcc h3
        go_wp2_with fail
        refine Hcut.out.mono ?_
        rintro e w2 ⟨b, vp, vo, vt, tag, rfl, hA, hb2⟩
        have HA := Lib.hid hA
        have Hb2 := Lib.hid hb2
        have hcb1 : cb < w1.heap.size := Nat.lt_of_lt_of_le hcb Hb1.out.size
        clear hA hb2 Hcut hq0
        go_wp2_with fail
        have HT := Lib.hid (tiles (code := code) H3.out.2 code.length)
        obtain ⟨n, hnn⟩ : ∃ n, n = code.length := ⟨_, rfl⟩
        have HN := Lib.hid hnn
        rw [← hnn] at hlc hlm hlen hlen2 h1 ⊢
        clear hnn
        have hcl := Lib.hid (fun (wr : World) (hb : Below w2.heap.size w2 wr) (k : Nat) (hk : k < n) => (show wr.cell? ⟨cb, coff + k * 2, none⟩ = some (.int .u8 (code.getD k (0, 0)).1) ∧ wr.cell? ⟨cb, coff + k * 2 + 1, none⟩ = some (.int .u32 (code.getD k (0, 0)).2) from by
          have hx := Bel.tr Hb2.out hb
          obtain ⟨e1, e2⟩ := Hcc.out k (by rw [← HN.out]; exact hk)
          exact ⟨(hx.cell (p := ⟨cb, coff + k * 2, none⟩) hcb1).trans ((Hb1.out.cell (p := ⟨cb, coff + k * 2, none⟩) hcb).trans e1), (hx.cell (p := ⟨cb, coff + k * 2 + 1, none⟩) hcb1).trans ((Hb1.out.cell (p := ⟨cb, coff + k * 2 + 1, none⟩) hcb).trans e2)⟩))
        go_loopw [44] (fun i wr => ∃ (k : Nat), k ≤ n ∧ i = .int .i64 k ∧ Below w2.heap.size w2 wr ∧ ∀ j, j < k → faultAt code j = 0) (fun i _ => n - (intOf i).toNat)
        case atStart => exact ⟨0, by omega, rfl, Below.refl _ _, fun j h => absurd h (Nat.not_lt_zero j)⟩
        case round =>
          obtain ⟨k, hk, rfl, hbw, hgd⟩ := hrel
          by_cases hlt' : k < n
          · obtain ⟨hq1, hq2⟩ := hcl.out wr hbw k hlt'
            obtain ⟨hlo, hla⟩ := Hlt.out k
            have hfa : faultAt code k = faultN ((psTo code code.length).getD ((ofTo code code.length).getD k 0) (0, 0, 0)) k (code.getD k (0, 0)) := rfl
            have hI := (HA.out.calm hbw).at_
            have hr := HT.out.lt k (by rw [← HN.out]; exact hlt')
            have hol := HT.out.ol.trans HN.out.symm
            have hki : (k : Int) < (n : Int) := by omega
            have hk0 : (0 : Int) ≤ (k : Int) := by omega
            have hs := Hs.out
            rw [← HN.out] at hs
            generalize code.getD k (0, 0) = ins at *
            obtain ⟨o, x⟩ := ins
            simp only at hq1 hq2 hlo hla
            generalize psTo code code.length = P at *
            generalize ofTo code code.length = O at *
            obtain ⟨ao, co, hvo, -, -, hog⟩ := own_sl hI.oo
            obtain ⟨ap, cp, hvp, -, -, hpg⟩ := own_sl hI.op
            obtain ⟨go, hao, hgo, hoc⟩ := hog (by omega)
            obtain ⟨gp, hap, hgp, hpc⟩ := hpg (by omega)
            have hqo := hoc k (by rw [encN_length]; omega)
            rw [encN_at _ _ _ (by omega)] at hqo
            have hl4 := encP_length P
            obtain ⟨r0, r1, r2, r3⟩ := encP_at P (O.getD k 0) hr
            rw [← hpc _ (by omega)] at r0 r1 r2 r3
            have hcp := hI.c0
            have hc1 := hI.c1
            rw [hvp, hap] at hcp
            rw [hvo, hao] at hc1
            clear hog hpg hoc hpc hl4 hvo hvp hao hap hI
            have hfu := fun W => fault_any (P.getD (O.getD k 0) (0, 0, 0)) k o x (by omega) hlo hla W
            generalize O.getD k 0 = r at *
            generalize P.getD r (0, 0, 0) = pr at *
            obtain ⟨p0, p1, p2⟩ := pr
            simp only at r0 r1 r2
            rw [← hfa] at hfu
            have Hfa := Lib.hid hfa
            obtain ⟨f, hf⟩ : ∃ f, f = faultAt code k := ⟨_, rfl⟩
            rw [← hf] at hfu
            have Hf := Lib.hid hf
            obtain ⟨np, hnp⟩ : ∃ np, np = P.length := ⟨_, rfl⟩
            rw [← hnp] at hcp hr
            rw [hol] at hc1
            have hwk : IntKind.u32.wrap (k : Int) = (k : Int) := u32_wrap k (by omega)
            have hb3 := Bel.new wr (.cells #[.int .u8 o, .int .u32 x] 122)
            have hw0 := cells_new2 wr (.int .u8 o) (.int .u32 x) 122
            have bel := fun {bb j : Nat} {v : Value} (h : wr.cell? ⟨bb, j, none⟩ = some v) => BelW.cell ((hb3.cell (p := ⟨bb, j, none⟩) (World.block_lt_of_cell? _ _ h)).trans h)
            have tcp := bel hcp
            have tc1 := bel hc1
            have tqo := bel hqo
            have tr0 := bel r0
            have tr1 := bel r1
            have tr2 := bel r2
            have tr3 := bel r3
            have ti0 := BelW.cell hw0.1
            have ti1 := BelW.cell hw0.2
            have hne : Nonempty (BelW (wr.alloc (.cells #[.int .u8 o, .int .u32 x] 122))) := ⟨⟨_, Below.refl _ _⟩⟩
            have hr0 : (0 : Int) ≤ (r : Int) := by omega
            have hr1 : (r : Int) < (np : Int) := by omega
            have Hgd := Lib.hid hgd
            have Hbw := Lib.hid (Bel.tr hbw hb3)
            have Hfu := Lib.hid hfu
            clear hgd hfa hf hfu hbw hb3 hw0 bel hcp hc1 hqo r0 r1 r2 r3 hnp hr hol hgo hgp
            go_wp2_with fail
            clear hq1 hq2
            refine wp_region_quietB hmx (by kernel_rfl) ?_
            repeat (go_big_quiet_step ((go_at_call 280; exact (Hfu.out _).mono fun e w' h => ⟨h.1, BelW.to _ h.2⟩)))
            refine wpQuiet_nil ?_
            rintro w3 ⟨⟨w4, hb4⟩, rfl⟩
            have Hb4 := Lib.hid (Bel.tr Hbw.out hb4)
            clear tcp tc1 tqo tr0 tr1 tr2 tr3 ti0 ti1 hne hb4 Hfu
            by_cases hf0 : f = 0
            · subst hf0
              go_wp2
              go_roundw
              case rel => exact ⟨k + 1, by omega, by go_num, Hb4.out, fun j hj => by
                by_cases e : j = k
                · rw [e]; exact Hf.out.symm
                · exact Hgd.out j (by omega)⟩
              case measure => simp [intOf]; omega
            · have hd : ((f : Int) == 0) = false := by simp; omega
              have hd2 : ((f : Int) != 0) = true := by simp; omega
              have HB := Lib.hid (show FindBad code js ats k f from by
                rw [Hf.out]; exact .fault He.out H3.out k (by rw [← HN.out]; exact hlt') Hgd.out (by rw [← Hf.out]; exact hf0))
              go_wp2
              exact bodyPost_ret (v := .tuple #[.pointer none, .int .i64 k, .int .i64 f]) (by simp [results, Tryz.results159, go_sem]) rfl ⟨Hb1.out.trans ((Bel.tr Hb2.out Hb4.out).mono Hb1.out.size), .inl ⟨_, _, rfl, HB.out⟩⟩
          · obtain rfl : k = n := by omega
            have Hall := Lib.hid (show ∀ j, j < code.length → faultAt code j = 0 from fun j hj => hgd j (by rw [HN.out]; exact hj))
            have hA := HA.out.calm hbw
            have hs1 := Hb1.out.size
            have hs2 := Hb2.out.size
            have hs3 := hbw.size
            have hbx := Bel.tr Hb2.out hbw
            have Haim := Lib.hid (aim_any hA (fun x hx => HT.out.lt x (by rw [← HT.out.ol]; exact hx)) (by rw [HT.out.ol]; exact Hs.out) (Nat.le_trans hs2 hs3) vj js (Hj.out.calm (Hb1.out.trans (hbx.mono hs1)) hs1))
            have Hbw := Lib.hid (Hb1.out.trans (hbx.mono hs1))
            have Hw1 := Lib.hid (show w.heap.size ≤ w1.heap.size from hs1)
            have Hw2 := Lib.hid (Nat.le_trans hs2 hs3)
            clear hgd hbw hA hs1 hs2 hs3 hbx HA
            go_wp2_with fail
            refine Haim.out.mono ?_
            rintro e w3 ⟨hb3, hx⟩
            have Hb3 := Lib.hid (show Below w.heap.size w w3 from Hbw.out.trans (hb3.mono Hw1.out))
            have Hw3 := Lib.hid (Nat.le_trans Hw2.out hb3.size)
            clear hb3 Haim
            rcases hx with ⟨rfl, hg, us, tag, hA⟩ | ⟨i, hi, rfl, hg, hbad⟩
            · have Hg := Lib.hid hg
              have HA := Lib.hid hA
              clear hg hA
              obtain ⟨an, capn, rfl, hnc, hncm, hnl, hnp⟩ := Hn.out
              have hnm : ats.length ≤ 9223372036854775807 := by unfold maxLen at hncm; omega
              have Hnp := Lib.hid hnp
              have Hnl := Lib.hid hnl
              clear hnp hnl
              obtain ⟨m, hmm⟩ : ∃ m, m = ats.length := ⟨_, rfl⟩
              have HM := Lib.hid hmm
              rw [← hmm] at hnc hnm ⊢
              clear hmm
              go_wp2_with fail
              go_loopw [83] (fun i wr => ∃ (k : Nat), k ≤ m ∧ i = .int .i64 k ∧ Below w3.heap.size w3 wr ∧ ∀ j, j < k → beginsN (psTo code code.length) (ofTo code code.length) (ats.getD j 0) = true) (fun i _ => m - (intOf i).toNat)
              case atStart => exact ⟨0, by omega, rfl, Below.refl _ _, fun j h => absurd h (Nat.not_lt_zero j)⟩
              case round =>
                obtain ⟨k, hk, rfl, hbw, hgd⟩ := hrel
                by_cases hlt' : k < m
                · obtain ⟨nb, noff, rfl, hnb, hnc2⟩ := Hnp.out (by rw [← HM.out]; omega)
                  obtain ⟨sn, hs1, hs2⟩ := hnc2 k (by rw [← HM.out]; exact hlt')
                  have hnb3 : nb < w3.heap.size := Nat.lt_of_lt_of_le hnb Hb3.out.size
                  have hq1 := (hbw.cell (p := ⟨nb, noff + k * 2, none⟩) hnb3).trans ((Hb3.out.cell (p := ⟨nb, noff + k * 2, none⟩) hnb).trans hs1)
                  have hq2 := (hbw.cell (p := ⟨nb, noff + k * 2 + 1, none⟩) hnb3).trans ((Hb3.out.cell (p := ⟨nb, noff + k * 2 + 1, none⟩) hnb).trans hs2)
                  have hxl := Hnl.out k
                  have hI := (HA.out.calm (Bel.tr hbw (Bel.new wr (.cells #[.string sn, .int .u32 (ats.getD k 0)] 217)))).at_
                  have hbg := begins_any hI (fun x hx => HT.out.lt x (by rw [← HT.out.ol]; exact hx)) (ats.getD k 0) hxl
                  have hki : (k : Int) < (m : Int) := by omega
                  have hk0 : (0 : Int) ≤ (k : Int) := by omega
                  have Hgd := Lib.hid hgd
                  have Hbw := Lib.hid (Bel.tr hbw (Bel.new wr (.cells #[.string sn, .int .u32 (ats.getD k 0)] 217)))
                  obtain ⟨bv, hbv⟩ : ∃ bv, bv = beginsN (psTo code code.length) (ofTo code code.length) (ats.getD k 0) := ⟨_, rfl⟩
                  rw [← hbv] at hbg
                  have Hbv := Lib.hid hbv
                  have Hbg := Lib.hid hbg
                  clear hgd hbw hI hbg hbv hs1 hs2 hnc2
                  obtain ⟨x, hx⟩ : ∃ x, x = ats.getD k 0 := ⟨_, rfl⟩
                  have Hxe := Lib.hid hx
                  rw [← hx] at Hbv Hbg Hbw hq2 hxl
                  clear hx
                  go_wp2_with fail
                  refine Hbg.out.mono ?_
                  rintro e w4 ⟨rfl, hb4⟩
                  have Hb4 := Lib.hid (Bel.tr Hbw.out hb4)
                  clear Hbg hb4 hq1 hq2
                  cases bv with
                  | false =>
                    have HB := Lib.hid (show FindBad code js ats k 135 from .name He.out H3.out Hall.out Hg.out k (by rw [← HM.out]; exact hlt') Hgd.out (by rw [← Hxe.out]; exact Hbv.out.symm))
                    go_wp2
                    exact bodyPost_ret (v := .tuple #[.pointer none, .int .i64 k, .int .i64 ((135 : Nat) : Int)]) (by simp [results, Tryz.results159, go_sem]) rfl ⟨Hb3.out.trans (Hb4.out.mono Hb3.out.size), .inl ⟨_, _, rfl, HB.out⟩⟩
                  | true =>
                    go_wp2
                    go_roundw
                    case rel => exact ⟨k + 1, by omega, by go_num, Hb4.out, fun j hj => by
                      by_cases e : j = k
                      · rw [e, ← Hxe.out]; exact Hbv.out.symm
                      · exact Hgd.out j (by omega)⟩
                    case measure => simp [intOf]; omega
                · obtain rfl : k = m := by omega
                  have Hx := Lib.hid (show FindPost code js ats w (.returned (.tuple #[.pointer (some ⟨b, 0, none⟩), .int .i64 0, .int .i64 0])) wr from
                    ⟨Hb3.out.trans (hbw.mono Hb3.out.size), .inr ⟨b, w1.heap.size, rfl, ⟨He.out, H3.out, Hall.out, Hg.out, fun j hj => hgd j (by rw [HM.out]; exact hj)⟩, Hw1.out, Nat.le_trans Hw3.out hbw.size, vp, vo, vt, us, tag, HA.out.calm hbw⟩⟩)
                  clear hbw hgd
                  go_wp2
                  exact bodyPost_ret (v := .tuple #[.pointer (some ⟨b, 0, none⟩), .int .i64 0, .int .i64 0]) (by simp [results, Tryz.results159, go_sem]) rfl Hx.out
            · have HB := Lib.hid (show FindBad code js ats i 134 from .jump He.out H3.out Hall.out i hi hg hbad)
              clear hg hbad
              go_wp2
              exact bodyPost_ret (v := .tuple #[.pointer none, .int .i64 i, .int .i64 ((134 : Nat) : Int)]) (by simp [results, Tryz.results159, go_sem]) rfl ⟨Hb3.out, .inl ⟨_, _, rfl, HB.out⟩⟩
      · have HB := Lib.hid (show FindBad code js ats 0 130 from .first He.out (fun h => h3 h.2))
        generalize (code.getD 0 (0, 0)).1 = o at *
        have hd : ((o : Int) == 3) = false := by simp; omega
        have hd2 : ((o : Int) != 3) = true := by simp; omega
        clear hcc
        go_wp2
        exact bodyPost_ret (v := .tuple #[.pointer none, .int .i64 ((0 : Nat) : Int), .int .i64 ((130 : Nat) : Int)]) (by simp [results, Tryz.results159, go_sem]) rfl ⟨Hb1.out, .inl ⟨_, _, rfl, HB.out⟩⟩
  · have HB := Lib.hid (show FindBad code js ats (encRes code).2.1 (encRes code).2.2 from .enc h0)
    generalize (encRes code).2.1 = ei at *
    generalize (encRes code).2.2 = ec at *
    have hd : ((ec : Int) == 0) = false := by simp; omega
    go_wp2
    exact bodyPost_ret (v := .tuple #[.pointer none, .int .i64 ei, .int .i64 ec]) (by simp [results, Tryz.results159, go_sem]) rfl ⟨Hb1.out, .inl ⟨_, _, rfl, HB.out⟩⟩
end Go.Proofs.YtgpicmiaanapkaaGreat
/- Images in memory; image.Check's parts. -/
namespace Go.Proofs.YtgpicmiaanapkaaGreat
open Go.RowKit
def encX (l : List (ByteArray × Nat)) : List Value := l.flatMap fun p => [.string p.1, .int .u32 p.2]
theorem encX_length (l : List (ByteArray × Nat)) : (encX l).length = l.length * 2 := by
  induction l with
  | nil => rfl
  | cons p l ih => rw [show encX (p :: l) = [.string p.1, .int .u32 p.2] ++ encX l from rfl, List.length_append, ih]; simp; omega
theorem encX_append (l m : List (ByteArray × Nat)) : encX (l ++ m) = encX l ++ encX m := by simp [encX]
theorem encX_at (l : List (ByteArray × Nat)) : ∀ k, k < l.length → (encX l)[k * 2]? = some (.string (l.getD k (ByteArray.empty, 0)).1) ∧ (encX l)[k * 2 + 1]? = some (.int .u32 (l.getD k (ByteArray.empty, 0)).2) := by
  induction l with
  | nil => intro k h; simp at h
  | cons p l ih =>
    intro k h
    have e : encX (p :: l) = [.string p.1, .int .u32 p.2] ++ encX l := rfl
    cases k with
    | zero => rw [e]; exact ⟨rfl, rfl⟩
    | succ k =>
      obtain ⟨h1, h2⟩ := ih k (by simpa using h)
      rw [e]
      have f : ∀ t, ([.string p.1, .int .u32 p.2] ++ encX l : List Value)[(k + 1) * 2 + t]? = (encX l)[k * 2 + t]? := fun t => by
        rw [List.getElem?_append_right (by simp; omega)]; congr 1; simp; omega
      exact ⟨(f 0).trans h1, (f 1).trans h2⟩
theorem encX_one (l : List (ByteArray × Nat)) : ∀ u ∈ encX l, u.oneCell' = true := by
  intro u h
  obtain ⟨p, _, hp⟩ := List.mem_flatMap.1 h
  rcases List.mem_cons.1 hp with rfl | hp
  · rfl
  · rw [List.mem_singleton.1 hp]; rfl
/-- A row of names, its texts too. -/
def Texts (w : World) (v : Value) (l : List (ByteArray × Nat)) : Prop := Reads w 2 v l.length (encX l) ∧ ∀ k, (l.map (·.2)).getD k 0 < 4294967296
theorem Texts.below {w w' : World} {v : Value} {l : List (ByteArray × Nat)} (h : Texts w v l) (hb : Below w.heap.size w w') : Texts w' v l := ⟨h.1.below hb, h.2⟩
theorem getD_snd (l : List (ByteArray × Nat)) (k : Nat) : (l.map (·.2)).getD k 0 = (l.getD k (ByteArray.empty, 0)).2 := by
  rw [List.getD_eq_getElem?_getD, List.getD_eq_getElem?_getD, List.getElem?_map]
  cases l[k]? <;> rfl
theorem Texts.names {w : World} {v : Value} {l : List (ByteArray × Nat)} (h : Texts w v l) : NamesU w w.heap.size v (l.map (·.2)) := by
  obtain ⟨⟨a, cap, hv, hl, hn, hm, ha, hp⟩, hlt⟩ := h
  refine ⟨a, cap, by rw [List.length_map]; exact hv, by rw [List.length_map]; exact hn, hm, hlt, fun h0 => ?_⟩
  rw [List.length_map] at h0
  obtain ⟨b, off, e, hb, hc⟩ := hp h0
  refine ⟨b, off, e, hb, fun k hk => ?_⟩
  rw [List.length_map] at hk
  obtain ⟨e1, e2⟩ := encX_at l k hk
  exact ⟨_, (hc (k * 2) (by rw [encX_length]; omega)).trans e1, by rw [getD_snd, Nat.add_assoc]; exact (hc (k * 2 + 1) (by rw [encX_length]; omega)).trans e2⟩
/-- Words, each in its range. -/
def Words (w : World) (v : Value) (l : List Nat) : Prop := Reads w 1 v l.length (encN .u32 l) ∧ ∀ k, l.getD k 0 < 4294967296
theorem Words.below {w w' : World} {v : Value} {l : List Nat} (h : Words w v l) (hb : Below w.heap.size w w') : Words w' v l := ⟨h.1.below hb, h.2⟩
theorem Words.rowu {w : World} {v : Value} {l : List Nat} (h : Words w v l) : RowU w w.heap.size v l := by
  obtain ⟨⟨a, cap, hv, hl, hn, hm, ha, hp⟩, hlt⟩ := h
  refine ⟨a, cap, hv, hn, hm, hlt, fun h0 => ?_⟩
  obtain ⟨b, off, e, hb, hc⟩ := hp h0
  exact ⟨b, off, e, hb, fun k hk => by rw [hc k (by rw [encN_length]; exact hk), encN_at _ l k hk]⟩

/-- An image. -/
structure Img where
  code : List (Nat × Nat)
  js : List Nat
  data : List Nat
  zero : Nat
  stack : Nat
  lx : List (ByteArray × Nat)
/-- An image's lists in memory. -/
structure ImgAt (w : World) (vc vj vd vn : Value) (m : Img) : Prop where
  c : Instrs w vc m.code
  j : Words w vj m.js
  d : Bytes w vd m.data
  n : Texts w vn m.lx
  z : m.zero < 4294967296
  s : m.stack < 4294967296
theorem ImgAt.below {w w' : World} {vc vj vd vn : Value} {m : Img} (h : ImgAt w vc vj vd vn m) (hb : Below w.heap.size w w') : ImgAt w' vc vj vd vn m :=
  ⟨h.c.below hb, h.j.below hb, h.d.below hb, h.n.below hb, h.z, h.s⟩
theorem ret_boolE {a b : Bool} (h : a = b) : Ending.returned (.bool a) = .returned (.bool b) := by rw [h]
def stackN (n : Nat) : Bool := decide (n % 4 = 0) && (decide (64 ≤ n) && decide (n ≤ 32768))
def roomN (m : Img) : Nat := m.data.length + m.zero + m.stack
/-- Is a text behind another one? -/
def gtS (a b : ByteArray) : Bool := !(Op.bytesLess a.toList b.toList || a.toList == b.toList)
def nameN (lx : List (ByteArray × Nat)) (i : Nat) : Bool :=
  decide (1 ≤ (lx.getD i (ByteArray.empty, 0)).1.size) && (decide ((lx.getD i (ByteArray.empty, 0)).1.size ≤ 32) && (decide (i = 0) || gtS (lx.getD i (ByteArray.empty, 0)).1 (lx.getD (i - 1) (ByteArray.empty, 0)).1))
set_option maxRecDepth 100000 in
set_option maxHeartbeats 1000000 in
theorem stackMay_any (n : Nat) (w : World) : Calls Tryz.prog 202 #[.int .u32 n] w fun e w' => e = .returned (.bool (stackN n)) ∧ w = w' := by
  have hm2 : ((n : Int) % 4 == 0) = decide (n % 4 = 0) := by rw [Bool.eq_iff_iff]; simp; omega
  unfold stackN
  go_enter Tryz.func202, Tryz.ntmps202
  go_wp2
  all_goals
    go_ret
    exact ⟨ret_boolE (by rw [Bool.eq_iff_iff]; simp; try omega), rfl⟩
set_option maxRecDepth 100000 in
set_option maxHeartbeats 1000000 in
theorem room_any (d z s : Nat) (hd : d ≤ 9223372036854775807) (hz : z < 4294967296) (hs : s < 4294967296) (w : World) : Calls Tryz.prog 203 #[.int .i64 d, .int .u32 z, .int .u32 s] w fun e w' => e = .returned (.int .u64 ((d + z + s : Nat) : Int)) ∧ w = w' := by
  go_enter Tryz.func203, Tryz.ntmps203
  go_wp2
  go_ret
  exact ⟨ret_intE (by omega), rfl⟩
set_option maxRecDepth 100000 in
set_option maxHeartbeats 1000000 in
theorem nameMay_any (v : Value) (lx : List (ByteArray × Nat)) (i : Nat) (hi : i < lx.length) (w : World) (hv : Texts w v lx) :
    Calls Tryz.prog 204 #[v, .int .i64 i] w fun e w' => e = .returned (.bool (nameN lx i)) ∧ w = w' := by
  obtain ⟨⟨a, cap, rfl, hl, hlc, hcm, hn, hp⟩, -⟩ := hv
  obtain ⟨b, off, rfl, hb, hc⟩ := hp (by omega)
  have hm : lx.length ≤ 9223372036854775807 := by unfold maxLen at hcm; omega
  have hq := (hc (i * 2) (by rw [encX_length]; omega)).trans (encX_at lx i hi).1
  have hq' : ∀ _ : 0 < i, w.cell? ⟨b, off + (i - 1) * 2, none⟩ = some (.string (lx.getD (i - 1) (ByteArray.empty, 0)).1) := fun h => (hc ((i - 1) * 2) (by rw [encX_length]; omega)).trans (encX_at lx (i - 1) (by omega)).1
  unfold nameN
  generalize (lx.getD i (ByteArray.empty, 0)).1 = s at *
  generalize (lx.getD (i - 1) (ByteArray.empty, 0)).1 = t at *
  have hi1 : (i : Int) < (lx.length : Int) := by omega
  have hi0 : (0 : Int) ≤ (i : Int) := by omega
  clear hc hp hl
  by_cases h0 : i = 0
  · subst h0
    clear hq'
    simp only [Nat.zero_mul, Nat.add_zero] at hq
    go_enter Tryz.func204, Tryz.ntmps204
    go_wp2
    all_goals
      go_ret
      refine ⟨ret_boolE ?_, rfl⟩
      first
        | (rw [decide_eq_false (by omega : ¬ 1 ≤ s.size)]; simp)
        | (rw [decide_eq_true (by omega : 1 ≤ s.size), decide_eq_false (by omega : ¬ s.size ≤ 32)]; simp)
        | (rw [decide_eq_true (by omega : 1 ≤ s.size), decide_eq_true (by omega : s.size ≤ 32)]; simp; done)
        | (rw [decide_eq_true (by omega : 1 ≤ s.size), decide_eq_true (by omega : s.size ≤ 32), hd]; simp)
  · have hq1 := hq' (by omega)
    clear hq'
    have h0' : ((i : Int) == 0) = false := by simp; omega
    have hi2 : (0 : Int) ≤ (i : Int) - 1 := by omega
    have hi3 : (i : Int) - 1 < (lx.length : Int) := by omega
    have hi4 : ((i : Int) - 1).toNat = i - 1 := by omega
    have hd : decide (i = 0) = false := decide_eq_false h0
    unfold gtS
    go_enter Tryz.func204, Tryz.ntmps204
    go_wp2
    all_goals
      go_ret
      refine ⟨ret_boolE ?_, rfl⟩
      first
        | (rw [decide_eq_false (by omega : ¬ 1 ≤ s.size)]; simp)
        | (rw [decide_eq_true (by omega : 1 ≤ s.size), decide_eq_false (by omega : ¬ s.size ≤ 32)]; simp)
        | (rw [decide_eq_true (by omega : 1 ≤ s.size), decide_eq_true (by omega : s.size ≤ 32)]; simp; done)
        | (rw [decide_eq_true (by omega : 1 ≤ s.size), decide_eq_true (by omega : s.size ≤ 32), hd]; simp)
/-- What image.Check answers. -/
def firstBad (l : List (Nat × Nat)) : Nat := ((l.map fun i => checkN i.1 i.2).find? (· != 0)).getD 0
def namesN (lx : List (ByteArray × Nat)) : Bool := (List.range lx.length).all fun i => nameN lx i
def checkI (m : Img) : Nat :=
  if 16384 < m.code.length then 73
  else if firstBad m.code ≠ 0 then firstBad m.code
  else if 16384 < m.js.length then 86
  else if !(stackN m.stack) || decide (65536 < roomN m) then 85
  else if 64 < m.lx.length then 87
  else if namesN m.lx then 0 else 87
theorem firstBad_none {l : List (Nat × Nat)} (h : ∀ k, k < l.length → checkN (l.getD k (0, 0)).1 (l.getD k (0, 0)).2 = 0) : firstBad l = 0 := by
  unfold firstBad
  rw [List.find?_eq_none.2]
  · rfl
  · intro x hx
    obtain ⟨i, hi, rfl⟩ := List.mem_map.1 hx
    obtain ⟨k, hk, rfl⟩ := List.mem_iff_getElem.1 hi
    have := h k hk
    rw [List.getD_eq_getElem?_getD, List.getElem?_eq_getElem hk] at this
    simp only [Option.getD_some] at this
    rw [this]; decide
theorem firstBad_at {l : List (Nat × Nat)} {k : Nat} (hk : k < l.length) (h : ∀ j, j < k → checkN (l.getD j (0, 0)).1 (l.getD j (0, 0)).2 = 0) (hb : checkN (l.getD k (0, 0)).1 (l.getD k (0, 0)).2 ≠ 0) : firstBad l = checkN (l.getD k (0, 0)).1 (l.getD k (0, 0)).2 := by
  induction l generalizing k with
  | nil => simp at hk
  | cons i l ih =>
    unfold firstBad
    rw [List.map_cons, List.find?_cons]
    cases k with
    | zero =>
      have : checkN i.1 i.2 ≠ 0 := hb
      have h1 : (checkN i.1 i.2 != 0) = true := by simpa using this
      rw [h1]; rfl
    | succ k =>
      have h0 : checkN i.1 i.2 = 0 := h 0 (by omega)
      have h1 : (checkN i.1 i.2 != 0) = false := by rw [h0]; rfl
      rw [h1]
      exact ih (by simpa using hk) (fun j hj => h (j + 1) (by omega)) hb
theorem firstBad_all {l : List (Nat × Nat)} (h : firstBad l = 0) (k : Nat) (hk : k < l.length) : checkN (l.getD k (0, 0)).1 (l.getD k (0, 0)).2 = 0 := by
  induction k using Nat.strongRecOn with
  | _ k ih =>
    by_cases e : checkN (l.getD k (0, 0)).1 (l.getD k (0, 0)).2 = 0
    · exact e
    · exact (firstBad_at hk (fun j hj => ih j hj (by omega)) e).symm.trans h
theorem namesN_iff (lx : List (ByteArray × Nat)) : namesN lx = true ↔ ∀ i, i < lx.length → nameN lx i = true := by
  unfold namesN
  rw [List.all_eq_true]
  exact ⟨fun h i hi => h i (List.mem_range.2 hi), fun h i hi => h i (List.mem_range.1 hi)⟩
end Go.Proofs.YtgpicmiaanapkaaGreat
/- image.Check. -/
namespace Go.Proofs.YtgpicmiaanapkaaGreat
open Go.RowKit
theorem cells_new6 (w : World) (a b c d e f : Value) (t : TypeId) : (w.alloc (.cells #[a, b, c, d, e, f] t)).cell? ⟨w.heap.size, 0, none⟩ = some a ∧ (w.alloc (.cells #[a, b, c, d, e, f] t)).cell? ⟨w.heap.size, 1, none⟩ = some b ∧ (w.alloc (.cells #[a, b, c, d, e, f] t)).cell? ⟨w.heap.size, 2, none⟩ = some c ∧
    (w.alloc (.cells #[a, b, c, d, e, f] t)).cell? ⟨w.heap.size, 3, none⟩ = some d ∧ (w.alloc (.cells #[a, b, c, d, e, f] t)).cell? ⟨w.heap.size, 4, none⟩ = some e ∧ (w.alloc (.cells #[a, b, c, d, e, f] t)).cell? ⟨w.heap.size, 5, none⟩ = some f :=
  ⟨by simp [go_sem], by simp [go_sem], by simp [go_sem], by simp [go_sem], by simp [go_sem], by simp [go_sem]⟩
theorem checkI_1 {m : Img} (h : 16384 < m.code.length) : checkI m = 73 := by unfold checkI; rw [if_pos h]
theorem checkI_2 {m : Img} (h : ¬ 16384 < m.code.length) (h2 : firstBad m.code ≠ 0) : checkI m = firstBad m.code := by unfold checkI; rw [if_neg h, if_pos h2]
theorem checkI_3 {m : Img} (h : ¬ 16384 < m.code.length) (h2 : firstBad m.code = 0) (h3 : 16384 < m.js.length) : checkI m = 86 := by unfold checkI; rw [if_neg h, if_neg (by simpa using h2), if_pos h3]
theorem checkI_4 {m : Img} (h : ¬ 16384 < m.code.length) (h2 : firstBad m.code = 0) (h3 : ¬ 16384 < m.js.length) (h4 : stackN m.stack = false ∨ 65536 < roomN m) : checkI m = 85 := by
  unfold checkI; rw [if_neg h, if_neg (by simpa using h2), if_neg h3, if_pos (by simpa using h4)]
theorem checkI_5 {m : Img} (h : ¬ 16384 < m.code.length) (h2 : firstBad m.code = 0) (h3 : ¬ 16384 < m.js.length) (h4 : stackN m.stack = true) (h5 : ¬ 65536 < roomN m) (h6 : 64 < m.lx.length) : checkI m = 87 := by
  unfold checkI; rw [if_neg h, if_neg (by simpa using h2), if_neg h3, if_neg (by simp [h4]; omega), if_pos h6]
theorem checkI_6 {m : Img} (h : ¬ 16384 < m.code.length) (h2 : firstBad m.code = 0) (h3 : ¬ 16384 < m.js.length) (h4 : stackN m.stack = true) (h5 : ¬ 65536 < roomN m) (h6 : ¬ 64 < m.lx.length) : checkI m = if namesN m.lx then 0 else 87 := by
  unfold checkI; rw [if_neg h, if_neg (by simpa using h2), if_neg h3, if_neg (by simp [h4]; omega), if_neg h6]
theorem ret_natE {k : IntKind} {a b : Nat} (h : b = a) : Ending.returned (.int k (a : Int)) = .returned (.int k (b : Int)) := by rw [h]
set_option maxRecDepth 100000 in
set_option maxHeartbeats 4000000 in
theorem imgCheck_any (vc vj vd vn : Value) (m : Img) (w : World) (h : ImgAt w vc vj vd vn m) :
    Calls Tryz.prog 98 #[.agg #[vc, vj, vd, .int .u32 m.zero, .int .u32 m.stack, vn]] w fun e w' => e = .returned (.int .i64 (checkI m)) ∧ Below w.heap.size w w' := by
  have H := Lib.hid h
  have hb0 := Bel.new w (.cells #[vc, vj, vd, .int .u32 m.zero, .int .u32 m.stack, vn] 28)
  have Hb0 := Lib.hid hb0
  have HC := Lib.hid (cells_new6 w vc vj vd (.int .u32 m.zero) (.int .u32 m.stack) vn 28)
  have hlt0 : w.heap.size < (w.alloc (.cells #[vc, vj, vd, .int .u32 m.zero, .int .u32 m.stack, vn] 28)).heap.size := by simp
  obtain ⟨ac, cc, rfl, hlc, hcm, -, hpc⟩ := h.c.opened
  obtain ⟨aj, cj, rfl, -, hlj, hjm, -, -⟩ := h.j.1
  obtain ⟨ad, cd, rfl, -, hld, hdm, -, -⟩ := h.d.1
  obtain ⟨an, cn, rfl, -, hln, hnm, -, -⟩ := h.n.1
  have hcl : m.code.length ≤ 9223372036854775807 := by unfold maxLen at hcm; omega
  have hjl : m.js.length ≤ 9223372036854775807 := by unfold maxLen at hjm; omega
  have hdl : m.data.length ≤ 9223372036854775807 := by unfold maxLen at hdm; omega
  have hnl : m.lx.length ≤ 9223372036854775807 := by unfold maxLen at hnm; omega
  have Hpc := Lib.hid hpc
  have hz := h.z
  have hs := h.s
  clear h hpc hb0
  obtain ⟨r, hr⟩ : ∃ r, r = checkI m := ⟨_, rfl⟩
  rw [← hr]
  have HR := Lib.hid hr
  clear hr
  by_cases h1 : 16384 < m.code.length
  · have h1' : (16384 : Int) < (m.code.length : Int) := by omega
    go_enter Tryz.func98, Tryz.ntmps98
    go_wp2
    go_ret
    exact ⟨ret_natE (a := 73) (HR.out.trans (checkI_1 h1)), Hb0.out⟩
  · have h1' : ¬ (16384 : Int) < (m.code.length : Int) := by omega
    go_enter Tryz.func98, Tryz.ntmps98
    go_wp2_with fail
    obtain ⟨W0, hW0⟩ : ∃ W0, W0 = w.alloc (.cells #[.slice ac m.code.length cc, .slice aj m.js.length cj, .slice ad m.data.length cd, .int .u32 m.zero, .int .u32 m.stack, .slice an m.lx.length cn] 28) := ⟨_, rfl⟩
    rw [← hW0] at HC Hb0 hlt0 ⊢
    clear hW0
    go_loopw [14] (fun i wr => ∃ k : Nat, k ≤ m.code.length ∧ i = .int .i64 k ∧ Below W0.heap.size W0 wr ∧ ∀ j, j < k → checkN (m.code.getD j (0, 0)).1 (m.code.getD j (0, 0)).2 = 0) (fun i _ => m.code.length - (intOf i).toNat)
    case atStart => exact ⟨0, by omega, rfl, Below.refl _ _, fun j h => absurd h (Nat.not_lt_zero j)⟩
    case round =>
      obtain ⟨k, hk, rfl, hb, hgd⟩ := hrel
      by_cases hlt : k < m.code.length
      · obtain ⟨b, off, rfl, hbl, hc⟩ := Hpc.out (by omega)
        obtain ⟨q1, q2⟩ := hc k hlt
        have hbw := Bel.tr Hb0.out hb
        have q1 := (hbw.cell (p := ⟨b, off + k * 2, none⟩) hbl).trans q1
        have q2 := (hbw.cell (p := ⟨b, off + k * 2 + 1, none⟩) hbl).trans q2
        have hol := (H.out.c.lt k).1
        have hbad := fun h => firstBad_at (l := m.code) hlt hgd h
        have hgd' : checkN (m.code.getD k (0, 0)).1 (m.code.getD k (0, 0)).2 = 0 → ∀ j, j < k + 1 → checkN (m.code.getD j (0, 0)).1 (m.code.getD j (0, 0)).2 = 0 := fun h j hj => by
          by_cases e : j = k
          · subst e; exact h
          · exact hgd j (by omega)
        have hbk := Bel.new wr (.cells #[.int .u8 (m.code.getD k (0, 0)).1, .int .u32 (m.code.getD k (0, 0)).2] 122)
        have Hbk := Lib.hid (Bel.tr hb hbk)
        generalize m.code.getD k (0, 0) = x at *
        obtain ⟨o, x⟩ := x
        simp only at q1 q2 hol hbad hgd'
        have hki : (k : Int) < (m.code.length : Int) := by omega
        have hk0 : (0 : Int) ≤ (k : Int) := by omega
        have hck := Lib.hid (check_any o x hol (wr.alloc (.cells #[.int .u8 o, .int .u32 x] 122)))
        obtain ⟨ck, hce⟩ : ∃ ck, ck = checkN o x := ⟨_, rfl⟩
        rw [← hce] at hck hbad hgd'
        have Hbad := Lib.hid hbad
        have Hgd' := Lib.hid hgd'
        clear hbad hgd' hgd hc hbw hb hce hbk
        go_wp2_with fail
        refine hck.out.mono ?_
        rintro e w1 ⟨rfl, hb1⟩
        have Hb1 := Lib.hid (Bel.tr Hbk.out hb1)
        clear hb1 hck q1 q2
        by_cases hc0 : ck = 0
        · have HG := Lib.hid (Hgd'.out hc0)
          subst hc0
          go_wp2
          go_roundw
          case rel => exact ⟨k + 1, by omega, by go_num, Hb1.out, HG.out⟩
          case measure => simp [intOf]; omega
        · have hd : ((ck : Int) == 0) = false := by simp; omega
          have hd2 : ((ck : Int) != 0) = true := by simp; omega
          have HX := Lib.hid (Hbad.out hc0)
          go_wp2
          go_ret
          exact ⟨ret_natE (HR.out.trans ((checkI_2 h1 (by rw [HX.out]; exact hc0)).trans HX.out)), Bel.tr Hb0.out Hb1.out⟩
      · obtain rfl : k = m.code.length := by omega
        have hfb : firstBad m.code = 0 := firstBad_none hgd
        have Hfb := Lib.hid hfb
        have Hb := Lib.hid hb
        obtain ⟨c0, c1, c2, c3, c4, c5⟩ := HC.out
        have c1 := (hb.cell (p := ⟨w.heap.size, 1, none⟩) hlt0).trans c1
        have c2 := (hb.cell (p := ⟨w.heap.size, 2, none⟩) hlt0).trans c2
        have c3 := (hb.cell (p := ⟨w.heap.size, 3, none⟩) hlt0).trans c3
        have c4 := (hb.cell (p := ⟨w.heap.size, 4, none⟩) hlt0).trans c4
        have c5 := (hb.cell (p := ⟨w.heap.size, 5, none⟩) hlt0).trans c5
        clear hgd hfb c0 hb Hpc hlt hk
        by_cases h2 : 16384 < m.js.length
        · have h2' : (16384 : Int) < (m.js.length : Int) := by omega
          go_wp2
          go_ret
          exact ⟨ret_natE (a := 86) (HR.out.trans (checkI_3 h1 Hfb.out h2)), Bel.tr Hb0.out Hb.out⟩
        · have h2' : ¬ (16384 : Int) < (m.js.length : Int) := by omega
          have hst := Lib.hid (stackMay_any m.stack wr)
          have hrm := Lib.hid (fun W => room_any m.data.length m.zero m.stack hdl hz hs W)
          obtain ⟨sb, hsb⟩ : ∃ sb, sb = stackN m.stack := ⟨_, rfl⟩
          rw [← hsb] at hst
          have Hsb := Lib.hid hsb
          clear hsb
          have hrn : m.data.length + m.zero + m.stack = roomN m := rfl
          obtain ⟨rn, hre⟩ : ∃ rn, rn = roomN m := ⟨_, rfl⟩
          rw [hrn, ← hre] at hrm
          have Hre := Lib.hid hre
          clear hrn hre
          cases sb with
          | false =>
            go_wp2_with (go_at_call 202; refine hst.out.mono ?_; rintro e w' ⟨rfl, rfl⟩)
            go_ret
            exact ⟨ret_natE (a := 85) (HR.out.trans (checkI_4 h1 Hfb.out h2 (.inl Hsb.out.symm))), Bel.tr Hb0.out Hb.out⟩
          | true =>
            by_cases h5 : 65536 < rn
            · have h5' : (65536 : Int) < (rn : Int) := by omega
              go_wp2_with (first | (go_at_call 202; refine hst.out.mono ?_; rintro e w' ⟨rfl, rfl⟩) | (go_at_call 203; refine (hrm.out _).mono ?_; rintro e w' ⟨rfl, rfl⟩))
              go_ret
              exact ⟨ret_natE (a := 85) (HR.out.trans (checkI_4 h1 Hfb.out h2 (.inr (by rw [← Hre.out]; exact h5)))), Bel.tr Hb0.out Hb.out⟩
            · have h5' : ¬ (65536 : Int) < (rn : Int) := by omega
              by_cases h6 : 64 < m.lx.length
              · have h6' : (64 : Int) < (m.lx.length : Int) := by omega
                go_wp2_with (first | (go_at_call 202; refine hst.out.mono ?_; rintro e w' ⟨rfl, rfl⟩) | (go_at_call 203; refine (hrm.out _).mono ?_; rintro e w' ⟨rfl, rfl⟩))
                go_ret
                exact ⟨ret_natE (a := 87) (HR.out.trans (checkI_5 h1 Hfb.out h2 Hsb.out.symm (by rw [← Hre.out]; exact h5) h6)), Bel.tr Hb0.out Hb.out⟩
              · have h6' : ¬ (64 : Int) < (m.lx.length : Int) := by omega
                have HR6 := Lib.hid (HR.out.trans (checkI_6 h1 Hfb.out h2 Hsb.out.symm (by rw [← Hre.out]; exact h5) h6))
                have c5h := Lib.hid c5
                have hwl : w.heap.size < wr.heap.size := World.block_lt_of_cell? _ _ c5
                go_wp2_with (first | (go_at_call 202; refine hst.out.mono ?_; rintro e w' ⟨rfl, rfl⟩) | (go_at_call 203; refine (hrm.out _).mono ?_; rintro e w' ⟨rfl, rfl⟩))
                clear c1 c2 c3 c4 c5 hst hrm
                obtain ⟨wo, rfl⟩ : ∃ wo : World, wo = wr := ⟨_, rfl⟩
                go_loopw [6, 50] (fun _ i wr => ∃ k : Nat, k ≤ m.lx.length ∧ i = .int .i64 k ∧ wr = wo ∧ ∀ j, j < k → nameN m.lx j = true) (fun _ i _ => m.lx.length - (intOf i).toNat)
                case atStart => exact ⟨0, by omega, rfl, rfl, fun j h => absurd h (Nat.not_lt_zero j)⟩
                case round =>
                  obtain ⟨k, hk, rfl, rfl, hgd⟩ := hrel
                  by_cases hlt : k < m.lx.length
                  · have c5 := c5h.out
                    have hki : (k : Int) < (m.lx.length : Int) := by omega
                    have hk0 : (0 : Int) ≤ (k : Int) := by omega
                    have hnm := nameMay_any (.slice an m.lx.length cn) m.lx k hlt wr (H.out.n.below (Bel.tr Hb0.out Hb.out))
                    obtain ⟨nb, hnb⟩ : ∃ nb, nb = nameN m.lx k := ⟨_, rfl⟩
                    rw [← hnb] at hnm
                    have Hnb := Lib.hid hnb
                    have Hnm := Lib.hid hnm
                    have Hgd := Lib.hid hgd
                    clear hnb hnm hgd
                    cases nb with
                    | false =>
                      go_wp2_with (go_at_call 204; refine Hnm.out.mono ?_; rintro e w' ⟨rfl, rfl⟩)
                      go_ret
                      exact ⟨ret_natE (a := 87) (HR6.out.trans (if_neg (fun h => by have := (namesN_iff _).1 h k hlt; rw [← Hnb.out] at this; cases this))), Bel.tr Hb0.out Hb.out⟩
                    | true =>
                      go_wp2_with (go_at_call 204; refine Hnm.out.mono ?_; rintro e w' ⟨rfl, rfl⟩)
                      go_roundw
                      case rel => exact ⟨k + 1, by omega, by go_num, trivial, fun j hj => by
                        by_cases e : j = k
                        · rw [e]; exact Hnb.out.symm
                        · exact Hgd.out j (by omega)⟩
                      case measure => simp [intOf]; omega
                  · obtain rfl : k = m.lx.length := by omega
                    have hall : namesN m.lx = true := (namesN_iff _).2 hgd
                    have HX := Lib.hid (HR6.out.trans (if_pos hall))
                    clear hgd hall
                    go_wp2
                    go_ret
                    exact ⟨ret_natE (a := 0) HX.out, Bel.tr Hb0.out Hb.out⟩
end Go.Proofs.YtgpicmiaanapkaaGreat
/- Clones of lists; verify.copied. -/
namespace Go.Proofs.YtgpicmiaanapkaaGreat
open Go.RowKit
set_option linter.unusedVariables false
theorem info217 : (Tryz.prog.info? 217).map (fun i => (i.zero, i.size, i.bytes)) = some (some (.agg #[.string ByteArray.empty, .int .u32 0]), 2, 24) := by kernel_rfl
theorem encI_one (l : List (Nat × Nat)) : ∀ u ∈ encI l, u.oneCell' = true := by
  induction l with
  | nil => intro u h; cases h
  | cons i l ih =>
    intro u h
    rcases List.mem_cons.1 h with rfl | h
    · rfl
    · rcases List.mem_cons.1 h with rfl | h
      · rfl
      · exact ih u h
theorem run_bs22_0' (w : World) : (Instr.buildSlice 22 0 #[]).run Tryz.prog w = .ok (.slice (some ⟨w.heap.size, 0, none⟩) 0 0) (w.alloc (.cells #[] 122)) := by kernel_rfl
set_option maxRecDepth 100000 in
set_option maxHeartbeats 1000000 in
theorem cloneI_any (u : Value) (n : Nat) (cs : List Value) (hn : n ≤ 5000000000000) (hone : ∀ x ∈ cs, x.oneCell' = true) (w : World) (hu : Reads w 2 u n cs) :
    Calls Tryz.prog 210 #[u] w fun e w' => ∃ v, e = .returned v ∧ w'.ownsRow w.heap.size 122 2 v n cs ∧ Below w.heap.size w w' := by
  obtain ⟨i0, hi, hz0, hz1, hz2⟩ := info_parts info36'
  have hb := run_bs22_0'
  have qn : ∀ (w : World) (a : Option Addr) (n c n' c' : Nat), (binOp .eql 22 (.slice a n c) (.slice none n' c')).run Tryz.prog w = .ok (.bool a.isNone) w := fun w a n c n' c' => Lib.run_eql_slice_nil w _ _ a n c n' c' Tryz.underlying22
  obtain ⟨a, cap, rfl, h1, h2, h3, hnn, hp⟩ := hu
  cases a with
  | none =>
    obtain rfl := hnn rfl
    obtain rfl : n = 0 := by omega
    obtain rfl : cs = [] := List.eq_nil_of_length_eq_zero (by omega)
    clear hp hnn h1
    go_enter Tryz.func210, Tryz.ntmps210
    go_wp2
    exact bodyPost_ret (v := .slice none 0 0) (by simp [results, Tryz.results210, go_sem]) rfl ⟨_, rfl, World.ownsRow_nil _ _ _ _, Below.refl _ _⟩
  | some ad =>
    have Hu := Lib.hid (show Reads (w.alloc (.cells #[] 122)) 2 (.slice (some ad) n cap) n cs from Reads.below ⟨some ad, cap, rfl, h1, h2, h3, hnn, hp⟩ (Bel.new _ _))
    have Hone := Lib.hid hone
    have Hoe := Lib.hid (own_empty w 122 2)
    clear hp hnn h1 hone
    go_enter Tryz.func210, Tryz.ntmps210
    go_wp2_with ((with_reducible refine wpList_append_reads (o := ⟨some 7, .call { callee := .builtin .append, args := #[.tmp 5, .tmp 6], argTypes := #[22, 22] }, _, _, _, none⟩) rfl _ _ 22 rfl 122 i0 (.agg #[.int .u8 0, .int .u32 0]) 2 8 Tryz.underlying22 hi hz0 hz1 hz2 ?_ ?_ _ 0 [] ?_ Hoe.out _ n cs ?_ Hu.out Hone.out ?_ ?_ ?_); rfl; decide; rfl; rfl; (unfold maxLen; omega); omega; intro v1 w1 o1 g1)
    have hx : w1.ownsRow w.heap.size 122 2 v1 n cs := by
      have := own_from o1 (B := w.heap.size) (fun g e => by
        rcases g1.2 g e with h' | h'
        · cases h'; exact Nat.le_refl _
        · simp at h'; omega)
      simpa using this
    have hbw : Below w.heap.size w w1 := (Bel.new w (.cells #[] 122)).grown g1.1 (by simp) (fun g e => by cases e; exact Nat.le_refl _)
    exact bodyPost_ret (v := v1) (by simp [results, Tryz.results210, go_sem]) rfl ⟨_, rfl, hx, hbw⟩
theorem run_bs23_0' (w : World) : (Instr.buildSlice 23 0 #[]).run Tryz.prog w = .ok (.slice (some ⟨w.heap.size, 0, none⟩) 0 0) (w.alloc (.cells #[] 25)) := by kernel_rfl
set_option maxRecDepth 100000 in
set_option maxHeartbeats 1000000 in
theorem cloneW_any (u : Value) (n : Nat) (cs : List Value) (hn : n ≤ 5000000000000) (hone : ∀ x ∈ cs, x.oneCell' = true) (w : World) (hu : Reads w 1 u n cs) :
    Calls Tryz.prog 115 #[u] w fun e w' => ∃ v, e = .returned v ∧ w'.ownsRow w.heap.size 25 1 v n cs ∧ Below w.heap.size w w' := by
  obtain ⟨i0, hi, hz0, hz1, hz2⟩ := info_parts info32
  have hb := run_bs23_0'
  have qn : ∀ (w : World) (a : Option Addr) (n c n' c' : Nat), (binOp .eql 23 (.slice a n c) (.slice none n' c')).run Tryz.prog w = .ok (.bool a.isNone) w := fun w a n c n' c' => Lib.run_eql_slice_nil w _ _ a n c n' c' Tryz.underlying23
  obtain ⟨a, cap, rfl, h1, h2, h3, hnn, hp⟩ := hu
  cases a with
  | none =>
    obtain rfl := hnn rfl
    obtain rfl : n = 0 := by omega
    obtain rfl : cs = [] := List.eq_nil_of_length_eq_zero (by omega)
    clear hp hnn h1
    go_enter Tryz.func115, Tryz.ntmps115
    go_wp2
    exact bodyPost_ret (v := .slice none 0 0) (by simp [results, Tryz.results115, go_sem]) rfl ⟨_, rfl, World.ownsRow_nil _ _ _ _, Below.refl _ _⟩
  | some ad =>
    have Hu := Lib.hid (show Reads (w.alloc (.cells #[] 25)) 1 (.slice (some ad) n cap) n cs from Reads.below ⟨some ad, cap, rfl, h1, h2, h3, hnn, hp⟩ (Bel.new _ _))
    have Hone := Lib.hid hone
    have Hoe := Lib.hid (own_empty w 25 1)
    clear hp hnn h1 hone
    go_enter Tryz.func115, Tryz.ntmps115
    go_wp2_with ((with_reducible refine wpList_append_reads (o := ⟨some 7, .call { callee := .builtin .append, args := #[.tmp 5, .tmp 6], argTypes := #[23, 23] }, _, _, _, none⟩) rfl _ _ 23 rfl 25 i0 (.int .u32 0) 1 4 Tryz.underlying23 hi hz0 hz1 hz2 ?_ ?_ _ 0 [] ?_ Hoe.out _ n cs ?_ Hu.out Hone.out ?_ ?_ ?_); rfl; decide; rfl; rfl; (unfold maxLen; omega); omega; intro v1 w1 o1 g1)
    have hx : w1.ownsRow w.heap.size 25 1 v1 n cs := by
      have := own_from o1 (B := w.heap.size) (fun g e => by
        rcases g1.2 g e with h' | h'
        · cases h'; exact Nat.le_refl _
        · simp at h'; omega)
      simpa using this
    have hbw : Below w.heap.size w w1 := (Bel.new w (.cells #[] 25)).grown g1.1 (by simp) (fun g e => by cases e; exact Nat.le_refl _)
    exact bodyPost_ret (v := v1) (by simp [results, Tryz.results115, go_sem]) rfl ⟨_, rfl, hx, hbw⟩
theorem run_bs24_0' (w : World) : (Instr.buildSlice 24 0 #[]).run Tryz.prog w = .ok (.slice (some ⟨w.heap.size, 0, none⟩) 0 0) (w.alloc (.cells #[] 5)) := by kernel_rfl
set_option maxRecDepth 100000 in
set_option maxHeartbeats 1000000 in
theorem cloneB_any (u : Value) (n : Nat) (cs : List Value) (hn : n ≤ 5000000000000) (hone : ∀ x ∈ cs, x.oneCell' = true) (w : World) (hu : Reads w 1 u n cs) :
    Calls Tryz.prog 211 #[u] w fun e w' => ∃ v, e = .returned v ∧ w'.ownsRow w.heap.size 5 1 v n cs ∧ Below w.heap.size w w' := by
  obtain ⟨i0, hi, hz0, hz1, hz2⟩ := info_parts info5
  have hb := run_bs24_0'
  have qn : ∀ (w : World) (a : Option Addr) (n c n' c' : Nat), (binOp .eql 24 (.slice a n c) (.slice none n' c')).run Tryz.prog w = .ok (.bool a.isNone) w := fun w a n c n' c' => Lib.run_eql_slice_nil w _ _ a n c n' c' Tryz.underlying24
  obtain ⟨a, cap, rfl, h1, h2, h3, hnn, hp⟩ := hu
  cases a with
  | none =>
    obtain rfl := hnn rfl
    obtain rfl : n = 0 := by omega
    obtain rfl : cs = [] := List.eq_nil_of_length_eq_zero (by omega)
    clear hp hnn h1
    go_enter Tryz.func211, Tryz.ntmps211
    go_wp2
    exact bodyPost_ret (v := .slice none 0 0) (by simp [results, Tryz.results211, go_sem]) rfl ⟨_, rfl, World.ownsRow_nil _ _ _ _, Below.refl _ _⟩
  | some ad =>
    have Hu := Lib.hid (show Reads (w.alloc (.cells #[] 5)) 1 (.slice (some ad) n cap) n cs from Reads.below ⟨some ad, cap, rfl, h1, h2, h3, hnn, hp⟩ (Bel.new _ _))
    have Hone := Lib.hid hone
    have Hoe := Lib.hid (own_empty w 5 1)
    clear hp hnn h1 hone
    go_enter Tryz.func211, Tryz.ntmps211
    go_wp2_with ((with_reducible refine wpList_append_reads (o := ⟨some 7, .call { callee := .builtin .append, args := #[.tmp 5, .tmp 6], argTypes := #[24, 24] }, _, _, _, none⟩) rfl _ _ 24 rfl 5 i0 (.int .u8 0) 1 1 Tryz.underlying24 hi hz0 hz1 hz2 ?_ ?_ _ 0 [] ?_ Hoe.out _ n cs ?_ Hu.out Hone.out ?_ ?_ ?_); rfl; decide; rfl; rfl; (unfold maxLen; omega); omega; intro v1 w1 o1 g1)
    have hx : w1.ownsRow w.heap.size 5 1 v1 n cs := by
      have := own_from o1 (B := w.heap.size) (fun g e => by
        rcases g1.2 g e with h' | h'
        · cases h'; exact Nat.le_refl _
        · simp at h'; omega)
      simpa using this
    have hbw : Below w.heap.size w w1 := (Bel.new w (.cells #[] 5)).grown g1.1 (by simp) (fun g e => by cases e; exact Nat.le_refl _)
    exact bodyPost_ret (v := v1) (by simp [results, Tryz.results211, go_sem]) rfl ⟨_, rfl, hx, hbw⟩
theorem run_bs26_0' (w : World) : (Instr.buildSlice 26 0 #[]).run Tryz.prog w = .ok (.slice (some ⟨w.heap.size, 0, none⟩) 0 0) (w.alloc (.cells #[] 217)) := by kernel_rfl
set_option maxRecDepth 100000 in
set_option maxHeartbeats 1000000 in
theorem cloneX_any (u : Value) (n : Nat) (cs : List Value) (hn : n ≤ 5000000000000) (hone : ∀ x ∈ cs, x.oneCell' = true) (w : World) (hu : Reads w 2 u n cs) :
    Calls Tryz.prog 212 #[u] w fun e w' => ∃ v, e = .returned v ∧ w'.ownsRow w.heap.size 217 2 v n cs ∧ Below w.heap.size w w' := by
  obtain ⟨i0, hi, hz0, hz1, hz2⟩ := info_parts info217
  have hb := run_bs26_0'
  have qn : ∀ (w : World) (a : Option Addr) (n c n' c' : Nat), (binOp .eql 26 (.slice a n c) (.slice none n' c')).run Tryz.prog w = .ok (.bool a.isNone) w := fun w a n c n' c' => Lib.run_eql_slice_nil w _ _ a n c n' c' Tryz.underlying26
  obtain ⟨a, cap, rfl, h1, h2, h3, hnn, hp⟩ := hu
  cases a with
  | none =>
    obtain rfl := hnn rfl
    obtain rfl : n = 0 := by omega
    obtain rfl : cs = [] := List.eq_nil_of_length_eq_zero (by omega)
    clear hp hnn h1
    go_enter Tryz.func212, Tryz.ntmps212
    go_wp2
    exact bodyPost_ret (v := .slice none 0 0) (by simp [results, Tryz.results212, go_sem]) rfl ⟨_, rfl, World.ownsRow_nil _ _ _ _, Below.refl _ _⟩
  | some ad =>
    have Hu := Lib.hid (show Reads (w.alloc (.cells #[] 217)) 2 (.slice (some ad) n cap) n cs from Reads.below ⟨some ad, cap, rfl, h1, h2, h3, hnn, hp⟩ (Bel.new _ _))
    have Hone := Lib.hid hone
    have Hoe := Lib.hid (own_empty w 217 2)
    clear hp hnn h1 hone
    go_enter Tryz.func212, Tryz.ntmps212
    go_wp2_with ((with_reducible refine wpList_append_reads (o := ⟨some 7, .call { callee := .builtin .append, args := #[.tmp 5, .tmp 6], argTypes := #[26, 26] }, _, _, _, none⟩) rfl _ _ 26 rfl 217 i0 (.agg #[.string ByteArray.empty, .int .u32 0]) 2 24 Tryz.underlying26 hi hz0 hz1 hz2 ?_ ?_ _ 0 [] ?_ Hoe.out _ n cs ?_ Hu.out Hone.out ?_ ?_ ?_); rfl; decide; rfl; rfl; (unfold maxLen; omega); omega; intro v1 w1 o1 g1)
    have hx : w1.ownsRow w.heap.size 217 2 v1 n cs := by
      have := own_from o1 (B := w.heap.size) (fun g e => by
        rcases g1.2 g e with h' | h'
        · cases h'; exact Nat.le_refl _
        · simp at h'; omega)
      simpa using this
    have hbw : Below w.heap.size w w1 := (Bel.new w (.cells #[] 217)).grown g1.1 (by simp) (fun g e => by cases e; exact Nat.le_refl _)
    exact bodyPost_ret (v := v1) (by simp [results, Tryz.results212, go_sem]) rfl ⟨_, rfl, hx, hbw⟩
/-- An image whose lists are the call's own. -/
structure ImgOwn (w : World) (B : Nat) (vc vj vd vn : Value) (m : Img) : Prop where
  c : w.ownsRow B 122 2 vc m.code.length (encI m.code)
  j : w.ownsRow B 25 1 vj m.js.length (encN .u32 m.js)
  d : w.ownsRow B 5 1 vd m.data.length (encN .u8 m.data)
  n : w.ownsRow B 217 2 vn m.lx.length (encX m.lx)
theorem ImgOwn.below {w w' : World} {B : Nat} {vc vj vd vn : Value} {m : Img} (h : ImgOwn w B vc vj vd vn m) (hb : Below w.heap.size w w') : ImgOwn w' B vc vj vd vn m :=
  ⟨own_below h.c hb, own_below h.j hb, own_below h.d hb, own_below h.n hb⟩
theorem ImgOwn.at {w w0 : World} {B : Nat} {vc vj vd vn xc xj xd xn : Value} {m : Img} (h : ImgOwn w B vc vj vd vn m) (h0 : ImgAt w0 xc xj xd xn m) : ImgAt w vc vj vd vn m :=
  ⟨⟨Reads.own h.c (by decide), h0.c.2⟩, ⟨Reads.own h.j (by decide), h0.j.2⟩, ⟨Reads.own h.d (by decide), h0.d.2⟩, ⟨Reads.own h.n (by decide), h0.n.2⟩, h0.z, h0.s⟩
/-- What image.Check lets by is small. -/
structure Small (m : Img) : Prop where
  c : m.code.length ≤ 16384
  j : m.js.length ≤ 16384
  d : m.data.length ≤ 65536
  n : m.lx.length ≤ 64
theorem checkI_ok {m : Img} (h : checkI m = 0) : m.code.length ≤ 16384 ∧ firstBad m.code = 0 ∧ m.js.length ≤ 16384 ∧ stackN m.stack = true ∧ roomN m ≤ 65536 ∧ m.lx.length ≤ 64 ∧ namesN m.lx = true := by
  by_cases h1 : 16384 < m.code.length
  · rw [checkI_1 h1] at h; cases h
  by_cases h2 : firstBad m.code = 0
  case neg => rw [checkI_2 h1 h2] at h; exact absurd h h2
  by_cases h3 : 16384 < m.js.length
  · rw [checkI_3 h1 h2 h3] at h; cases h
  by_cases h4 : stackN m.stack = false ∨ 65536 < roomN m
  · rw [checkI_4 h1 h2 h3 h4] at h; cases h
  have h5 : stackN m.stack = true := by
    cases hs : stackN m.stack with
    | true => rfl
    | false => exact absurd (.inl hs) h4
  have h6 : ¬ 65536 < roomN m := fun h' => h4 (.inr h')
  by_cases h7 : 64 < m.lx.length
  · rw [checkI_5 h1 h2 h3 h5 h6 h7] at h; cases h
  rw [checkI_6 h1 h2 h3 h5 h6 h7] at h
  cases hn : namesN m.lx with
  | true => exact ⟨by omega, h2, by omega, h5, by omega, by omega, rfl⟩
  | false => rw [hn] at h; cases h
theorem small_of {m : Img} (h : checkI m = 0) : Small m := by
  obtain ⟨h1, -, h3, -, h5, h6, -⟩ := checkI_ok h
  unfold roomN at h5
  exact ⟨h1, h3, by omega, h6⟩
theorem zero28 (w : World) : (zeroValue 28).run Tryz.prog w = .ok (.agg #[.slice none 0 0, .slice none 0 0, .slice none 0 0, .int .u32 0, .int .u32 0, .slice none 0 0]) w := by kernel_rfl
def zImg : Array Value := #[.slice none 0 0, .slice none 0 0, .slice none 0 0, .int .u32 0, .int .u32 0, .slice none 0 0]
/-- The two blocks of verify.copied. -/
structure CopI (w W : World) (cs : Array Value) : Prop where
  a : W.heap[w.heap.size]? = some (.cells cs 28 (0, 0))
  b : W.heap[w.heap.size + 1]? = some (.cells zImg 28 (0, 0))
  bel : Below w.heap.size w W
theorem CopI.lt {w W : World} {cs : Array Value} (h : CopI w W cs) : w.heap.size + 1 < W.heap.size := (Array.getElem?_eq_some_iff.1 h.b).1
theorem CopI.call {w W W' : World} {cs : Array Value} (h : CopI w W cs) (hb : Below W.heap.size W W') : CopI w W' cs :=
  ⟨(hb.block _ (by have := h.lt; omega)).trans h.a, (hb.block _ h.lt).trans h.b, Bel.tr h.bel hb⟩
theorem CopI.set {w W : World} {cs : Array Value} (h : CopI w W cs) (i : Nat) (v : Value) (cs' : Array Value) (he : cs' = cs.setIfInBounds i v) : CopI w (W.setCell ⟨w.heap.size, i, none⟩ v) cs' := by
  subst he
  exact ⟨heap_setCell_same _ _ _ _ _ _ h.a, (heap_setCell_other _ _ _ _ (by show w.heap.size + 1 ≠ w.heap.size; omega)).trans h.b, h.bel.setCell (p := ⟨w.heap.size, i, none⟩) (Nat.le_refl _) v⟩
theorem CopI.cell {w W : World} {cs : Array Value} (h : CopI w W cs) (i : Nat) (v : Value) (he : cs[i]? = some v) : W.cell? ⟨w.heap.size, i, none⟩ = some v := (cell_of_row _ _ _ _ _ _ h.a).trans he
theorem CopI.free {w W : World} {cs : Array Value} (h : CopI w W cs) (i : Nat) : W.frozen? ⟨w.heap.size, i, none⟩ = false := frozen_of_row _ _ _ _ _ h.a
/-- A list that came of a call stays where a cell ahead of it is set. -/
theorem own_past {w W : World} {B e sz n i : Nat} {v u : Value} {xs : List Value} (h : W.ownsRow B e sz v n xs) (hB : w.heap.size + 2 ≤ B) : (W.setCell ⟨w.heap.size, i, none⟩ u).ownsRow B e sz v n xs :=
  ownsRow_setCell_other h (fun e => by have := (h.lt _ e).1; simp at this; omega) u
theorem info28 : (Tryz.prog.info? 28).map (·.size) = some 6 := by kernel_rfl
theorem below_setRowB (w : World) {B : Nat} (g : Nat) (cs : Array Value) (h : B ≤ g) : Below B w (w.setRow g cs) :=
  ⟨rfl, rfl, rfl, by simp, fun k hk => setRow_other _ _ _ _ (by omega)⟩
theorem own_row {w W : World} {e sz n : Nat} {v : Value} {xs : List Value} {cs : Array Value} (h : W.ownsRow (w.heap.size + 2) e sz v n xs) : (W.setRow (w.heap.size + 1) cs).ownsRow w.heap.size e sz v n xs := by
  obtain ⟨hl, h⟩ := h
  rcases h with h | ⟨g, cap, cur, hv, hb, hg, rest⟩
  · exact ⟨hl, .inl h⟩
  · exact ⟨hl, .inr ⟨g, cap, cur, hv, by omega, (setRow_other _ _ _ _ (by omega)).trans hg, rest⟩⟩
set_option maxRecDepth 100000 in
set_option maxHeartbeats 4000000 in
theorem copied_any (vc vj vd vn : Value) (m : Img) (hs : Small m) (w : World) (h : ImgAt w vc vj vd vn m) :
    Calls Tryz.prog 105 #[.agg #[vc, vj, vd, .int .u32 m.zero, .int .u32 m.stack, vn]] w fun e w' => ∃ uc uj ud un, e = .returned (.agg #[uc, uj, ud, .int .u32 m.zero, .int .u32 m.stack, un]) ∧ ImgOwn w' w.heap.size uc uj ud un m ∧ Below w.heap.size w w' := by
  have hz := zero28
  have H := Lib.hid h
  obtain ⟨av, cv, hvc⟩ : ∃ a c, vc = .slice a m.code.length c := by obtain ⟨a, c, h, _⟩ := h.c.opened; exact ⟨a, c, h⟩
  obtain ⟨aj, cj, hvj⟩ : ∃ a c, vj = .slice a m.js.length c := by obtain ⟨a, c, h, _⟩ := h.j.1; exact ⟨a, c, h⟩
  obtain ⟨ad, cd, hvd⟩ : ∃ a c, vd = .slice a m.data.length c := by obtain ⟨a, c, h, _⟩ := h.d.1; exact ⟨a, c, h⟩
  obtain ⟨an, cn, hvn⟩ : ∃ a c, vn = .slice a m.lx.length c := by obtain ⟨a, c, h, _⟩ := h.n.1; exact ⟨a, c, h⟩
  subst hvc hvj hvd hvn
  clear h
  obtain ⟨W0, hW0⟩ : ∃ W0, W0 = (w.alloc (.cells #[.slice av m.code.length cv, .slice aj m.js.length cj, .slice ad m.data.length cd, .int .u32 m.zero, .int .u32 m.stack, .slice an m.lx.length cn] 28)).alloc (.cells #[.slice none 0 0, .slice none 0 0, .slice none 0 0, .int .u32 0, .int .u32 0, .slice none 0 0] 28) := ⟨_, rfl⟩
  have I0 := Lib.hid (show CopI w W0 #[.slice av m.code.length cv, .slice aj m.js.length cj, .slice ad m.data.length cd, .int .u32 m.zero, .int .u32 m.stack, .slice an m.lx.length cn] from by
    refine ⟨by rw [hW0]; exact (Below.heap_alloc _ _ _ (by simp)).trans (heap_alloc_new w _), ?_, by rw [hW0]; exact Bel.al (Bel.new _ _) _⟩
    rw [hW0]
    have := heap_alloc_new (w.alloc (.cells #[.slice av m.code.length cv, .slice aj m.js.length cj, .slice ad m.data.length cd, .int .u32 m.zero, .int .u32 m.stack, .slice an m.lx.length cn] 28)) (.cells zImg 28)
    rwa [World.size_alloc] at this)
  have hs2 := Lib.hid (show w.heap.size + 2 ≤ W0.heap.size from I0.out.lt)
  go_enter Tryz.func105, Tryz.ntmps105
  go_wp2_with fail
  rw [← hW0]
  clear hW0
  refine (cloneI_any (.slice av m.code.length cv) m.code.length (encI m.code) (by have := hs.c; omega) (encI_one _) _ (H.out.c.below I0.out.bel).1).mono ?_
  rintro e w1 ⟨u1, rfl, o1, hb1⟩
  obtain ⟨a1, c1, rfl, -, -, -⟩ := own_sl o1
  have J := I0.out.call hb1
  have J' := Lib.hid (J.set 0 (.slice a1 m.code.length c1) #[.slice a1 m.code.length c1, .slice aj m.js.length cj, .slice ad m.data.length cd, .int .u32 m.zero, .int .u32 m.stack, .slice an m.lx.length cn] rfl)
  have r1 := J.cell 0 _ rfl
  have r2 := J.free 0
  have P1 := Lib.hid (own_past (w := w) (i := 0) (u := (.slice a1 m.code.length c1)) (own_from (own_base o1) (B := w.heap.size + 2) (fun g e => by have := (o1.lt g e).1; have := I0.out.lt; omega)) (Nat.le_refl _))
  clear o1 hb1 J
  have r3 := (J'.out.cell 1 _ rfl)
  obtain ⟨W1, hW1⟩ : ∃ W1, W1 = w1.setCell ⟨w.heap.size, 0, none⟩ (.slice a1 m.code.length c1) := ⟨_, rfl⟩
  rw [← hW1] at J' P1
  have I1 := J'
  go_wp2_with fail
  rw [← hW1]
  clear hW1 r1 r2 r3 J'
  refine (cloneW_any (.slice aj m.js.length cj) m.js.length (encN .u32 m.js) (by have := hs.j; omega) (encN_one _ _) _ (H.out.j.below I1.out.bel).1).mono ?_
  rintro e w2 ⟨u2, rfl, o2, hb2⟩
  obtain ⟨a2, c2, rfl, -, -, -⟩ := own_sl o2
  have J := I1.out.call hb2
  have J' := Lib.hid (J.set 1 (.slice a2 m.js.length c2) #[.slice a1 m.code.length c1, .slice a2 m.js.length c2, .slice ad m.data.length cd, .int .u32 m.zero, .int .u32 m.stack, .slice an m.lx.length cn] rfl)
  have r1 := J.cell 1 _ rfl
  have r2 := J.free 1
  have P2 := Lib.hid (own_past (w := w) (i := 1) (u := (.slice a2 m.js.length c2)) (own_from (own_base o2) (B := w.heap.size + 2) (fun g e => by have := (o2.lt g e).1; have := I1.out.lt; omega)) (Nat.le_refl _))
  have P1 := Lib.hid (own_past (w := w) (i := 1) (u := (.slice a2 m.js.length c2)) (own_below P1.out hb2) (Nat.le_refl _))
  clear o2 hb2 J
  have r3 := (J'.out.cell 2 _ rfl)
  obtain ⟨W2, hW2⟩ : ∃ W2, W2 = w2.setCell ⟨w.heap.size, 1, none⟩ (.slice a2 m.js.length c2) := ⟨_, rfl⟩
  rw [← hW2] at J' P1 P2
  have I2 := J'
  go_wp2_with fail
  rw [← hW2]
  clear hW2 r1 r2 r3 J'
  refine (cloneB_any (.slice ad m.data.length cd) m.data.length (encN .u8 m.data) (by have := hs.d; omega) (encN_one _ _) _ (H.out.d.below I2.out.bel).1).mono ?_
  rintro e w3 ⟨u3, rfl, o3, hb3⟩
  obtain ⟨a3, c3, rfl, -, -, -⟩ := own_sl o3
  have J := I2.out.call hb3
  have J' := Lib.hid (J.set 2 (.slice a3 m.data.length c3) #[.slice a1 m.code.length c1, .slice a2 m.js.length c2, .slice a3 m.data.length c3, .int .u32 m.zero, .int .u32 m.stack, .slice an m.lx.length cn] rfl)
  have r1 := J.cell 2 _ rfl
  have r2 := J.free 2
  have P3 := Lib.hid (own_past (w := w) (i := 2) (u := (.slice a3 m.data.length c3)) (own_from (own_base o3) (B := w.heap.size + 2) (fun g e => by have := (o3.lt g e).1; have := I2.out.lt; omega)) (Nat.le_refl _))
  have P1 := Lib.hid (own_past (w := w) (i := 2) (u := (.slice a3 m.data.length c3)) (own_below P1.out hb3) (Nat.le_refl _))
  have P2 := Lib.hid (own_past (w := w) (i := 2) (u := (.slice a3 m.data.length c3)) (own_below P2.out hb3) (Nat.le_refl _))
  clear o3 hb3 J
  have r3 := (J'.out.cell 5 _ rfl)
  obtain ⟨W3, hW3⟩ : ∃ W3, W3 = w3.setCell ⟨w.heap.size, 2, none⟩ (.slice a3 m.data.length c3) := ⟨_, rfl⟩
  rw [← hW3] at J' P1 P2 P3
  have I3 := J'
  go_wp2_with fail
  rw [← hW3]
  clear hW3 r1 r2 r3 J'
  refine (cloneX_any (.slice an m.lx.length cn) m.lx.length (encX m.lx) (by have := hs.n; omega) (encX_one _) _ (H.out.n.below I3.out.bel).1).mono ?_
  rintro e w4 ⟨u4, rfl, o4, hb4⟩
  obtain ⟨a4, c4, rfl, -, -, -⟩ := own_sl o4
  have J := I3.out.call hb4
  have J' := Lib.hid (J.set 5 (.slice a4 m.lx.length c4) #[.slice a1 m.code.length c1, .slice a2 m.js.length c2, .slice a3 m.data.length c3, .int .u32 m.zero, .int .u32 m.stack, .slice a4 m.lx.length c4] rfl)
  have r1 := J.cell 5 _ rfl
  have r2 := J.free 5
  have P4 := Lib.hid (own_past (w := w) (i := 5) (u := (.slice a4 m.lx.length c4)) (own_from (own_base o4) (B := w.heap.size + 2) (fun g e => by have := (o4.lt g e).1; have := I3.out.lt; omega)) (Nat.le_refl _))
  have P1 := Lib.hid (own_past (w := w) (i := 5) (u := (.slice a4 m.lx.length c4)) (own_below P1.out hb4) (Nat.le_refl _))
  have P2 := Lib.hid (own_past (w := w) (i := 5) (u := (.slice a4 m.lx.length c4)) (own_below P2.out hb4) (Nat.le_refl _))
  have P3 := Lib.hid (own_past (w := w) (i := 5) (u := (.slice a4 m.lx.length c4)) (own_below P3.out hb4) (Nat.le_refl _))
  clear o4 hb4 J
  have s0 := J'.out.cell 0 _ rfl
  have s1 := J'.out.cell 1 _ rfl
  have s2 := J'.out.cell 2 _ rfl
  have s3 := J'.out.cell 3 _ rfl
  have s4 := J'.out.cell 4 _ rfl
  have s5 := J'.out.cell 5 _ rfl
  have hB4 := J'.out.b
  have HJ := Lib.hid J'.out
  obtain ⟨W4, hW4⟩ : ∃ W4, W4 = w4.setCell ⟨w.heap.size, 5, none⟩ (.slice a4 m.lx.length c4) := ⟨_, rfl⟩
  have HB4 := Lib.hid hB4
  clear hB4 hW4 J'
  go_wp2_with (((with_reducible refine wpList_store_row (o := ⟨none, .store 28 (.tmp 2) (.tmp 19), _, _, _, none⟩) rfl 28 _ _ rfl (w.heap.size + 1) #[.slice a1 m.code.length c1, .slice a2 m.js.length c2, .slice a3 m.data.length c3, .int .u32 m.zero, .int .u32 m.stack, .slice a4 m.lx.length c4] ?_ ?_ 28 _ HB4.out ?_ ?_ ?_ ?_); rfl; rfl; exact info28; rfl; (simp [Value.oneCell'])))
  refine bodyPost_ret (v := .agg #[.slice a1 m.code.length c1, .slice a2 m.js.length c2, .slice a3 m.data.length c3, .int .u32 m.zero, .int .u32 m.stack, .slice a4 m.lx.length c4]) (results_cell_row Tryz.results105 _ _ (w.heap.size + 1) 28 _ (0, 0) _ rfl (setRow_heap _ _ _ _ _ _ HB4.out) Tryz.underlying28 rfl info28) rfl ⟨_, _, _, _, rfl, ?_, ?_⟩
  · exact ⟨own_row P1.out, own_row P2.out, own_row P3.out, own_row P4.out⟩
  · exact HJ.out.bel.trans (below_setRowB _ _ _ (by omega))
end Go.Proofs.YtgpicmiaanapkaaGreat
/- flow.found, (*graph).info. -/
namespace Go.Proofs.YtgpicmiaanapkaaGreat
open Go.RowKit
set_option linter.unusedVariables false
theorem FindBad.ne {code : List (Nat × Nat)} {js ats : List Nat} {i c : Nat} (h : FindBad code js ats i c) : c ≠ 0 := by
  cases h with
  | enc h => exact h
  | first _ _ => decide
  | fault _ _ i _ _ hf => exact hf
  | jump _ _ _ _ _ _ _ => decide
  | name _ _ _ _ _ _ _ _ => decide
theorem FindBad.not_ok {code : List (Nat × Nat)} {js ats ats' : List Nat} {i c : Nat} (h : FindBad code js ats i c) (k : FindOk code js ats') (ha : ats = [] ∨ ats = ats') : False := by
  cases h with
  | enc h => exact h k.he
  | first _ h => exact h k.h3
  | fault _ _ i hi _ hf => exact hf (k.hall i hi)
  | jump _ _ _ i hi _ hb => have := k.hg i hi; rw [hb] at this; cases this
  | name _ _ _ _ i hi _ hb =>
    rcases ha with rfl | rfl
    · simp at hi
    · have := k.hn i hi; rw [hb] at this; cases this
theorem FindOk.no_names {code : List (Nat × Nat)} {js ats : List Nat} (h : FindOk code js ats) : FindOk code js [] := ⟨h.he, h.h3, h.hall, h.hg, fun j hj => by simp at hj⟩
/-- What a call of Find brings. -/
def FoundAt (code : List (Nat × Nat)) (js : List Nat) (W : World) (B b : Nat) : Prop :=
  ∃ vp vo vt us, PAt W B b vp vo vt (psTo code code.length) (ofTo code code.length) us (aimTo (ofTo code code.length) js (psTo code code.length).length js.length)
theorem FoundAt.below {code : List (Nat × Nat)} {js : List Nat} {W W' : World} {B b : Nat} (h : FoundAt code js W B b) (hb : Below W.heap.size W W') : FoundAt code js W' B b := by
  obtain ⟨vp, vo, vt, us, hA⟩ := h
  exact ⟨vp, vo, vt, us, hA.below hb⟩
theorem find_ok {w : World} (vc vj vn : Value) (code : List (Nat × Nat)) (js ats : List Nat) (hok : FindOk code js ats) (hc : Instrs w vc code) (hj : RowU w w.heap.size vj js) (hn : NamesU w w.heap.size vn ats) :
    Calls Tryz.prog 159 #[vc, vj, vn] w fun e w' => ∃ b B, e = .returned (.tuple #[.pointer (some ⟨b, 0, none⟩), .int .i64 0, .int .i64 0]) ∧ Below w.heap.size w w' ∧ w.heap.size ≤ B ∧ B ≤ w'.heap.size ∧ FoundAt code js w' B b := by
  refine (find_any vc vj vn code js ats hc hj hn).mono ?_
  rintro e w' ⟨hb, ⟨i, c, rfl, hbad⟩ | ⟨b, B, rfl, -, h1, h2, vp, vo, vt, us, tag, hA⟩⟩
  · exact (hbad.not_ok hok (.inr rfl)).elim
  · exact ⟨b, B, rfl, hb, h1, h2, vp, vo, vt, us, hA.at_⟩
theorem namesU_nil (w : World) (B : Nat) : NamesU w B (.slice none 0 0) [] := ⟨none, 0, rfl, Nat.le_refl _, Nat.zero_le _, fun k => by simp, fun h => absurd h (Nat.lt_irrefl _)⟩
/-- A graph in memory: its code and jumps of its own, its procedures. -/
structure GraphAt (W : World) (B g b : Nat) (uc uj : Value) (code : List (Nat × Nat)) (js : List Nat) : Prop where
  c0 : W.cell? ⟨g, 0, none⟩ = some uc
  c1 : W.cell? ⟨g, 1, none⟩ = some uj
  c2 : W.cell? ⟨g, 2, none⟩ = some (.pointer (some ⟨b, 0, none⟩))
  hB : B ≤ g
  oc : W.ownsRow B 122 2 uc code.length (encI code)
  oj : W.ownsRow B 25 1 uj js.length (encN .u32 js)
  p : ∃ B', B ≤ B' ∧ FoundAt code js W B' b
theorem GraphAt.below {W W' : World} {B g b : Nat} {uc uj : Value} {code : List (Nat × Nat)} {js : List Nat} (h : GraphAt W B g b uc uj code js) (hb : Below W.heap.size W W') : GraphAt W' B g b uc uj code js := by
  have hl := World.block_lt_of_cell? _ _ h.c0
  obtain ⟨B', h1, h2⟩ := h.p
  exact ⟨(hb.cell (p := ⟨g, 0, none⟩) hl).trans h.c0, (hb.cell (p := ⟨g, 1, none⟩) hl).trans h.c1, (hb.cell (p := ⟨g, 2, none⟩) hl).trans h.c2, h.hB, own_below h.oc hb, own_below h.oj hb, B', h1, h2.below hb⟩
theorem run_b504 (a a' : Option Addr) (n c n' c' : Nat) (p : Option Addr) (w : World) : (Instr.build 504 #[(0, .slice a n c), (1, .slice a' n' c'), (2, .pointer p)]).run Tryz.prog w = .ok (.agg #[.slice a n c, .slice a' n' c', .pointer p]) w := by kernel_rfl
theorem cells_new3 (w : World) (a b c : Value) (t : TypeId) : (w.alloc (.cells #[a, b, c] t)).cell? ⟨w.heap.size, 0, none⟩ = some a ∧ (w.alloc (.cells #[a, b, c] t)).cell? ⟨w.heap.size, 1, none⟩ = some b ∧ (w.alloc (.cells #[a, b, c] t)).cell? ⟨w.heap.size, 2, none⟩ = some c := ⟨by simp [go_sem], by simp [go_sem], by simp [go_sem]⟩
set_option maxRecDepth 100000 in
set_option maxHeartbeats 2000000 in
theorem found_any {w : World} (vc vj : Value) (code : List (Nat × Nat)) (js : List Nat) (hok : FindOk code js []) (hl : code.length ≤ 16384) (hjl : js.length ≤ 16384) (hc : Instrs w vc code) (hj : Words w vj js) :
    Calls Tryz.prog 283 #[vc, vj] w fun e w' => ∃ g b uc uj, e = .returned (.tuple #[.pointer (some ⟨g, 0, none⟩), .int .i64 0, .int .i64 0]) ∧ Below w.heap.size w w' ∧ GraphAt w' w.heap.size g b uc uj code js := by
  have hb504 := run_b504
  have HF := Lib.hid (find_ok vc vj (.slice none 0 0) code js [] hok hc hj.rowu (namesU_nil _ _))
  have HC := Lib.hid hc
  have HJ := Lib.hid hj
  clear hc hj
  go_enter Tryz.func283, Tryz.ntmps283
  go_wp2_with fail
  refine HF.out.mono ?_
  rintro e w1 ⟨b, B, rfl, hb1, hB1, hB2, hA⟩
  have Hb1 := Lib.hid hb1
  have HA := Lib.hid hA
  have HcI := Lib.hid (cloneI_any vc code.length (encI code) (by omega) (encI_one _) w1 (HC.out.below hb1).1)
  clear hb1 hA HF
  go_wp2_with fail
  refine HcI.out.mono ?_
  rintro e w2 ⟨uc, rfl, oc, hb2⟩
  obtain ⟨ac, cc, rfl, -, -, -⟩ := own_sl oc
  have Hb2 := Lib.hid (Bel.tr Hb1.out hb2)
  have HA2 := Lib.hid (HA.out.below hb2)
  have OC := Lib.hid oc
  have hs1 := Hb1.out.size
  have hs2 := hb2.size
  have HcW := Lib.hid (cloneW_any vj js.length (encN .u32 js) (by omega) (encN_one _ _) w2 (HJ.out.below Hb2.out).1)
  clear oc hb2 HcI
  go_wp2_with fail
  refine HcW.out.mono ?_
  rintro e w3 ⟨uj, rfl, oj, hb3⟩
  obtain ⟨aj, cj, rfl, -, -, -⟩ := own_sl oj
  have Hb3 := Lib.hid (Bel.tr Hb2.out hb3)
  have HA3 := Lib.hid (HA2.out.below hb3)
  have OC3 := Lib.hid (own_below OC.out hb3)
  have OJ := Lib.hid oj
  have hs3 := hb3.size
  clear oj hb3 HcW
  go_wp2_with fail
  have hbn := Bel.new w3 (.cells #[.slice ac code.length cc, .slice aj js.length cj, .pointer (some ⟨b, 0, none⟩)] 504)
  have hcn := cells_new3 w3 (.slice ac code.length cc) (.slice aj js.length cj) (.pointer (some ⟨b, 0, none⟩)) 504
  exact bodyPost_ret (v := .tuple #[.pointer (some ⟨w3.heap.size, 0, none⟩), .int .i64 0, .int .i64 0]) (by simp [results, Tryz.results283, go_sem]) rfl
    ⟨_, b, _, _, rfl, Bel.tr Hb3.out hbn, hcn.1, hcn.2.1, hcn.2.2, by omega, own_below (own_from (own_base OC3.out) (fun g e => by have := (OC.out.lt g e).1; omega)) hbn, own_below (own_from (own_base OJ.out) (fun g e => by have := (OJ.out.lt g e).1; omega)) hbn, B, hB1, HA3.out.below hbn⟩
end Go.Proofs.YtgpicmiaanapkaaGreat
/- (*graph).info, (*graph).next. -/
namespace Go.Proofs.YtgpicmiaanapkaaGreat
open Go.RowKit
set_option linter.unusedVariables false
def opAt (code : List (Nat × Nat)) (i : Nat) : Nat := (code.getD i (0, 0)).1
def argAt (code : List (Nat × Nat)) (i : Nat) : Nat := (code.getD i (0, 0)).2
theorem GraphAt.code {W : World} {B g b : Nat} {uc uj : Value} {code : List (Nat × Nat)} {js : List Nat} (h : GraphAt W B g b uc uj code js) {i : Nat} (hi : i < code.length) :
    ∃ q c, uc = .slice (some ⟨q, 0, none⟩) code.length c ∧ q < W.heap.size ∧ W.cell? ⟨q, i * 2, none⟩ = some (.int .u8 (opAt code i)) ∧ W.cell? ⟨q, i * 2 + 1, none⟩ = some (.int .u32 (argAt code i)) := by
  obtain ⟨q, c, rfl, -, hq⟩ := own_start h.oc (by omega)
  have hl := encI_length code
  refine ⟨q, c, rfl, hq, ?_, ?_⟩
  · rw [h.oc.cellAt _ (by omega)]; exact encI_op code i hi
  · rw [h.oc.cellAt _ (by omega)]; exact encI_arg code i hi
set_option maxRecDepth 100000 in
set_option maxHeartbeats 2000000 in
theorem ginfo_any {w : World} {B g b : Nat} {uc uj : Value} {code : List (Nat × Nat)} {js : List Nat} (h : GraphAt w B g b uc uj code js) (i : Nat) (hi : i < code.length) (ho : opAt code i < 256) :
    Calls Tryz.prog 437 #[.pointer (some ⟨g, 0, none⟩), .int .i64 i] w fun e w' => e = .returned (rowVal (opAt code i)) ∧ Below w.heap.size w w' := by
  obtain ⟨q, c, rfl, hq, h1, -⟩ := h.code hi
  have hz := zero26
  unfold zeroRow at hz
  have hc0 := h.c0
  have hgl : g < w.heap.size := World.block_lt_of_cell? _ _ hc0
  have hI := fun W => info_any (opAt code i) ho W
  unfold rowVal rowCells at hI ⊢
  generalize opAt code i = o at *
  have HI := Lib.hid hI
  have hb0 := Lib.hid (Bel.new w (.cells #[.string ⟨#[]⟩, .int .i64 0, .int .u32 0, .int .i64 0, .int .i64 0, .int .u8 0] 421))
  have hii : (i : Int) < (code.length : Int) := by omega
  have hi0 : (0 : Int) ≤ (i : Int) := by omega
  have hne1 : w.heap.size ≠ g := by omega
  have hne2 : w.heap.size ≠ q := by omega
  generalize kindOf o = K at *
  generalize isOp o = bb at *
  generalize wordOf o = wd at *
  generalize widthOf o = wi at *
  generalize mostOf o = mo at *
  generalize takesOf o = ta at *
  generalize givesOf o = gi at *
  clear h hI
  go_enter Tryz.func437, Tryz.ntmps437
  go_wp2_with fail
  refine (HI.out _).mono ?_
  rintro e w1 ⟨rfl, hb1⟩
  have HB := Lib.hid (Bel.tr hb0.out hb1)
  have hs1 := hb1.size
  simp only [World.size_alloc] at hs1
  have hB0 := (hb1.block w.heap.size (by simp)).trans (heap_alloc_new w _)
  have hlt : w.heap.size < w1.heap.size := by omega
  obtain ⟨R, hR⟩ : ∃ R : Array Value, R = #[.string ⟨wd.toArray⟩, .int .i64 wi, .int .u32 mo, .int .i64 ta, .int .i64 gi, .int .u8 K] := ⟨_, rfl⟩
  have HB1 := Lib.hid (show (w1.alloc (.cells #[.string ⟨wd.toArray⟩, .int .i64 wi, .int .u32 mo, .int .i64 ta, .int .i64 gi, .int .u8 K] 421)).heap[w.heap.size]? = _ from (Below.heap_alloc _ _ _ hlt).trans hB0)
  clear hb1 hc0 h1 hB0 hR
  go_wp2_with (((with_reducible refine wpList_store_row (o := ⟨none, .store 421 (.tmp 4) (.tmp 19), _, _, _, none⟩) rfl 421 _ _ rfl w.heap.size #[.string ⟨wd.toArray⟩, .int .i64 wi, .int .u32 mo, .int .i64 ta, .int .i64 gi, .int .u8 K] ?_ ?_ 421 _ HB1.out ?_ ?_ ?_ ?_); rfl; rfl; exact info26; rfl; (simp [Value.oneCell'])))
  exact bodyPost_ret (v := .agg #[.string ⟨wd.toArray⟩, .int .i64 wi, .int .u32 mo, .int .i64 ta, .int .i64 gi, .int .u8 K]) (results_cell_row Tryz.results437 _ _ w.heap.size 421 _ (0, 0) _ rfl (setRow_heap _ _ _ _ _ _ HB1.out) Tryz.underlying421 rfl info26) rfl ⟨rfl, (Bel.al HB.out _).trans (below_setRowB _ _ _ (Nat.le_refl _))⟩
/-- What may come right behind an instruction. -/
def nextN (code : List (Nat × Nat)) (js : List Nat) (i : Nat) : List Nat :=
  if kindOf (opAt code i) = 1 ∨ kindOf (opAt code i) = 6 ∨ kindOf (opAt code i) = 5 then [i + 1]
  else if kindOf (opAt code i) = 2 then (if i + 1 = argAt code i then [i + 1] else [min (i + 1) (argAt code i), max (i + 1) (argAt code i)])
  else if kindOf (opAt code i) = 3 then [argAt code i]
  else if kindOf (opAt code i) = 4 then tgtsAt (psTo code code.length).length (aimTo (ofTo code code.length) js (psTo code code.length).length js.length) (ofN (ofTo code code.length) i)
  else []
theorem run_bs23_2 (x y : Int) (w : World) : (Instr.buildSlice 23 2 #[(0, .int .u32 x), (1, .int .u32 y)]).run Tryz.prog w = .ok (.slice (some ⟨w.heap.size, 0, none⟩) 2 2) (w.alloc (.cells #[.int .u32 x, .int .u32 y] 25)) := by kernel_rfl
theorem run_bs23_1 (x : Int) (w : World) : (Instr.buildSlice 23 1 #[(0, .int .u32 x)]).run Tryz.prog w = .ok (.slice (some ⟨w.heap.size, 0, none⟩) 1 1) (w.alloc (.cells #[.int .u32 x] 25)) := by kernel_rfl
set_option maxRecDepth 100000 in
set_option maxHeartbeats 2000000 in
theorem compact2_ne (g c : Nat) (x y : Int) (hxy : x ≠ y) (w : World) (h0 : w.cell? ⟨g, 0, none⟩ = some (.int .u32 x)) (h1 : w.cell? ⟨g, 1, none⟩ = some (.int .u32 y)) :
    Calls Tryz.prog 486 #[.slice (some ⟨g, 0, none⟩) 2 c] w fun e w' => e = .returned (.slice (some ⟨g, 0, none⟩) 2 c) ∧ ∃ n, w' = w.drewN n := by
  have hd : (y == x) = false := by simp; omega
  have H0 := Lib.hid h0
  have H1 := Lib.hid h1
  clear h0 h1
  go_enter Tryz.func486, Tryz.ntmps486
  go_wp2_with fail
  go_loopw [3] (fun i wr => ∃ k : Nat, 1 ≤ k ∧ k ≤ 2 ∧ i = .int .i64 k ∧ ∃ n, wr = w.drewN n) (fun i _ => 2 - (intOf i).toNat)
  case atStart => exact ⟨1, by omega, by omega, rfl, 0, rfl⟩
  case round =>
    obtain ⟨k, hk1, hk2, rfl, n, rfl⟩ := hrel
    rcases (by omega : k = 1 ∨ k = 2) with rfl | rfl
    · have h0 := H0.out
      have h1 := H1.out
      go_wp2_with fail
      go_quiet (fail)
      go_wp2
      go_roundw
      case rel => exact ⟨2, by omega, by omega, rfl, _, rfl⟩
      case measure => simp [intOf]
    · go_wp2
      go_ret
      exact ⟨rfl, n, rfl⟩
set_option maxRecDepth 100000 in
set_option maxHeartbeats 2000000 in
theorem compact2_eq (g c : Nat) (x : Int) (hc : 2 ≤ c) (w : World) (h0 : w.cell? ⟨g, 0, none⟩ = some (.int .u32 x)) (h1 : w.cell? ⟨g, 1, none⟩ = some (.int .u32 x)) (hf : w.frozen? ⟨g, 1, none⟩ = false) :
    Calls Tryz.prog 486 #[.slice (some ⟨g, 0, none⟩) 2 c] w fun e w' => e = .returned (.slice (some ⟨g, 0, none⟩) 1 c) ∧ ∃ n, w' = (w.drewN n).setCell ⟨g, 1, none⟩ (.int .u32 0) := by
  have hci : (2 : Int) ≤ (c : Int) := by omega
  have hci1 : (1 : Int) ≤ (c : Int) := by omega
  have hc1 : c ≠ 1 := by omega
  have hcl : ∀ n, (Builtin.clear_ #[23] 0 #[.slice (some ⟨g, 1, none⟩) 1 (c - 1)]).run Tryz.prog (w.drewN n) = .ok (.tuple #[]) ((w.drewN n).setCell ⟨g, 1, none⟩ (.int .u32 0)) := by
    intro n
    have hq1 : ∀ j, j < 1 → ((w.drewN n).cell? ⟨g, 1 + j, none⟩).isSome = true := by
      intro j hj
      obtain rfl : j = 0 := by omega
      show (w.cell? ⟨g, 1, none⟩).isSome = true
      rw [h1]; rfl
    have hq2 : ∀ j, j < 1 → (w.drewN n).frozen? ⟨g, 1 + j, none⟩ = false := by
      intro j hj
      obtain rfl : j = 0 := by omega
      exact hf
    exact Lib.run_clear_slice (w.drewN n) 23 25 0 (.int .u32 0) Tryz.underlying23 (fun _ => by kernel_rfl) rfl rfl g 1 1 (c - 1) (by omega) hq1 hq2
  have h01 := h1
  go_enter Tryz.func486, Tryz.ntmps486
  go_wp2_with fail
  refine wp_loop_rounds 1 ?_
  rw [rounds_succ]
  go_wp2_with fail
  go_quiet (fail)
  go_wp2_with fail
  refine wp_loop_rounds 1 ?_
  rw [rounds_succ]
  go_wp2_with fail
  go_ret
  exact ⟨rfl, _, rfl⟩
end Go.Proofs.YtgpicmiaanapkaaGreat
