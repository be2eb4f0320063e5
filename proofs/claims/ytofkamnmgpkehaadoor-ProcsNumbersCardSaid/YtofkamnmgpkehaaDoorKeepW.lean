import Derived.Test.YtofkamnmgpkehaaDoorStepW
import Derived.Stop.RegionWithIn
import Derived.BigRegionIn
/- The law's walk through All of a set of words whose numbers are taken out meanwhile. -/
namespace Go.Proofs.YtofkamnmgpkehaaDoor
open Go.RowKit
attribute [local go_sem] Oper.semAt_some
theorem own_isCells {w : World} {B e sz n : Nat} {v : Value} {xs : List Value} (h : w.ownsRow B e sz v n xs) (j : Nat) (o : Obj) (hj : v.ownBlock = some j) (ho : w.heap[j]? = some o) : o.isCells = true := by
  rcases h.2 with ⟨rfl, rfl⟩ | ⟨g, cap, cur, rfl, hb, hg, _⟩
  · cases hj
  · cases hj; rw [hg] at ho; cases ho; rfl
/-- The set b has just the numbers m. -/
def HasB (A : World) (B b N : Nat) (vw : Value) (m : List Nat) : Prop := ∃ ws, SetAt A B b vw N ws ∧ IsB N ws m
structure KW (w : World) (K bx b B N : Nat) (v vw vl : Value) (ws0 l m : List Nat) (A : World) : Prop where
  s : A.cell? ⟨w.heap.size, 0, none⟩ = some (.pointer (some ⟨b, 0, none⟩))
  p : A.cell? ⟨w.heap.size + 1, 0, none⟩ = some vl
  c : A.cell? ⟨w.heap.size + 2, 0, none⟩ = some (.bool false)
  f : A.frozen? ⟨w.heap.size + 2, 0, none⟩ = false
  x : A.cell? ⟨bx, 0, none⟩ = some v
  ow : A.ownsRow 0 78 1 v ws0.length (encN .u64 ws0)
  row : A.ownsRow 0 27 1 vl l.length (encN .u32 l)
  tab : TabAt A
  set : HasB A B b N vw m
  bel : w.grownBy A vw.ownBlock
  k1 : w.heap.size + 2 < K
  k2 : bx < K ∧ w.heap.size + 2 < bx
  k3 : ∀ g, v.ownBlock = some g → w.heap.size ≤ g ∧ g < K
  kb : b < w.heap.size
  kv : ∀ g, vw.ownBlock = some g → g < w.heap.size ∧ g ≠ 0 ∧ vl.ownBlock ≠ some g
  kvl : ∀ g, vl.ownBlock = some g → g < w.heap.size
  kl : K ≤ A.heap.size
theorem KW.turn {w A C : World} {K bx b B N : Nat} {v vw vl : Value} {ws0 l m m' : List Nat} (h : KW w K bx b B N v vw vl ws0 l m A) {r : Option Nat} (hg : A.grownBy C r)
    (hr : ∀ q, r = some q → (vw.ownBlock = some q) ∨ K ≤ q) (hs : HasB C B b N vw m') : KW w K bx b B N v vw vl ws0 l m' C :=
  have h1 := h.k1
  have h2 := h.k2
  have hq : ∀ q, r = some q → (q < w.heap.size ∧ q ≠ 0 ∧ vl.ownBlock ≠ some q) ∨ K ≤ q := fun q e => (hr q e).imp (fun e => h.kv q e) id
  ⟨grown_cell hg h.s (World.block_lt_of_cell? _ _ h.s) (fun e => by have := hq _ e; omega), grown_cell hg h.p (World.block_lt_of_cell? _ _ h.p) (fun e => by have := hq _ e; omega),
    grown_cell hg h.c (World.block_lt_of_cell? _ _ h.c) (fun e => by have := hq _ e; omega), (World.frozen?_of_block (hg.block _ (World.block_lt_of_cell? _ _ h.c) (fun e => by have := hq _ e.symm; simp at this; omega))).trans h.f,
    grown_cell hg h.x (World.block_lt_of_cell? _ _ h.x) (fun e => by have := hq _ e; omega),
    own_grown h.ow hg (fun g e e2 => by have := hq _ e2; have := h.k3 g e; omega),
    own_grown h.row hg (fun g e e2 => by
      have h9 := h.kvl g e
      rcases hq _ e2 with h' | h'
      · exact h'.2.2 e
      · omega),
    (fun j hj => grown_cell hg (h.tab j hj) (World.block_lt_of_cell? _ _ (h.tab j hj)) (fun e => by have := hq _ e; omega)), hs,
    grownBy_trans h.bel hg (fun q e => (hr q e).imp id (fun h' => by omega)), h1, h2, h.k3, h.kb, h.kv, h.kvl, Nat.le_trans h.kl hg.size⟩
theorem KW.away {w A C : World} {K bx b B N : Nat} {v vw vl : Value} {ws0 l m : List Nat} (h : KW w K bx b B N v vw vl ws0 l m A) {r : Option Nat} (hg : A.grownBy C r) (hr : ∀ q, r = some q → K ≤ q) : KW w K bx b B N v vw vl ws0 l m C :=
  have h1 := h.k1
  have h2 := h.kb
  h.turn hg (fun q e => .inr (hr q e)) (by
    obtain ⟨ws, hs, hi⟩ := h.set
    exact ⟨ws, hs.other hg (fun e => by have := hr _ e; omega) (fun g e e2 => by have := hr _ e2; have := (h.kv g e).1; omega), hi⟩)
theorem KW.calm {w A C : World} {K bx b B N : Nat} {v vw vl : Value} {ws0 l m : List Nat} (h : KW w K bx b B N v vw vl ws0 l m A) {n : Nat} (k : Calm n A C) (hn : w.heap.size ≤ n) : KW w K bx b B N v vw vl ws0 l m C :=
  ⟨k.cell h.s, k.cell h.p, k.cell h.c, (k.frozen h.c).trans h.f, k.cell h.x, k.own h.ow, k.own h.row, h.tab.calm k, (by
    obtain ⟨ws, hs, hi⟩ := h.set
    exact ⟨ws, hs.calm k, hi⟩), ⟨k.os.trans h.bel.os, k.tape.trans h.bel.tape, k.output.trans h.bel.output, Nat.le_trans h.bel.size k.size, fun i hi hne => (k.block i (by omega)).trans (h.bel.block i hi hne)⟩, h.k1, h.k2, h.k3, h.kb, h.kv, h.kvl, Nat.le_trans h.kl k.size⟩
theorem KW.kn {w A : World} {K bx b B N : Nat} {v vw vl : Value} {ws0 l m : List Nat} (h : KW w K bx b B N v vw vl ws0 l m A) : KnW bx v ws0 A := ⟨h.x, h.ow, h.tab⟩
/-- Add of a number behind all others; Drop of the first. -/
theorem HasB.add {A : World} {B b N : Nat} {vw : Value} {m : List Nat} (h : HasB A B b N vw m) (x : Nat) (hx : x < N) (hx32 : x < 4294967296) (hm : ∀ y ∈ m, y < x) :
    Calls Tryd.prog 20 #[.pointer (some ⟨b, 0, none⟩), .int .u32 x] A fun e w' => e = .returned (.bool true) ∧ A.grownBy w' vw.ownBlock ∧ HasB w' B b N vw (m ++ [x]) := by
  obtain ⟨ws, hs, hi⟩ := h
  have hno : mem ws x = false := by
    cases hq : mem ws x
    · rfl
    · have := hm x ((hi.1.2 x).2 hq); omega
  refine (add_any hs x hx32).mono ?_
  rintro e w' ⟨rfl, hg, ws', hs', hme⟩
  refine ⟨by rw [hno, decide_eq_true hx]; rfl, hg, ws', hs', ?_⟩
  have := hi.put (ws' := ws') (x := x) (k := m.length) ⟨Nat.le_refl _, fun i hi' => hm _ (by rw [getD_eq hi']; exact List.getElem_mem hi'), fun h => absurd h (Nat.lt_irrefl _)⟩ hno hx (fun y => by rw [hme, decide_eq_true hx, Bool.true_and])
  rwa [List.take_length, List.drop_length] at this
theorem HasB.dropFirst {A : World} {B b N : Nat} {vw : Value} {m : List Nat} {x : Nat} (h : HasB A B b N vw (x :: m)) (hx32 : x < 4294967296) :
    Calls Tryd.prog 21 #[.pointer (some ⟨b, 0, none⟩), .int .u32 x] A fun e w' => e = .returned (.bool true) ∧ A.grownBy w' vw.ownBlock ∧ HasB w' B b N vw m := by
  obtain ⟨ws, hs, hi⟩ := h
  have hyes : mem ws x = true := (hi.1.2 x).1 (List.mem_cons_self ..)
  have hx : x < N := hi.2 x (List.mem_cons_self ..)
  refine (drop_any hs x hx32).mono ?_
  rintro e w' ⟨rfl, hg, ws', hs', hme⟩
  refine ⟨by rw [hyes, decide_eq_true hx]; rfl, hg, ws', hs', ?_⟩
  have := hi.out (ws' := ws') (x := x) (k := 0) ⟨Nat.zero_le _, fun i hi' => absurd hi' (Nat.not_lt_zero _), fun _ => Nat.le_refl _⟩ hyes (fun y => by rw [hme, decide_eq_true hx, Bool.true_and])
  simpa using this
set_option maxRecDepth 100000 in
set_option maxHeartbeats 1000000 in
theorem allw_own {W : World} {B b : Nat} {vw : Value} {N : Nat} {ws : List Nat} (h : SetAt W B b vw N ws) :
    Calls Tryd.prog 35 #[.pointer (some ⟨b, 0, none⟩)] W fun e w' => e = .returned (.func (.func 49) #[] #[.pointer (some ⟨W.heap.size, 0, none⟩)]) ∧ ∃ v, w'.cell? ⟨W.heap.size, 0, none⟩ = some v ∧ w'.ownsRow W.heap.size 78 1 v ws.length (encN .u64 ws) ∧ Below W.heap.size W w' := by
  have hn := h.hn
  have hN := h.hN
  have hl16 : ws.length ≤ 16384 := by omega
  have hnew := Bel.new W (.cells #[.slice none 0 0] 65)
  have hc1 := (hnew.cell (p := ⟨b, 1, none⟩) (World.block_lt_of_cell? _ _ h.c1)).trans h.c1
  have Hc := Lib.hid (clone64_any vw ws hl16 _ (Reads.own (own_below h.ow hnew) Nat.one_pos))
  have Hn := Lib.hid hnew
  have hcn : (W.alloc (.cells #[.slice none 0 0] 65)).cell? ⟨W.heap.size, 0, none⟩ = some (.slice none 0 0) := by simp [go_sem]
  have hfn : (W.alloc (.cells #[.slice none 0 0] 65)).frozen? ⟨W.heap.size, 0, none⟩ = false := by simp [go_sem]
  clear h hn hN hnew
  go_enter Tryd.func35, Tryd.ntmps35
  go_wp2_with fail
  refine Hc.out.mono ?_
  rintro e w1 ⟨v, rfl, ho, hb⟩
  have hlt : W.heap.size < (W.alloc (.cells #[.slice none 0 0] 65)).heap.size := by simp
  have hc2 := (hb.cell (p := ⟨W.heap.size, 0, none⟩) hlt).trans hcn
  have hf2 := (hb.frozen (p := ⟨W.heap.size, 0, none⟩) hlt).trans hfn
  obtain ⟨va, vc, hve, -, -, -⟩ := own_sl ho
  subst hve
  have Ho := Lib.hid ho
  have Hb := Lib.hid (Bel.tr Hn.out hb)
  clear ho hb Hc
  go_wp2
  go_ret
  refine ⟨rfl, _, World.cell?_setCell_same' _ _ _ (by rw [hc2]; rfl), own_from (ownsRow_setCell_other (own_base Ho.out) (fun e => by have := (Ho.out.lt _ e).1; simp at this; omega) _) (fun g e => by have := (Ho.out.lt g e).1; simp at this; omega), Hb.out.setCell (p := ⟨W.heap.size, 0, none⟩) (Nat.le_refl _) _⟩
def mOf (l : List Nat) : Nat → List Nat
  | 0 => l
  | _ + 1 => [0]
set_option maxRecDepth 100000 in
set_option maxHeartbeats 4000000 in
theorem keepwords_any {w : World} {B b N : Nat} {vw : Value} {ws l : List Nat} (hA : SetAt w B b vw N ws) (hB0 : 0 < B) (hT : TabAt w) (hi : IsB N ws l) (vl : Value) (ho : w.ownsRow 0 27 1 vl l.length (encN .u32 l)) (hap : ∀ g, vl.ownBlock = some g → vw.ownBlock ≠ some g) (bd : Int) :
    Calls Tryd.prog 12 #[.pointer (some ⟨b, 0, none⟩), vl, .int .i64 bd] w fun e w' => e = .returned (.bool true) ∧ w.grownBy w' vw.ownBlock ∧ HasB w' B b N vw l := by
  have hl20 := (is_le20 hA hi).1
  have hl32 := (is_le20 hA hi).2
  have HAll := Lib.hid (fun W (hb : Below w.heap.size w W) => allw_own (hA.below hb))
  have Hl := Lib.hid hA.hl
  have h16 : ws.length ≤ 16384 := by have := hA.hn; have := hA.hN; omega
  have HE := Lib.hid hi.1.eq
  have HNl := Lib.hid hi.2
  have HUp := Lib.hid hi.1.1
  have HK0 := Lib.hid (fun (A : World) (hb : Below w.heap.size w A) (K bx : Nat) (v : Value) (h1 : A.cell? ⟨w.heap.size, 0, none⟩ = some (.pointer (some ⟨b, 0, none⟩))) (h2 : A.cell? ⟨w.heap.size + 1, 0, none⟩ = some vl) (h3 : A.cell? ⟨w.heap.size + 2, 0, none⟩ = some (.bool false)) (h4 : A.frozen? ⟨w.heap.size + 2, 0, none⟩ = false) (h5 : A.cell? ⟨bx, 0, none⟩ = some v) (h6 : A.ownsRow 0 78 1 v ws.length (encN .u64 ws)) (h7 : w.heap.size + 2 < K) (h8 : bx < K ∧ w.heap.size + 2 < bx) (h9 : ∀ g, v.ownBlock = some g → w.heap.size ≤ g ∧ g < K) (h10 : K ≤ A.heap.size) =>
    (⟨h1, h2, h3, h4, h5, h6, own_below ho hb, hT.below hb, ⟨ws, hA.below hb, hi⟩, below_grownBy hb _, h7, h8, h9, World.block_lt_of_cell? _ _ hA.c0, fun g e => ⟨(hA.ow.lt g e).2, fun e0 => by have := (hA.ow.lt g e).1; omega, fun e2 => hap g e2 e⟩, fun g e => (ho.lt g e).2, h10⟩ : KW w K bx b B N v vw vl ws l l A))
  clear hA hT hi hB0 hap
  obtain ⟨al, cl, rfl, hlc, hcm, -⟩ := own_sl ho
  have hlL : l.length ≤ 9223372036854775807 := by omega
  clear ho hcm
  obtain ⟨n, hn⟩ : ∃ n, n = l.length := ⟨_, rfl⟩
  have HN := Lib.hid hn
  rw [← hn] at hlc hlL hl20 HK0 ⊢
  clear hn
  have H32 := Lib.hid hl32
  clear hl32
  refine (callsIn_wide (n := 13)).1 ?_
  have h1 : (1 : Nat) ≤ 13 := by omega
  refine callsIn_of_wp_marks Tryd.func12 rfl trivial ?_ rfl
  simp only [Tryd.ntmps12, List.size_toArray, List.length_cons, List.length_nil, Nat.reduceAdd, Nat.reduceSub, Array.replicate_succ, Array.replicate_zero, List.push_toArray, List.append_toArray, List.nil_append, List.cons_append]
  gi_wp2_with fail
  obtain ⟨w2, hw2⟩ : ∃ w2, w2 = ((w.alloc (.cells #[.pointer (some ⟨b, 0, none⟩)] 23)).alloc (.cells #[.slice al n cl] 28)).alloc (.cells #[.bool false] 4) := ⟨_, rfl⟩
  have hb2 : Below w.heap.size w w2 := by rw [hw2]; exact Bel.al (Bel.al (Bel.new w _) _) _
  have hc0 : w2.cell? ⟨w.heap.size, 0, none⟩ = some (.pointer (some ⟨b, 0, none⟩)) := by rw [hw2]; simp [go_sem]
  have hc1 : w2.cell? ⟨w.heap.size + 1, 0, none⟩ = some (.slice al n cl) := by rw [hw2]; simp [go_sem]
  have hc2 : w2.cell? ⟨w.heap.size + 2, 0, none⟩ = some (.bool false) := by rw [hw2]; simp [go_sem]
  have hf2 : w2.frozen? ⟨w.heap.size + 2, 0, none⟩ = false := by rw [hw2]; simp [go_sem]
  have hs2 : w2.heap.size = w.heap.size + 3 := by rw [hw2]; simp
  rw [← hw2]
  clear hw2
  have Hb2 := Lib.hid hb2
  clear hb2
  refine ⟨trivial, (callsIn_wide.2 (HAll.out _ Hb2.out)).mono ?_⟩
  rintro e w3 ⟨rfl, v, hx, how, hb3⟩
  rw [hs2] at hx ⊢
  have hs0 := (hb3.cell (p := ⟨w.heap.size, 0, none⟩) (by show w.heap.size < _; omega)).trans hc0
  have hp3 := (hb3.cell (p := ⟨w.heap.size + 1, 0, none⟩) (by show w.heap.size + 1 < _; omega)).trans hc1
  have hc3 := (hb3.cell (p := ⟨w.heap.size + 2, 0, none⟩) (by show w.heap.size + 2 < _; omega)).trans hc2
  have hf3 := (hb3.frozen (p := ⟨w.heap.size + 2, 0, none⟩) (by show w.heap.size + 2 < _; omega)).trans hf2
  have hx3 : w.heap.size + 3 < w3.heap.size := World.block_lt_of_cell? _ _ hx
  have HW := Lib.hid (HK0.out w3 (Bel.tr Hb2.out hb3) w3.heap.size (w.heap.size + 3) v hs0 hp3 hc3 hf3 hx (own_base how) (by omega) ⟨hx3, by omega⟩ (fun g e => ⟨by have := (how.lt g e).1; omega, (how.lt g e).2⟩) (Nat.le_refl _))
  clear hc0 hc1 hc2 hf2 hs2 hx how hb3 hc3 hf3 Hb2 HAll hs0 HK0
  have q76 : ∀ (W : World) (a : Option Addr), (binOp .eql 76 (.func (.func 49) #[] #[.pointer a]) .nilFunc).run Tryd.prog W = .ok (.bool false) W := fun W a => by kernel_rfl
  gi_wp2_with fail
  clear q76 hp3
  obtain ⟨K, hK⟩ : ∃ K, K = w3.heap.size := ⟨_, rfl⟩
  obtain ⟨w5, hw5⟩ : ∃ w5, w5 = w3.alloc (.cells #[.int .i64 0] 3) := ⟨_, rfl⟩
  have hg5 : w3.grownBy w5 none := by rw [hw5]; exact below_grownBy (Bel.new w3 _) none
  have hA5 := HW.out.away hg5 (fun q e => by cases e)
  have hn5 : w5.cell? ⟨K, 0, none⟩ = some (.int .i64 0) := by rw [hw5, hK]; simp [go_sem]
  have hf5 : w5.frozen? ⟨K, 0, none⟩ = false := by rw [hw5, hK]; simp [go_sem]
  rw [← hw5]
  rw [← hK] at hA5 ⊢
  have H5 := Lib.hid (And.intro hA5 (And.intro hn5 hf5))
  have hK2 : w.heap.size + 3 < K := by omega
  have hsz5 : w.heap.size ≤ w5.heap.size := hA5.bel.size
  clear hA5 hn5 hf5 hg5 hw5 HW hK hx3
  refine range_to (gf := 49) (lb := #[.pointer (some ⟨w.heap.size + 3, 0, none⟩)]) rfl (enters_of Tryd.func49 (by kernel_rfl) rfl) (encs := encW1) (fun _ => rfl) (eW 0 ws) _ _
    (allw_seq 12 (by omega) _ v ws Hl.out h16) (fun A C h => by rw [h]; exact KeepsOthers.refl _)
    (fun pre A => KW w K (w.heap.size + 3) b B N v vw (.slice al n cl) ws l (mOf l pre.length) A ∧ A.cell? ⟨K, 0, none⟩ = some (.int .i64 pre.length) ∧ A.frozen? ⟨K, 0, none⟩ = false)
    (fun _ _ => False)
    (fun d A C h k => ⟨h.1.calm k hsz5, k.cell h.2.1, (k.frozen h.2.1).trans h.2.2⟩) (fun _ _ _ h _ => h)
    (fun d A h => h.1.kn) H5.out ?round ?done (fun _ _ _ h _ _ => h.elim)
  case round =>
    rintro l' pre x rest W hx ⟨hi, hn, hf⟩ hsz
    clear H5
    have hx' := HE.out.trans hx
    have hpl : pre.length < n := by rw [HN.out, hx']; simp
    have hxk : l.getD pre.length 0 = x := by rw [hx', List.getD_eq_getElem?_getD, List.getElem?_append_right (Nat.le_refl _)]; simp
    simp only [encW1]
    gi_wp2
    refine ⟨KeepsOthers.refl _, fun W2 hs2 hc2 => ?_⟩
    have hi2 := hi.calm hc2 hsz5
    have hn2 := hc2.cell hn
    have hf2 := (hc2.frozen hn).trans hf
    have hp2 := hi2.p
    have hss2 := hi2.s
    obtain ⟨al2, cl2, e2, -, -, -, hrd⟩ := reads_opened (l := l) (Reads.own hi2.row Nat.one_pos)
    rw [← HN.out] at e2
    cases e2
    obtain ⟨rb, roff, rfl, hrb, hrc⟩ := hrd (by rw [← HN.out]; omega)
    have hck := hrc pre.length (by rw [← HN.out]; exact hpl)
    rw [hxk] at hck
    have q0 : decide ((n : Int) ≤ (pre.length : Int)) = false := decide_eq_false (by omega)
    have q1 : (0 : Int) ≤ (pre.length : Int) := by omega
    have q2 : (pre.length : Int) < (n : Int) := by omega
    have Hi2 := Lib.hid hi2
    have hlen1 : (pre ++ [x]).length = pre.length + 1 := by simp
    generalize hk : pre.length = k at *
    have Hk := Lib.hid hk
    have Hlen1 := Lib.hid hlen1
    clear hi hi2 hc2 hk hx hx' hrc hrd hxk hn hf hlen1
    by_cases hk0 : k = 0
    · subst hk0
      rw [Nat.add_zero] at hck
      have hn0 : W2.cell? ⟨K, 0, none⟩ = some (.int .i64 0) := hn2
      clear hn2 q0
      have q0 : decide ((n : Int) ≤ 0) = false := decide_eq_false (by omega)
      gi_wp2_with fail
      have HL0 := Lib.hid (And.intro Hi2.out (And.intro hn0 hf2))
      have Hi0 := Lib.hid Hi2.out
      clear hn0 hf2 hp2 hss2 hck Hi2
      gi_loopw [10] (fun i wr => ∃ j : Nat, j ≤ n ∧ i = .int .i64 j ∧ KW w K (w.heap.size + 3) b B N v vw (.slice (some ⟨rb, roff, none⟩) n cl) ws l (l.drop j) wr ∧ wr.cell? ⟨K, 0, none⟩ = some (.int .i64 0) ∧ wr.frozen? ⟨K, 0, none⟩ = false ∧ KeepsOthers W2 wr) (fun i _ => n - (intOf i).toNat)
      case atStart => exact ⟨0, by omega, rfl, HL0.out.1, HL0.out.2.1, HL0.out.2.2, KeepsOthers.refl _⟩
      case round =>
        clear HL0
        obtain ⟨j, hj, rfl, hkw, hnw, hfw, hko⟩ := hrel
        have hpw := hkw.p
        have hsw := hkw.s
        by_cases hlt : j < n
        · obtain ⟨al3, cl3, e3, -, -, -, hrd⟩ := reads_opened (l := l) (Reads.own hkw.row Nat.one_pos)
          rw [← HN.out] at e3
          cases e3
          obtain ⟨rb3, roff3, e4, hrb3, hrc⟩ := hrd (by rw [← HN.out]; omega)
          cases e4
          have hcj := hrc j (by rw [← HN.out]; exact hlt)
          have hjl : j < l.length := by rw [← HN.out]; exact hlt
          have hdr : l.drop j = l.getD j 0 :: l.drop (j + 1) := by rw [List.drop_eq_getElem_cons hjl, getD_eq hjl]
          have hx32 := H32.out (l.getD j 0) (by rw [getD_eq hjl]; exact List.getElem_mem hjl)
          rw [hdr] at hkw
          have hkd := hkw.away (C := wr.drew) (r := none) ⟨rfl, rfl, rfl, Nat.le_refl _, fun _ _ _ => rfl⟩ (fun q e => by cases e)
          have HD := Lib.hid (hkd.set.dropFirst hx32)
          have Hkd := Lib.hid hkd
          have Hko := Lib.hid hko
          have hji : (j : Int) < (n : Int) := by omega
          have hj0 : (0 : Int) ≤ (j : Int) := by omega
          clear hkw hkd hdr hrc hrd hjl hko hx32
          generalize l.getD j 0 = z at *
          gi_wp2_with fail
          gi_region_with (refine ⟨trivial, (CallsIn.inRound l' (callsIn_wide.2 HD.out)).mono ?_⟩; rintro e w6 ⟨rfl, hg6, hs6⟩)
          all_goals
            have hkw6 := Hkd.out.turn hg6 (fun q e => .inl e) hs6
            have hvk : ∀ q, vw.ownBlock = some q → q ≠ K := fun q e => by have := (Hkd.out.kv q e).1; omega
            have hn6 : w6.cell? ⟨K, 0, none⟩ = some (.int .i64 0) := grown_cell (w := wr.drew) hg6 hnw (World.block_lt_of_cell? wr _ hnw) (fun e => hvk _ e rfl)
            have hf6 : w6.frozen? ⟨K, 0, none⟩ = false := (World.frozen?_of_block (hg6.block K (World.block_lt_of_cell? wr _ hnw) (fun e => hvk _ e.symm rfl))).trans hfw
            have hko6 : KeepsOthers W2 w6 := (Hko.out.trans (KeepsOthers.drew wr)).trans (by
              obtain ⟨wsq, hsq, -⟩ := Hkd.out.set
              exact KeepsOthers.of_grownBy hg6 (fun q o e ho => own_isCells hsq.ow q o e ho))
            have H6 := Lib.hid (And.intro hkw6 (And.intro hn6 (And.intro hf6 hko6)))
            clear hkw6 hn6 hf6 hko6 hvk
            gi_wp2
            go_roundw
            case rel => exact ⟨j + 1, by omega, by go_num, H6.out⟩
            case measure => simp [intOf]; omega
        · obtain rfl : n = j := by omega
          rw [List.drop_of_length_le (by rw [← HN.out]; exact Nat.le_refl _)] at hkw
          have h0N : 0 < N := by
            obtain ⟨wsq, hsq, hiq⟩ := Hi0.out.set
            have := hiq.2 (l.getD 0 0) (by rw [getD_eq (by rw [← HN.out]; omega)]; exact List.getElem_mem _)
            omega
          have HA0 := Lib.hid (hkw.set.add 0 h0N (by omega) (fun y hy => by cases hy))
          have Hkw := Lib.hid hkw
          have Hko := Lib.hid hko
          clear hkw hko
          gi_wp2_with fail
          refine ⟨trivial, (CallsIn.inRound l' (callsIn_wide.2 HA0.out)).mono ?_⟩
          rintro e w6 ⟨rfl, hg6, hs6⟩
          have hkw6 := Hkw.out.turn hg6 (fun q e => .inl e) hs6
          have hvk : ∀ q, vw.ownBlock = some q → q ≠ K := fun q e => by have := (Hkw.out.kv q e).1; omega
          have hn6 : w6.cell? ⟨K, 0, none⟩ = some (.int .i64 0) := grown_cell hg6 hnw (World.block_lt_of_cell? wr _ hnw) (fun e => hvk _ e rfl)
          have hf6 : w6.frozen? ⟨K, 0, none⟩ = false := (World.frozen?_of_block (hg6.block K (World.block_lt_of_cell? wr _ hnw) (fun e => hvk _ e.symm rfl))).trans hfw
          have hko6 : KeepsOthers W2 w6 := Hko.out.trans (by
            obtain ⟨wsq, hsq, -⟩ := Hkw.out.set
            exact KeepsOthers.of_grownBy hg6 (fun q o e ho => own_isCells hsq.ow q o e ho))
          have Hkw6 := Lib.hid hkw6
          have Hko6 := Lib.hid hko6
          clear hkw6 hko6 hvk hg6 hs6 Hkw HA0 hnw hfw hpw hsw
          gi_wp2_with fail
          refine ⟨Hko6.out.trans (KeepsOthers.setCell _ _ _), ?_, ?_, ?_⟩
          · rw [Hlen1.out]; exact Hkw6.out.away (grown_setCell w6 K 0 _) (fun q e => by cases e; exact Nat.le_refl _)
          · rw [Hlen1.out]; exact World.cell?_setCell_same' _ _ _ (by rw [hn6]; rfl)
          · rw [World.frozen?_setCell]; exact hf6
    · obtain ⟨k2, rfl⟩ : ∃ k2, k = k2 + 1 := ⟨k - 1, by omega⟩
      have hkz : (((k2 + 1 : Nat) : Int) == 0) = false := by simp; omega
      gi_wp2_with fail
      have hst' := grown_setCell W2 K 0 (.int .i64 (((k2 + 1 : Nat) : Int) + 1))
      have hko := KeepsOthers.setCell W2 ⟨K, 0, none⟩ (.int .i64 (((k2 + 1 : Nat) : Int) + 1))
      refine ⟨hko, ?_, ?_, ?_⟩
      · rw [Hlen1.out]; exact Hi2.out.away hst' (fun q e => by cases e; exact Nat.le_refl _)
      · rw [Hlen1.out]; exact World.cell?_setCell_same' _ _ _ (by rw [hn2]; rfl)
      · rw [World.frozen?_setCell]; exact hf2
  case done =>
    rintro D W2 W3 W4 ⟨hi, hn, hf⟩ rfl hc hD hd
    rename_i Kx hKx
    refine hKx _ _ ?_
    clear hKx Kx H5
    rw [← HE.out, ← HN.out] at hi hn
    have hi4 := hi.calm hc hsz5
    have hn4 := hc.cell hn
    have hf4 := (hc.frozen hn).trans hf
    have hp4 := hi4.p
    have hs4 := hi4.s
    clear hi hn hf hc
    have hnn : ((n : Int) != (n : Int)) = false := by simp
    have Hd4 := Lib.hid hd
    clear hd
    by_cases hz : n = 0
    · subst hz
      have hi5 : KW w K (w.heap.size + 3) b B N v vw (.slice al 0 cl) ws l l W4 := hi4
      have Hi4 := Lib.hid hi5
      have hn0 : W4.cell? ⟨K, 0, none⟩ = some (.int .i64 0) := hn4
      clear hi4 hi5 hn4
      obtain ⟨wsf, hsf, hif⟩ := Hi4.out.set
      have HAW := Lib.hid (allwords_any hsf Hi4.out.tab hif (.slice al 0 cl) (Reads.own (by have := Hi4.out.row; rwa [← HN.out] at this ⊢) Nat.one_pos) 0)
      have hpf := Hi4.out.p
      have hsf' := Hi4.out.s
      clear hsf hif
      gi_wp2_with fail
      refine ⟨trivial, (callsIn_wide.2 HAW.out).mono ?_⟩
      rintro e wz ⟨rfl, hbz⟩
      have hkz := Hi4.out.away (below_grownBy hbz none) (fun q e => by cases e)
      have hdz := (hbz.block D (Array.getElem?_eq_some_iff.1 Hd4.out).1).trans Hd4.out
      have hcz := hkz.c
      have hfz := hkz.f
      have Hkz := Lib.hid hkz
      have Hdz := Lib.hid hdz
      clear hkz hbz hdz HAW
      gi_wp2_with fail
      refine ⟨by simp, .inl ⟨_, _, rfl, run_takeDeferred ((KeepsOthers.setCell wz ⟨w.heap.size + 2, 0, none⟩ (.bool true)).same _ _ Hdz.out rfl), ?_⟩⟩
      have hr : (wz.setCell ⟨w.heap.size + 2, 0, none⟩ (.bool true)).cell? ⟨w.heap.size + 2, 0, none⟩ = some (.bool true) := World.cell?_setCell_same' _ _ _ (by rw [hcz]; rfl)
      have k1 := Calm.putObj (B := w.heap.size) _ (.deferred none) ((KeepsOthers.setCell wz ⟨w.heap.size + 2, 0, none⟩ (.bool true)).same _ _ Hdz.out rfl) rfl (by omega)
      have hr5 := k1.cell hr
      have hgs := grown_setCell wz (w.heap.size + 2) 0 (.bool true)
      have hbs := grownBy_trans Hkz.out.bel hgs (fun q e => .inr (by cases e; omega))
      refine ⟨.bool true, by simp [results, Tryd.results12, go_sem, hr5], rfl, ⟨k1.os.trans hbs.os, k1.tape.trans hbs.tape, k1.output.trans hbs.output, Nat.le_trans hbs.size k1.size, fun i hi hne => (k1.block i (by omega)).trans (hbs.block i hi hne)⟩, ?_⟩
      obtain ⟨wsf, hsf, hif⟩ := Hkz.out.set
      have hkb := Hkz.out.kb
      have hkv := Hkz.out.kv
      exact ⟨wsf, (hsf.other hgs (fun e => by cases e; omega) (fun g e e2 => by cases e2; have := (hkv _ e).1; omega)).calm k1, hif⟩
    · obtain ⟨n', rfl⟩ : ∃ n', n = n' + 1 := ⟨n - 1, by omega⟩
      have hi5 : KW w K (w.heap.size + 3) b B N v vw (.slice al (n' + 1) cl) ws l [0] W4 := hi4
      have hlen := hi5.set
      obtain ⟨wsq, hsq, hiq⟩ := hlen
      have hLq := len_any hsq
      rw [hiq.1.len, show ([0] : List Nat).length = 1 from rfl] at hLq
      have HLen := Lib.hid hLq
      have HDr := Lib.hid (hi5.set.dropFirst (by omega))
      have Hi4 := Lib.hid hi5
      have hpos : decide ((0 : Int) < ((n' + 1 : Nat) : Int)) = true := decide_eq_true (by omega)
      clear hi4 hi5 hsq hiq hLq hz
      gi_wp2_with fail
      refine ⟨trivial, (callsIn_wide.2 HLen.out).mono ?_⟩
      rintro e w6 ⟨rfl, hw6⟩
      have hw6' := hw6.symm
      subst hw6'
      clear hw6 HLen
      gi_wp2_with fail
      refine ⟨trivial, (callsIn_wide.2 HDr.out).mono ?_⟩
      rintro e w7 ⟨rfl, hg7, hs7⟩
      have hkw7 := Hi4.out.turn hg7 (fun q e => .inl e) hs7
      have hd7 : w7.heap[D]? = some (.deferred (some [])) := (hg7.block D (Array.getElem?_eq_some_iff.1 Hd4.out).1 (fun e => by have := (Hi4.out.kv D e.symm).1; omega)).trans Hd4.out
      have H7 := Lib.hid (And.intro hkw7 hd7)
      clear hkw7 hd7 hg7 hs7 HDr hp4 hs4 hn4 hf4 Hd4 hnn hpos
      gi_wp2_with fail
      gi_loopw [11] (fun i wr => ∃ j : Nat, j ≤ n' + 1 ∧ i = .int .i64 j ∧ KW w K (w.heap.size + 3) b B N v vw (.slice al (n' + 1) cl) ws l (l.take j) wr ∧ wr.heap[D]? = some (.deferred (some []))) (fun i _ => n' + 1 - (intOf i).toNat)
      case atStart => exact ⟨0, by omega, rfl, H7.out⟩
      case round =>
        clear H7 Hi4
        obtain ⟨j, hj, rfl, hkw, hdw⟩ := hrel
        have hpw := hkw.p
        have hsw := hkw.s
        by_cases hlt : j < n' + 1
        · obtain ⟨al3, cl3, e3, -, -, -, hrd⟩ := reads_opened (l := l) (Reads.own hkw.row Nat.one_pos)
          rw [← HN.out] at e3
          cases e3
          obtain ⟨rb3, roff3, rfl, hrb3, hrc⟩ := hrd (by rw [← HN.out]; omega)
          have hcj := hrc j (by rw [← HN.out]; exact hlt)
          have hjl : j < l.length := by rw [← HN.out]; exact hlt
          have htk : l.take (j + 1) = l.take j ++ [l.getD j 0] := by rw [List.take_add_one, List.getElem?_eq_getElem hjl, getD_eq hjl]; rfl
          have hx32 := H32.out (l.getD j 0) (by rw [getD_eq hjl]; exact List.getElem_mem hjl)
          have hxN := HNl.out (l.getD j 0) (by rw [getD_eq hjl]; exact List.getElem_mem hjl)
          have hbe : ∀ y ∈ l.take j, y < l.getD j 0 := fun y hy => by
            obtain ⟨i, hij, hil, rfl⟩ := mem_take hy
            exact up_get HUp.out hij hjl
          have hkd := hkw.away (C := wr.drew) (r := none) ⟨rfl, rfl, rfl, Nat.le_refl _, fun _ _ _ => rfl⟩ (fun q e => by cases e)
          have HD := Lib.hid (hkd.set.add (l.getD j 0) hxN hx32 hbe)
          rw [← htk] at HD
          have Hkd := Lib.hid hkd
          have hji : (j : Int) < ((n' + 1 : Nat) : Int) := by omega
          have hj0 : (0 : Int) ≤ (j : Int) := by omega
          clear hkw hkd htk hrc hrd hjl hx32 hxN hbe
          generalize l.getD j 0 = z at *
          gi_wp2_with fail
          first
            | (gi_region_with (refine ⟨trivial, (callsIn_wide.2 HD.out).mono ?_⟩; rintro e w6 ⟨rfl, hg6, hs6⟩))
            | fail "region 24"
          all_goals
            have hkw6 := Hkd.out.turn hg6 (fun q e => .inl e) hs6
            have hd6 : w6.heap[D]? = some (.deferred (some [])) := (hg6.block D (Array.getElem?_eq_some_iff.1 hdw).1 (fun e => by have := (Hkd.out.kv D e.symm).1; omega)).trans hdw
            have H6 := Lib.hid (And.intro hkw6 hd6)
            clear hkw6 hd6
            gi_wp2
            go_roundw
            case rel => exact ⟨j + 1, by omega, by go_num, H6.out⟩
            case measure => simp [intOf]; omega
        · obtain rfl : j = n' + 1 := by omega
          rw [List.take_of_length_le (by rw [← HN.out]; exact Nat.le_refl _)] at hkw
          have Hi4 := Lib.hid hkw
          have Hd4 := Lib.hid hdw
          clear hkw hdw hpw hsw
          obtain ⟨wsf, hsf, hif⟩ := Hi4.out.set
          have HAW := Lib.hid (allwords_any hsf Hi4.out.tab hif (.slice al (n' + 1) cl) (Reads.own (by have := Hi4.out.row; rwa [← HN.out] at this ⊢) Nat.one_pos) ((n' + 1 : Nat) : Int))
          have hpf := Hi4.out.p
          have hsf' := Hi4.out.s
          clear hsf hif
          gi_wp2_with fail
          refine ⟨trivial, (callsIn_wide.2 HAW.out).mono ?_⟩
          rintro e wz ⟨rfl, hbz⟩
          have hkz := Hi4.out.away (below_grownBy hbz none) (fun q e => by cases e)
          have hdz := (hbz.block D (Array.getElem?_eq_some_iff.1 Hd4.out).1).trans Hd4.out
          have hcz := hkz.c
          have hfz := hkz.f
          have Hkz := Lib.hid hkz
          have Hdz := Lib.hid hdz
          clear hkz hbz hdz HAW
          gi_wp2_with fail
          refine ⟨by simp, .inl ⟨_, _, rfl, run_takeDeferred ((KeepsOthers.setCell wz ⟨w.heap.size + 2, 0, none⟩ (.bool true)).same _ _ Hdz.out rfl), ?_⟩⟩
          have hr : (wz.setCell ⟨w.heap.size + 2, 0, none⟩ (.bool true)).cell? ⟨w.heap.size + 2, 0, none⟩ = some (.bool true) := World.cell?_setCell_same' _ _ _ (by rw [hcz]; rfl)
          have k1 := Calm.putObj (B := w.heap.size) _ (.deferred none) ((KeepsOthers.setCell wz ⟨w.heap.size + 2, 0, none⟩ (.bool true)).same _ _ Hdz.out rfl) rfl (by omega)
          have hr5 := k1.cell hr
          have hgs := grown_setCell wz (w.heap.size + 2) 0 (.bool true)
          have hbs := grownBy_trans Hkz.out.bel hgs (fun q e => .inr (by cases e; omega))
          refine ⟨.bool true, by simp [results, Tryd.results12, go_sem, hr5], rfl, ⟨k1.os.trans hbs.os, k1.tape.trans hbs.tape, k1.output.trans hbs.output, Nat.le_trans hbs.size k1.size, fun i hi hne => (k1.block i (by omega)).trans (hbs.block i hi hne)⟩, ?_⟩
          obtain ⟨wsf, hsf, hif⟩ := Hkz.out.set
          have hkb := Hkz.out.kb
          have hkv := Hkz.out.kv
          exact ⟨wsf, (hsf.other hgs (fun e => by cases e; omega) (fun g e e2 => by cases e2; have := (hkv _ e).1; omega)).calm k1, hif⟩
end Go.Proofs.YtofkamnmgpkehaaDoor
