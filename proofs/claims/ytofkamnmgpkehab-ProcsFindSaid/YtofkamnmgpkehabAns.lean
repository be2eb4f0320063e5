import Derived.Test.YtofkamnmgpkehabFound
import Derived.Test.YtofkamnmgpkehabWalks
import Derived.Deep.RegionHeld3
import Derived.Deep.QuietTactic
import Derived.BigQuiet
/- answers: each kind of call. -/
namespace Go.Proofs.Ytofkamnmgpkehab
open Go.RowKit
set_option linter.unusedVariables false
theorem Ph1.new {w : World} {B e sz lb : Nat} {vs : List Value} {mk : Nat → Nat → List Value} (hl : lb < w.heap.size) (hls : ∀ (j : Nat) (v : Value), vs[j]? = some v → w.cell? ⟨lb, j, none⟩ = some v)
    (hr : ∀ (j : Nat) (v : Value), vs[j]? = some v → ∃ n xs, w.ownsRow B e sz v n xs) : Ph1 w w B e sz lb vs mk 0 0 :=
  ⟨Below.refl _ _, hl, hls, fun j v hj => by
    obtain ⟨n, xs, h⟩ := hr j v hj
    rw [← own_lenV h] at h
    exact ⟨xs, h, fun h => absurd h (Nat.not_lt_zero _), fun _ t ht => by omega⟩⟩
/-- Two values whose blocks are not the same. -/
def Aside (u v : Value) : Prop := ∀ g, u.ownBlock = some g → v.ownBlock ≠ some g
theorem Aside.symm {u v : Value} (h : Aside u v) : Aside v u := fun g h1 h2 => h g h2 h1
theorem Aside.of {u v : Value} (n : Nat) (h1 : ∀ g, u.ownBlock = some g → g < n) (h2 : ∀ g, v.ownBlock = some g → n ≤ g) : Aside u v := fun g e1 e2 => by
  have := h1 g e1; have := h2 g e2; omega
theorem Lists.two {B lb : Nat} {u1 u2 : Value} (hB : B ≤ lb) (h1 : u1.ownBlock ≠ some lb) (h2 : u2.ownBlock ≠ some lb) (h12 : Aside u1 u2) : Lists B lb [u1, u2] where
  base := hB
  notl j v hj e := by
    match j with
    | 0 => cases hj; exact h1 e
    | 1 => cases hj; exact h2 e
    | j + 2 => cases hj
  apart i j u v g hi hj hu hv := by
    match i, j with
    | 0, 0 => rfl
    | 1, 1 => rfl
    | 0, 1 => cases hi; cases hj; exact absurd hv (h12 g hu)
    | 1, 0 => cases hi; cases hj; exact absurd hu (h12 g hv)
    | i + 2, _ => cases hi
    | _, j + 2 => cases hj
theorem cells_new (w : World) (cs : Array Value) (t : TypeId) (j : Nat) (v : Value) (h : cs.toList[j]? = some v) : (w.alloc (.cells cs t)).cell? ⟨w.heap.size, j, none⟩ = some v := by
  have := news_new w cs t j v h
  rwa [Addr.add_mid, Nat.zero_add] at this
/-- ApartBytes of three lists that have just been put side by side. -/
theorem run_bs71_2 (a1 a2 : Option Addr) (n1 n2 c1 c2 : Nat) (w : World) : (Instr.buildSlice 71 2 #[(0, .slice a1 n1 c1), (1, .slice a2 n2 c2)]).run Try.prog w = .ok (.slice (some ⟨w.heap.size, 0, none⟩) 2 2) (w.alloc (.cells #[.slice a1 n1 c1, .slice a2 n2 c2] 23)) := by kernel_rfl
theorem apart2W {w : World} {B : Nat} {u1 u2 : Value} {n1 n2 : Nat} {x1 x2 : List Value} (hB : B ≤ w.heap.size) (o1 : w.ownsRow B 32 1 u1 n1 x1) (o2 : w.ownsRow B 32 1 u2 n2 x2)
    (h1 : n1 ≤ 8796093022208) (h2 : n2 ≤ 8796093022208) (h12 : Aside u1 u2) :
    Calls Try.prog 28 #[.slice (some ⟨w.heap.size, 0, none⟩) 2 2] (w.alloc (.cells #[u1, u2] 23)) fun e w' => e = .returned (.bool true) ∧ Below B (w.alloc (.cells #[u1, u2] 23)) w' := by
  have hL : Lists B w.heap.size [u1, u2] := Lists.two hB (fun e => absurd (o1.lt _ e).2 (Nat.lt_irrefl _)) (fun e => absurd (o2.lt _ e).2 (Nat.lt_irrefl _)) h12
  refine apartWords_true w.heap.size 2 B [u1, u2] _ (Nat.le_refl _) (by decide) (by simp) hL ?_ (Ph1.new (by simp) (fun j v hj => cells_new _ _ _ _ _ hj) ?_)
  · intro j v hj
    match j with
    | 0 => cases hj; rw [own_lenV o1]; exact h1
    | 1 => cases hj; rw [own_lenV o2]; exact h2
    | j + 2 => cases hj
  · intro j v hj
    match j with
    | 0 => cases hj; exact ⟨_, _, o1.alloc _⟩
    | 1 => cases hj; exact ⟨_, _, o2.alloc _⟩
    | j + 2 => cases hj
theorem FindOk.pl {code : List (Nat × Nat)} {js ats : List Nat} (h : FindOk code js ats) : (psTo code code.length).length ≤ 16384 := Nat.le_trans (psTo_le _ _) (encRes_short h.he)
theorem FindOk.pp {code : List (Nat × Nat)} {js ats : List Nat} (h : FindOk code js ats) : 0 < (psTo code code.length).length := h.tl.pos h.h3.1
set_option maxRecDepth 100000 in
set_option maxHeartbeats 4000000 in
theorem ans0 {w : World} {b : Nat} {vc vj vn : Value} {code : List (Nat × Nat)} {js ats : List Nat} (h : Ready w b vc vj code js ats) (on a : Int) (x y : Nat) (hx : x < 4294967296) (hy : y < 4294967296) :
    Calls Try.prog 7 #[.pointer (some ⟨b, 0, none⟩), .agg #[vc, vj, vn], .agg #[.int .i64 on, .int .i64 0, .int .i64 a, .int .u32 x, .int .u32 y]] w fun e w' => e = .returned (.bool true) ∧ Below w.heap.size w w' := by
  have hb0 := Bel.al (Bel.new w (.cells #[vc, vj, vn] 26)) (.cells #[.int .i64 on, .int .i64 0, .int .i64 a, .int .u32 x, .int .u32 y] 34)
  have HR := Lib.hid (h.below hb0)
  have Hb0 := Lib.hid hb0
  have hcn := Lib.hid (show (psTo code code.length).length ≤ 16384 from h.ok.pl)
  clear h hb0
  go_enter Try.func7, Try.ntmps7
  go_wp2_with fail
  refine HR.out.rprocs.mono ?_
  rintro e w1 ⟨u, rfl, ho, hb1⟩
  obtain ⟨au, cu, rfl, -, -, -⟩ := own_sl ho
  have HO := Lib.hid (own_base ho)
  have HR1 := Lib.hid (HR.out.below hb1)
  have Hb1 := Lib.hid (Bel.tr Hb0.out hb1)
  have ic0 := (hb1.cell (p := ⟨w.heap.size, 0, none⟩) (by simp; omega)).trans (show _ = some vc by simp [go_sem])
  have ic1 := (hb1.cell (p := ⟨w.heap.size, 1, none⟩) (by simp; omega)).trans (show _ = some vj by simp [go_sem])
  have iq1 := (hb1.cell (p := ⟨w.heap.size + 1, 1, none⟩) (by simp)).trans (show _ = some (.int .i64 0) by simp [go_sem])
  have iq2 := (hb1.cell (p := ⟨w.heap.size + 1, 2, none⟩) (by simp)).trans (show _ = some (.int .i64 a) by simp [go_sem])
  have iq3 := (hb1.cell (p := ⟨w.heap.size + 1, 3, none⟩) (by simp)).trans (show _ = some (.int .u32 x) by simp [go_sem])
  have iq4 := (hb1.cell (p := ⟨w.heap.size + 1, 4, none⟩) (by simp)).trans (show _ = some (.int .u32 y) by simp [go_sem])
  clear ho hb1 HR
  go_wp2_with fail
  refine HR1.out.count.mono ?_
  rintro e w2 ⟨rfl, hb2⟩
  have Hb2 := Lib.hid (Bel.tr Hb1.out hb2)
  clear hb2
  go_wp2
  go_ret
  exact ⟨rfl, Hb2.out⟩
theorem b39_0 (w : World) : (Instr.build 39 #[]).run Try.prog w = .ok (.agg #[.int .u32 0, .int .u32 0, .int .u32 0, .int .i64 0]) w := by kernel_rfl
set_option maxRecDepth 100000 in
set_option maxHeartbeats 4000000 in
theorem ans1 {w : World} {b : Nat} {vc vj vn : Value} {code : List (Nat × Nat)} {js ats : List Nat} (h : Ready w b vc vj code js ats) (on a : Int) (x y : Nat) (hx : x < 4294967296) (hy : y < 4294967296) :
    Calls Try.prog 7 #[.pointer (some ⟨b, 0, none⟩), .agg #[vc, vj, vn], .agg #[.int .i64 on, .int .i64 1, .int .i64 a, .int .u32 x, .int .u32 y]] w fun e w' => e = .returned (.bool true) ∧ Below w.heap.size w w' := by
  have hb0 := Bel.al (Bel.new w (.cells #[vc, vj, vn] 26)) (.cells #[.int .i64 on, .int .i64 1, .int .i64 a, .int .u32 x, .int .u32 y] 34)
  have HR := Lib.hid (h.below hb0)
  have Hb0 := Lib.hid hb0
  have hcn := Lib.hid (show (psTo code code.length).length ≤ 16384 from h.ok.pl)
  clear h hb0
  go_enter Try.func7, Try.ntmps7
  go_wp2_with fail
  refine HR.out.rprocs.mono ?_
  rintro e w1 ⟨u, rfl, ho, hb1⟩
  obtain ⟨au, cu, rfl, -, -, -⟩ := own_sl ho
  have HO := Lib.hid (own_base ho)
  have HR1 := Lib.hid (HR.out.below hb1)
  have Hb1 := Lib.hid (Bel.tr Hb0.out hb1)
  have ic0 := (hb1.cell (p := ⟨w.heap.size, 0, none⟩) (by simp; omega)).trans (show _ = some vc by simp [go_sem])
  have ic1 := (hb1.cell (p := ⟨w.heap.size, 1, none⟩) (by simp; omega)).trans (show _ = some vj by simp [go_sem])
  have iq1 := (hb1.cell (p := ⟨w.heap.size + 1, 1, none⟩) (by simp)).trans (show _ = some (.int .i64 1) by simp [go_sem])
  have iq2 := (hb1.cell (p := ⟨w.heap.size + 1, 2, none⟩) (by simp)).trans (show _ = some (.int .i64 a) by simp [go_sem])
  have iq3 := (hb1.cell (p := ⟨w.heap.size + 1, 3, none⟩) (by simp)).trans (show _ = some (.int .u32 x) by simp [go_sem])
  have iq4 := (hb1.cell (p := ⟨w.heap.size + 1, 4, none⟩) (by simp)).trans (show _ = some (.int .u32 y) by simp [go_sem])
  clear ho hb1 HR
  have hb39 := b39_0
  have heq := eql39
  go_wp2_with fail
  refine (HR1.out.proc a).mono ?_
  rintro e w2 ⟨rfl, hb2⟩
  have Hb2 := Lib.hid (Bel.tr Hb1.out hb2)
  have iq2' := (hb2.cell (p := ⟨w.heap.size + 1, 2, none⟩) (World.block_lt_of_cell? _ _ iq2)).trans iq2
  have hsl : w.heap.size + 1 < w2.heap.size := World.block_lt_of_cell? _ _ iq2'
  have hsl' : w2.heap.size ≠ w.heap.size + 1 := by omega
  have HO2 := Lib.hid (own_below HO.out hb2)
  have hpl := hcn.out
  clear hb2 ic0 ic1 iq1 iq2 iq3 iq4
  unfold procN procV
  by_cases hin : 0 ≤ a ∧ a < (psTo code code.length).length
  · rw [if_pos hin]
    obtain ⟨k, rfl⟩ := Int.eq_ofNat_of_zero_le hin.1
    have hk : k < (psTo code code.length).length := by omega
    rw [Int.toNat_natCast]
    obtain ⟨q0, q1, q2, q3⟩ := encP_at (psTo code code.length) k hk
    obtain ⟨g, cu', hv, -, hgl⟩ := own_start HO2.out (by omega)
    cases hv
    have hl4 := encP_length (psTo code code.length)
    rw [← HO2.out.cellAt _ (by omega)] at q0 q1 q2 q3
    have hgl' : w2.heap.size ≠ g := by omega
    have hki : (k : Int) < ((psTo code code.length).length : Int) := by omega
    have hk0 : (0 : Int) ≤ (k : Int) := by omega
    have hd : decide ((psTo code code.length).length ≤ k) = false := decide_eq_false (by omega)
    generalize (psTo code code.length).getD k (0, 0, 0) = pr at *
    generalize (psTo code code.length).length = N at *
    obtain ⟨p0, p1, p2⟩ := pr
    simp only at q0 q1 q2
    have hee : ∀ W : World, (binOp .eql 39 (.agg #[.int .u32 p0, .int .u32 p1, .int .u32 p2, .int .i64 0]) (.agg #[.int .u32 p0, .int .u32 p1, .int .u32 p2, .int .i64 0])).run Try.prog W = .ok (.bool true) W := fun W => by rw [eql39]; simp
    clear hin hl4 HO HO2 heq hk
    go_wp2_with fail
    go_quiet (fail)
    go_wp2
    go_ret
    exact ⟨rfl, below_drewN (Bel.al Hb2.out _) _⟩
  · rw [if_neg hin]
    have hee : ∀ W : World, (binOp .eql 39 (.agg #[.int .u32 0, .int .u32 0, .int .u32 0, .int .i64 0]) (.agg #[.int .u32 0, .int .u32 0, .int .u32 0, .int .i64 0])).run Try.prog W = .ok (.bool true) W := fun W => by kernel_rfl
    by_cases h0 : a < 0
    · clear hin heq
      go_wp2
      go_ret
      exact ⟨rfl, Bel.al Hb2.out _⟩
    · have hge : (((psTo code code.length).length : Int) ≤ a) := by omega
      clear hin heq
      go_wp2
      go_ret
      exact ⟨rfl, Bel.al Hb2.out _⟩
end Go.Proofs.Ytofkamnmgpkehab
/- answers: Of, Begins, Legal. -/
namespace Go.Proofs.Ytofkamnmgpkehab
open Go.RowKit
set_option linter.unusedVariables false
set_option maxRecDepth 100000 in
set_option maxHeartbeats 4000000 in
theorem ans2 {w : World} {b : Nat} {vc vj vn : Value} {code : List (Nat × Nat)} {js ats : List Nat} (h : Ready w b vc vj code js ats) (on a : Int) (x y : Nat) (hx : x < 4294967296) (hy : y < 4294967296) :
    Calls Try.prog 7 #[.pointer (some ⟨b, 0, none⟩), .agg #[vc, vj, vn], .agg #[.int .i64 on, .int .i64 2, .int .i64 a, .int .u32 x, .int .u32 y]] w fun e w' => e = .returned (.bool true) ∧ Below w.heap.size w w' := by
  have hb0 := Bel.al (Bel.new w (.cells #[vc, vj, vn] 26)) (.cells #[.int .i64 on, .int .i64 2, .int .i64 a, .int .u32 x, .int .u32 y] 34)
  have HR := Lib.hid (h.below hb0)
  have Hb0 := Lib.hid hb0
  have hcn := Lib.hid (show (psTo code code.length).length ≤ 16384 from h.ok.pl)
  clear h hb0
  go_enter Try.func7, Try.ntmps7
  go_wp2_with fail
  refine HR.out.rprocs.mono ?_
  rintro e w1 ⟨u, rfl, ho, hb1⟩
  obtain ⟨au, cu, rfl, -, -, -⟩ := own_sl ho
  have HO := Lib.hid (own_base ho)
  have HR1 := Lib.hid (HR.out.below hb1)
  have Hb1 := Lib.hid (Bel.tr Hb0.out hb1)
  have ic0 := (hb1.cell (p := ⟨w.heap.size, 0, none⟩) (by simp; omega)).trans (show _ = some vc by simp [go_sem])
  have ic1 := (hb1.cell (p := ⟨w.heap.size, 1, none⟩) (by simp; omega)).trans (show _ = some vj by simp [go_sem])
  have iq1 := (hb1.cell (p := ⟨w.heap.size + 1, 1, none⟩) (by simp)).trans (show _ = some (.int .i64 2) by simp [go_sem])
  have iq2 := (hb1.cell (p := ⟨w.heap.size + 1, 2, none⟩) (by simp)).trans (show _ = some (.int .i64 a) by simp [go_sem])
  have iq3 := (hb1.cell (p := ⟨w.heap.size + 1, 3, none⟩) (by simp)).trans (show _ = some (.int .u32 x) by simp [go_sem])
  have iq4 := (hb1.cell (p := ⟨w.heap.size + 1, 4, none⟩) (by simp)).trans (show _ = some (.int .u32 y) by simp [go_sem])
  clear ho hb1 HR
  have hS0 := Lib.hid (show w1.drew.cell? ⟨w.heap.size, 0, none⟩ = some vc ∧ w1.drew.cell? ⟨w.heap.size + 1, 3, none⟩ = some (.int .u32 x) ∧ Below w1.heap.size w1 w1.drew from ⟨ic0, iq3, (Below.refl _ _).drew⟩)
  have H1 := Lib.hid (fun (W : World) (hS : W.cell? ⟨w.heap.size, 0, none⟩ = some vc ∧ W.cell? ⟨w.heap.size + 1, 3, none⟩ = some (.int .u32 x) ∧ Below w1.heap.size w1 W) => (HR1.out.below hS.2.2).of x hx)
  have H2 := Lib.hid (fun (W : World) (hS : W.cell? ⟨w.heap.size, 0, none⟩ = some vc ∧ W.cell? ⟨w.heap.size + 1, 3, none⟩ = some (.int .u32 x) ∧ Below w1.heap.size w1 W) => (HR1.out.below hS.2.2).rof x hx)
  have Hbd := Lib.hid Hb1.out.drew
  clear ic0 ic1 iq2 iq3 iq4
  generalize ofN (ofTo code code.length) x = z at *
  go_wp2_with fail
  clear iq1
  go_region_held3 (fun w' => w'.cell? ⟨w.heap.size, 0, none⟩ = some vc ∧ w'.cell? ⟨w.heap.size + 1, 3, none⟩ = some (.int .u32 x) ∧ Below w1.heap.size w1 w')
    (first | assumption | exact hS0.out)
    (first | (go_at_call 11; refine (H1.out _ ?_).mono ?_; assumption; rintro e w5 ⟨rfl, hw5⟩; subst hw5) | (go_at_call 24; refine (H2.out _ ?_).mono ?_; assumption; rintro e w5 ⟨rfl, hw5⟩; subst hw5) | fail)
  go_wp2
  go_ret
  exact ⟨by simp, Hbd.out⟩
set_option maxRecDepth 100000 in
set_option maxHeartbeats 4000000 in
theorem ans3 {w : World} {b : Nat} {vc vj vn : Value} {code : List (Nat × Nat)} {js ats : List Nat} (h : Ready w b vc vj code js ats) (on a : Int) (x y : Nat) (hx : x < 4294967296) (hy : y < 4294967296) :
    Calls Try.prog 7 #[.pointer (some ⟨b, 0, none⟩), .agg #[vc, vj, vn], .agg #[.int .i64 on, .int .i64 3, .int .i64 a, .int .u32 x, .int .u32 y]] w fun e w' => e = .returned (.bool true) ∧ Below w.heap.size w w' := by
  have hb0 := Bel.al (Bel.new w (.cells #[vc, vj, vn] 26)) (.cells #[.int .i64 on, .int .i64 3, .int .i64 a, .int .u32 x, .int .u32 y] 34)
  have HR := Lib.hid (h.below hb0)
  have Hb0 := Lib.hid hb0
  have hcn := Lib.hid (show (psTo code code.length).length ≤ 16384 from h.ok.pl)
  clear h hb0
  go_enter Try.func7, Try.ntmps7
  go_wp2_with fail
  refine HR.out.rprocs.mono ?_
  rintro e w1 ⟨u, rfl, ho, hb1⟩
  obtain ⟨au, cu, rfl, -, -, -⟩ := own_sl ho
  have HO := Lib.hid (own_base ho)
  have HR1 := Lib.hid (HR.out.below hb1)
  have Hb1 := Lib.hid (Bel.tr Hb0.out hb1)
  have ic0 := (hb1.cell (p := ⟨w.heap.size, 0, none⟩) (by simp; omega)).trans (show _ = some vc by simp [go_sem])
  have ic1 := (hb1.cell (p := ⟨w.heap.size, 1, none⟩) (by simp; omega)).trans (show _ = some vj by simp [go_sem])
  have iq1 := (hb1.cell (p := ⟨w.heap.size + 1, 1, none⟩) (by simp)).trans (show _ = some (.int .i64 3) by simp [go_sem])
  have iq2 := (hb1.cell (p := ⟨w.heap.size + 1, 2, none⟩) (by simp)).trans (show _ = some (.int .i64 a) by simp [go_sem])
  have iq3 := (hb1.cell (p := ⟨w.heap.size + 1, 3, none⟩) (by simp)).trans (show _ = some (.int .u32 x) by simp [go_sem])
  have iq4 := (hb1.cell (p := ⟨w.heap.size + 1, 4, none⟩) (by simp)).trans (show _ = some (.int .u32 y) by simp [go_sem])
  clear ho hb1 HR
  have Hbg := Lib.hid (HR1.out.begins x hx)
  have hop : (code.getD x (0, 0)).1 = opAt code x := rfl
  obtain ⟨ac, cc, rfl, hlc, hcm, -, hp⟩ := HR1.out.hc.opened
  have hlm : code.length ≤ 9223372036854775807 := by unfold maxLen at hcm; omega
  have Hp := Lib.hid hp
  clear hp iq2 iq4 ic1
  by_cases hxc : x < code.length
  · obtain ⟨cb, coff, rfl, hcb, hcell⟩ := Hp.out (by omega)
    have hq := (hcell x hxc).1
    rw [hop] at hq
    have hd : decide (x < code.length) = true := decide_eq_true hxc
    have hki : (x : Int) < (code.length : Int) := by omega
    have hk0 : (0 : Int) ≤ (x : Int) := by omega
    rw [hd, Bool.true_and] at Hbg
    have hlt : opAt code x < 256 := (HR1.out.hc.lt x).1
    clear hop hcell
    generalize opAt code x = o at *
    go_wp2_with fail
    refine Hbg.out.mono ?_
    rintro e w2 ⟨rfl, hb2⟩
    have Hb2 := Lib.hid (Bel.tr Hb1.out hb2)
    clear hb2 hq ic0 iq1 iq3
    have e3 : ((o : Int) == 3) = (o == 3) := by rw [Bool.eq_iff_iff]; simp; omega
    go_wp2
    go_ret
    exact ⟨by simp, Hb2.out⟩
  · have hd : decide (x < code.length) = false := decide_eq_false hxc
    have hki : ¬ ((x : Int) < (code.length : Int)) := by omega
    rw [hd, Bool.false_and] at Hbg
    clear hop
    go_wp2_with fail
    refine Hbg.out.mono ?_
    rintro e w2 ⟨rfl, hb2⟩
    have Hb2 := Lib.hid (Bel.tr Hb1.out hb2)
    clear hb2 ic0 iq1 iq3
    go_wp2
    go_ret
    exact ⟨rfl, Hb2.out⟩
set_option maxRecDepth 100000 in
set_option maxHeartbeats 4000000 in
theorem ans4 {w : World} {b : Nat} {vc vj vn : Value} {code : List (Nat × Nat)} {js ats : List Nat} (h : Ready w b vc vj code js ats) (on a : Int) (x y : Nat) (hx : x < 4294967296) (hy : y < 4294967296) :
    Calls Try.prog 7 #[.pointer (some ⟨b, 0, none⟩), .agg #[vc, vj, vn], .agg #[.int .i64 on, .int .i64 4, .int .i64 a, .int .u32 x, .int .u32 y]] w fun e w' => e = .returned (.bool true) ∧ Below w.heap.size w w' := by
  have hb0 := Bel.al (Bel.new w (.cells #[vc, vj, vn] 26)) (.cells #[.int .i64 on, .int .i64 4, .int .i64 a, .int .u32 x, .int .u32 y] 34)
  have HR := Lib.hid (h.below hb0)
  have Hb0 := Lib.hid hb0
  have hcn := Lib.hid (show (psTo code code.length).length ≤ 16384 from h.ok.pl)
  clear h hb0
  go_enter Try.func7, Try.ntmps7
  go_wp2_with fail
  refine HR.out.rprocs.mono ?_
  rintro e w1 ⟨u, rfl, ho, hb1⟩
  obtain ⟨au, cu, rfl, -, -, -⟩ := own_sl ho
  have HO := Lib.hid (own_base ho)
  have HR1 := Lib.hid (HR.out.below hb1)
  have Hb1 := Lib.hid (Bel.tr Hb0.out hb1)
  have ic0 := (hb1.cell (p := ⟨w.heap.size, 0, none⟩) (by simp; omega)).trans (show _ = some vc by simp [go_sem])
  have ic1 := (hb1.cell (p := ⟨w.heap.size, 1, none⟩) (by simp; omega)).trans (show _ = some vj by simp [go_sem])
  have iq1 := (hb1.cell (p := ⟨w.heap.size + 1, 1, none⟩) (by simp)).trans (show _ = some (.int .i64 4) by simp [go_sem])
  have iq2 := (hb1.cell (p := ⟨w.heap.size + 1, 2, none⟩) (by simp)).trans (show _ = some (.int .i64 a) by simp [go_sem])
  have iq3 := (hb1.cell (p := ⟨w.heap.size + 1, 3, none⟩) (by simp)).trans (show _ = some (.int .u32 x) by simp [go_sem])
  have iq4 := (hb1.cell (p := ⟨w.heap.size + 1, 4, none⟩) (by simp)).trans (show _ = some (.int .u32 y) by simp [go_sem])
  clear ho hb1 HR
  have hS0 := Lib.hid (show w1.drew.cell? ⟨w.heap.size, 0, none⟩ = some vc ∧ w1.drew.cell? ⟨w.heap.size, 1, none⟩ = some vj ∧ w1.drew.cell? ⟨w.heap.size + 1, 3, none⟩ = some (.int .u32 x) ∧ w1.drew.cell? ⟨w.heap.size + 1, 4, none⟩ = some (.int .u32 y) ∧ Below w1.heap.size w1 w1.drew from ⟨ic0, ic1, iq3, iq4, (Below.refl _ _).drew⟩)
  have H1 := Lib.hid (fun (W : World) (hS : W.cell? ⟨w.heap.size, 0, none⟩ = some vc ∧ W.cell? ⟨w.heap.size, 1, none⟩ = some vj ∧ W.cell? ⟨w.heap.size + 1, 3, none⟩ = some (.int .u32 x) ∧ W.cell? ⟨w.heap.size + 1, 4, none⟩ = some (.int .u32 y) ∧ Below w1.heap.size w1 W) => (HR1.out.below hS.2.2.2.2).legal y x hy)
  have H2 := Lib.hid (fun (W : World) (hS : W.cell? ⟨w.heap.size, 0, none⟩ = some vc ∧ W.cell? ⟨w.heap.size, 1, none⟩ = some vj ∧ W.cell? ⟨w.heap.size + 1, 3, none⟩ = some (.int .u32 x) ∧ W.cell? ⟨w.heap.size + 1, 4, none⟩ = some (.int .u32 y) ∧ Below w1.heap.size w1 W) => (HR1.out.below hS.2.2.2.2).rlegal y x hy hx)
  have Hbd := Lib.hid Hb1.out.drew
  clear ic0 ic1 iq2 iq3 iq4
  generalize legalR (ofTo code code.length) js y x = z at *
  go_wp2_with fail
  clear iq1
  go_region_held3 (fun w' => w'.cell? ⟨w.heap.size, 0, none⟩ = some vc ∧ w'.cell? ⟨w.heap.size, 1, none⟩ = some vj ∧ w'.cell? ⟨w.heap.size + 1, 3, none⟩ = some (.int .u32 x) ∧ w'.cell? ⟨w.heap.size + 1, 4, none⟩ = some (.int .u32 y) ∧ Below w1.heap.size w1 w')
    (first | assumption | exact hS0.out)
    (first | (go_at_call 13; refine (H1.out _ ?_).mono ?_; assumption; rintro e w5 ⟨rfl, hw5⟩; subst hw5) | (go_at_call 25; refine (H2.out _ ?_).mono ?_; assumption; rintro e w5 ⟨rfl, hw5⟩; subst hw5) | fail)
  go_wp2
  go_ret
  exact ⟨by simp, Hbd.out⟩
set_option maxRecDepth 100000 in
set_option maxHeartbeats 4000000 in
theorem ansE {w : World} {b : Nat} {vc vj vn : Value} {code : List (Nat × Nat)} {js ats : List Nat} (h : Ready w b vc vj code js ats) (on kd a : Int) (x y : Nat) (hx : x < 4294967296) (hy : y < 4294967296) (hk : kd ≠ 0 ∧ kd ≠ 1 ∧ kd ≠ 2 ∧ kd ≠ 3 ∧ kd ≠ 4 ∧ kd ≠ 5) :
    Calls Try.prog 7 #[.pointer (some ⟨b, 0, none⟩), .agg #[vc, vj, vn], .agg #[.int .i64 on, .int .i64 kd, .int .i64 a, .int .u32 x, .int .u32 y]] w fun e w' => e = .returned (.bool true) ∧ Below w.heap.size w w' := by
  have hb0 := Bel.al (Bel.new w (.cells #[vc, vj, vn] 26)) (.cells #[.int .i64 on, .int .i64 kd, .int .i64 a, .int .u32 x, .int .u32 y] 34)
  have HR := Lib.hid (h.below hb0)
  have Hb0 := Lib.hid hb0
  have hcn := Lib.hid (show (psTo code code.length).length ≤ 16384 from h.ok.pl)
  clear h hb0
  go_enter Try.func7, Try.ntmps7
  go_wp2_with fail
  refine HR.out.rprocs.mono ?_
  rintro e w1 ⟨u, rfl, ho, hb1⟩
  obtain ⟨au, cu, rfl, -, -, -⟩ := own_sl ho
  have HO := Lib.hid (own_base ho)
  have HR1 := Lib.hid (HR.out.below hb1)
  have Hb1 := Lib.hid (Bel.tr Hb0.out hb1)
  have ic0 := (hb1.cell (p := ⟨w.heap.size, 0, none⟩) (by simp; omega)).trans (show _ = some vc by simp [go_sem])
  have ic1 := (hb1.cell (p := ⟨w.heap.size, 1, none⟩) (by simp; omega)).trans (show _ = some vj by simp [go_sem])
  have iq1 := (hb1.cell (p := ⟨w.heap.size + 1, 1, none⟩) (by simp)).trans (show _ = some (.int .i64 kd) by simp [go_sem])
  have iq2 := (hb1.cell (p := ⟨w.heap.size + 1, 2, none⟩) (by simp)).trans (show _ = some (.int .i64 a) by simp [go_sem])
  have iq3 := (hb1.cell (p := ⟨w.heap.size + 1, 3, none⟩) (by simp)).trans (show _ = some (.int .u32 x) by simp [go_sem])
  have iq4 := (hb1.cell (p := ⟨w.heap.size + 1, 4, none⟩) (by simp)).trans (show _ = some (.int .u32 y) by simp [go_sem])
  clear ho hb1 HR
  have Hd : (kd == 0) = false ∧ (kd == 1) = false ∧ (kd == 2) = false ∧ (kd == 3) = false ∧ (kd == 4) = false ∧ (kd == 5) = false := by
    refine ⟨?_, ?_, ?_, ?_, ?_, ?_⟩ <;> (simp; omega)
  obtain ⟨d0, d1, d2, d3, d4, d5⟩ := Hd
  have Hws := Lib.hid (show Calls Try.prog 29 #[.pointer (some ⟨b, 0, none⟩), .slice au (psTo code code.length).length cu, .int .i64 a] w1 fun e w' => e = .returned (.bool true) ∧ Below w1.heap.size w1 w' from by
    obtain ⟨B, vp, vo, vt, us, hA⟩ := HR1.out.at_
    exact walks_any hA _ HO.out HR1.out.ok.pp hcn.out a)
  clear ic0 ic1 iq3 iq4 hk
  go_wp2_with fail
  refine Hws.out.mono ?_
  rintro e w2 ⟨rfl, hb2⟩
  have Hb2 := Lib.hid (Bel.tr Hb1.out hb2)
  clear hb2 iq2 iq1
  go_wp2
  go_ret
  exact ⟨rfl, Hb2.out⟩
end Go.Proofs.Ytofkamnmgpkehab
/- answers: Targets. -/
namespace Go.Proofs.Ytofkamnmgpkehab
open Go.RowKit
set_option linter.unusedVariables false
theorem sameW_true (v u : Value) (l : List Nat) (w : World) (h1 : Reads w 1 v l.length (encN .u32 l)) (h2 : Reads w 1 u l.length (encN .u32 l)) :
    Calls Try.prog 27 #[v, u] w fun e w' => e = .returned (.bool true) ∧ Below w.heap.size w w' :=
  (samewords_any v u l l w h1 h2).mono fun e w' h => ⟨by rw [h.1, decide_eq_true rfl], h.2⟩
theorem own_shape' {w : World} {B e sz n : Nat} {v : Value} {xs : List Value} (h : w.ownsRow B e sz v n xs) : ∃ a cap, v = .slice a n cap := by
  obtain ⟨a, c, hv, _⟩ := own_sl h
  exact ⟨a, c, hv⟩
set_option maxRecDepth 100000 in
set_option maxHeartbeats 4000000 in
theorem ans5 {w : World} {b : Nat} {vc vj vn : Value} {code : List (Nat × Nat)} {js ats : List Nat} (h : Ready w b vc vj code js ats) (on a : Int) (x y : Nat) (hx : x < 4294967296) (hy : y < 4294967296) :
    Calls Try.prog 7 #[.pointer (some ⟨b, 0, none⟩), .agg #[vc, vj, vn], .agg #[.int .i64 on, .int .i64 5, .int .i64 a, .int .u32 x, .int .u32 y]] w fun e w' => e = .returned (.bool true) ∧ Below w.heap.size w w' := by
  have hb0 := Bel.al (Bel.new w (.cells #[vc, vj, vn] 26)) (.cells #[.int .i64 on, .int .i64 5, .int .i64 a, .int .u32 x, .int .u32 y] 34)
  have HR := Lib.hid (h.below hb0)
  have Hb0 := Lib.hid hb0
  have hcn := Lib.hid (show (psTo code code.length).length ≤ 16384 from h.ok.pl)
  clear h hb0
  go_enter Try.func7, Try.ntmps7
  go_wp2_with fail
  refine HR.out.rprocs.mono ?_
  rintro e w1 ⟨u, rfl, ho, hb1⟩
  obtain ⟨au, cu, rfl, -, -, -⟩ := own_sl ho
  have HO := Lib.hid (own_base ho)
  have HR1 := Lib.hid (HR.out.below hb1)
  have Hb1 := Lib.hid (Bel.tr Hb0.out hb1)
  have ic0 := (hb1.cell (p := ⟨w.heap.size, 0, none⟩) (by simp; omega)).trans (show _ = some vc by simp [go_sem])
  have ic1 := (hb1.cell (p := ⟨w.heap.size, 1, none⟩) (by simp; omega)).trans (show _ = some vj by simp [go_sem])
  have iq1 := (hb1.cell (p := ⟨w.heap.size + 1, 1, none⟩) (by simp)).trans (show _ = some (.int .i64 5) by simp [go_sem])
  have iq2 := (hb1.cell (p := ⟨w.heap.size + 1, 2, none⟩) (by simp)).trans (show _ = some (.int .i64 a) by simp [go_sem])
  have iq3 := (hb1.cell (p := ⟨w.heap.size + 1, 3, none⟩) (by simp)).trans (show _ = some (.int .u32 x) by simp [go_sem])
  have iq4 := (hb1.cell (p := ⟨w.heap.size + 1, 4, none⟩) (by simp)).trans (show _ = some (.int .u32 y) by simp [go_sem])
  clear ho hb1 HR
  have hb71 := run_bs71_2
  have Hrt := Lib.hid (HR1.out.rtargets a)
  have hjl := HR1.out.ok.jl
  go_wp2_with fail
  refine Hrt.out.mono ?_
  rintro e w2 ⟨u, rfl, ou, hb2⟩
  obtain ⟨av, cv, rfl, -, -, -⟩ := own_sl ou
  have HR2 := Lib.hid (HR1.out.below hb2)
  have Hb2 := Lib.hid (Bel.tr Hb1.out hb2)
  have iq2' := (hb2.cell (p := ⟨w.heap.size + 1, 2, none⟩) (World.block_lt_of_cell? _ _ iq2)).trans iq2
  have iq2h := Lib.hid iq2'
  have iqs : w.heap.size + 1 < w2.heap.size := World.block_lt_of_cell? _ _ iq2'
  have hal := aimR_le (ofTo code code.length) js a js.length
  rw [List.take_length] at hal
  have Htg := Lib.hid (fun (W : World) (hb : Below w2.heap.size w2 W) => (HR2.out.below hb).targets a)
  have OU := Lib.hid (own_base ou)
  generalize aimR (ofTo code code.length) js a = A at *
  clear ou hb2 Hrt ic0 ic1 iq3 iq4 iq2 iq1 HR1 Hb1
  obtain ⟨L, hL⟩ : ∃ L, L = (if a < 0 then [] else A) := ⟨_, rfl⟩
  rw [← hL] at Htg
  have hLl : L.length ≤ 16384 := by rw [hL]; split; exact Nat.zero_le _; omega
  by_cases ha : a < 0
  case' pos =>
    have HW := Lib.hid (show Reads w2 1 (.slice none 0 0) L.length (encN .u32 L) from by rw [hL, if_pos ha]; exact Reads.nil w2 1)
    have hUn := (fun q => (show (Value.slice none 0 0).ownBlock = some q → q < w2.heap.size from fun e => by cases e))
    clear hL OU
    go_wp2_with fail
  case' neg =>
    have HW := Lib.hid (show Reads w2 1 (.slice av A.length cv) L.length (encN .u32 L) from by rw [hL, if_neg ha]; exact Reads.own OU.out Nat.one_pos)
    clear hL OU
    go_wp2_with fail
  all_goals
    refine (Htg.out w2 (Below.refl _ _)).mono ?_
    rintro e w3 ⟨v1, rfl, o1, hb3⟩
    obtain ⟨a1, n1, rfl⟩ := own_shape' o1
    have O1 := Lib.hid o1
    have Hb3 := Lib.hid hb3
    have iq3 := (hb3.cell (p := ⟨w.heap.size + 1, 2, none⟩) (World.block_lt_of_cell? _ _ iq2')).trans iq2'
    clear o1 hb3 iq2'
    go_wp2_with fail
    refine (Htg.out w3 Hb3.out).mono ?_
    rintro e w4 ⟨v2, rfl, o2, hb4⟩
    obtain ⟨a2, n2, rfl⟩ := own_shape' o2
    have O2 := Lib.hid o2
    have Hb4 := Lib.hid hb4
    have iq4 := (hb4.cell (p := ⟨w.heap.size + 1, 2, none⟩) (World.block_lt_of_cell? _ _ iq3)).trans iq3
    clear o2 hb4 iq3
    go_wp2_with fail
    have Hb24 := Lib.hid (Bel.tr Hb3.out Hb4.out)
    have Hs1 := Lib.hid (sameW_true _ _ L w4 (Reads.own (own_below O1.out Hb4.out) Nat.one_pos) (HW.out.below Hb24.out))
    refine Hs1.out.mono ?_
    rintro e w5 ⟨rfl, hb5⟩
    have Hb25 := Lib.hid (Bel.tr Hb24.out hb5)
    have Hb45 := Lib.hid hb5
    have Hs2 := Lib.hid (sameW_true _ _ L w5 (Reads.own (own_below O2.out hb5) Nat.one_pos) (HW.out.below Hb25.out))
    have iq5 := (hb5.cell (p := ⟨w.heap.size + 1, 2, none⟩) (World.block_lt_of_cell? _ _ iq4)).trans iq4
    clear hb5 iq4 Hs1
    go_wp2_with fail
    refine Hs2.out.mono ?_
    rintro e w6 ⟨rfl, hb6⟩
    have Hb26 := Lib.hid (Bel.tr Hb25.out hb6)
    have hs2 := Hb3.out.size
    have hs3 := Hb4.out.size
    have hs4 := Hb45.out.size
    have hs5 := hb6.size
    have Hap := Lib.hid (apart2W (w := w6) (B := w2.heap.size) Hb26.out.size (own_below (own_below O1.out Hb4.out) (Bel.tr Hb45.out hb6))
      (own_from (own_base (own_below O2.out (Bel.tr Hb45.out hb6))) (fun g e => Nat.le_trans hs2 (O2.out.lt g e).1)) (by omega) (by omega) (Aside.of w3.heap.size (fun g e => (O1.out.lt g e).2) (fun g e => (O2.out.lt g e).1)))
    have iq6 := (hb6.cell (p := ⟨w.heap.size + 1, 2, none⟩) (World.block_lt_of_cell? _ _ iq5)).trans iq5
    clear hb6 iq5 Hs2 O1 O2 Hb3 Hb4 Hb24 Hb25 Hb45
    go_wp2_with fail
    refine Hap.out.mono ?_
    rintro e w7 ⟨rfl, hb7⟩
    have Hb27 := Lib.hid ((Bel.al Hb26.out _).trans hb7)
    have iq7 := (Hb27.out.cell (p := ⟨w.heap.size + 1, 2, none⟩) iqs).trans iq2h.out
    clear hb7 iq6 Hap Hb26
    go_wp2_with fail
    refine (Htg.out w7 Hb27.out).mono ?_
    rintro e w8 ⟨v3, rfl, o3, hb8⟩
    obtain ⟨a3, n3, rfl⟩ := own_shape' o3
    have Hb28 := Lib.hid (Bel.tr Hb27.out hb8)
    have Hs3 := Lib.hid (sameW_true _ _ L w8 (Reads.own o3 Nat.one_pos) (HW.out.below Hb28.out))
    clear o3 hb8 iq7
    go_wp2_with fail
    refine Hs3.out.mono ?_
    rintro e w9 ⟨rfl, hb9⟩
    have Hb := Lib.hid (Bel.tr Hb2.out (Bel.tr Hb28.out hb9))
    clear hb9 Hs3
    go_wp2
    go_ret
    exact ⟨rfl, Hb.out⟩
end Go.Proofs.Ytofkamnmgpkehab
