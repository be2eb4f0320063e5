import Derived.Test.YtofkamnmgpkehaaDoorOnes
import Derived.Test.YtofkamnmgpkehaaDoorNone4
/- Sets of words. -/
namespace Go.Proofs.YtofkamnmgpkehaaDoor
open Go.RowKit
structure SetAt (W : World) (B b : Nat) (vw : Value) (N : Nat) (ws : List Nat) : Prop where
  c0 : W.cell? ⟨b, 0, none⟩ = some (.int .i64 N)
  c1 : W.cell? ⟨b, 1, none⟩ = some vw
  hb : B ≤ b
  ow : W.ownsRow B 78 1 vw ws.length (encN .u64 ws)
  nb : vw.ownBlock ≠ some b
  hl : ∀ k, ws.getD k 0 < 18446744073709551616
  hN : N ≤ 1048576
  hn : ws.length = (N + 63) / 64
theorem SetAt.below {W W' : World} {B b : Nat} {vw : Value} {N : Nat} {ws : List Nat} (h : SetAt W B b vw N ws) (hb : Below W.heap.size W W') : SetAt W' B b vw N ws :=
  have hl := World.block_lt_of_cell? _ _ h.c0
  ⟨(hb.cell (p := ⟨b, 0, none⟩) hl).trans h.c0, (hb.cell (p := ⟨b, 1, none⟩) hl).trans h.c1, h.hb, own_below h.ow hb, h.nb, h.hl, h.hN, h.hn⟩
theorem run_b74 (x : Int) (a : Option Addr) (n c : Nat) (w : World) : (Instr.build 74 #[(0, .int .i64 x), (1, .slice a n c)]).run Tryd.prog w = .ok (.agg #[.int .i64 x, .slice a n c]) w := by kernel_rfl
theorem info78 : (Tryd.prog.info? 78).map (fun i => (i.zero, i.size, i.bytes)) = some (some (.int .u64 0), 1, 8) := by kernel_rfl
theorem made_words (n : Nat) : (madeCells (Value.int .u64 0).cells (n * 1)).toList = encN .u64 (List.replicate n 0) := by
  rw [Nat.mul_one]
  exact (toList_madeCells_one (.int .u64 0) n).trans (by simp [encN])
set_option maxRecDepth 100000 in
set_option maxHeartbeats 1000000 in
theorem newset_any (N : Nat) (hN : N ≤ 1048576) (w : World) : Calls Tryd.prog 7 #[.int .i64 N] w fun e w' => ∃ b vw, e = .returned (.tuple #[.pointer (some ⟨b, 0, none⟩), .int .i64 0]) ∧ SetAt w' w.heap.size b vw N (List.replicate ((N + 63) / 64) 0) ∧ Below w.heap.size w w' := by
  have hb74 := run_b74
  have h0 : (0 : Int) ≤ (N : Int) := by omega
  have h1 : decide ((1048576 : Int) < (N : Int)) = false := decide_eq_false (by omega)
  have h2 : decide ((N : Int) < 0) = false := decide_eq_false (by omega)
  obtain ⟨i1, hi1, x0, x1, x2⟩ := info_parts info78
  obtain ⟨q, hq⟩ : ∃ q, q = (N + 63) / 64 := ⟨_, rfl⟩
  have hqi : ((N : Int) + 63) / 64 = (q : Int) := by omega
  have hq20 : q ≤ 16384 := by omega
  have hwr : Below w.heap.size w w := Below.refl _ _
  have hsz : w.heap.size ≤ w.heap.size := Nat.le_refl _
  rw [← hq]
  have Hq := Lib.hid hq
  clear hq
  go_enter Tryd.func7, Tryd.ntmps7
  go_wp2_with (at_make; refine wpList_make_full _ rfl _ _ 65 rfl w.heap.size 78 i1 (.int .u64 0) 1 Tryd.underlying65 hi1 x0 x1 .i64 .i64 _ _ q rfl rfl hqi hqi (by rw [x2]; omega) (by unfold maxLen; omega) hsz ?_; intro w9 ho9 hg9)
  rw [made_words] at ho9
  have hb9 : Below w.heap.size w w9 := grownBy_below hg9
  have hs9 := hb9.size
  refine bodyPost_ret (v := .tuple #[.pointer (some ⟨w9.heap.size, 0, none⟩), .int .i64 0]) (by simp [results, Tryd.results7, go_sem]) rfl ⟨w9.heap.size, .slice (some ⟨w.heap.size, 0, none⟩) q q, rfl, ⟨?_, ?_, hs9, ?_, ?_, ?_, hN, ?_⟩, Bel.al hb9 _⟩
  · simp [go_sem]
  · simp [go_sem]
  · rw [List.length_replicate]; exact ho9.alloc _
  · intro e; have := (ho9.lt _ e).2; omega
  · intro k; rw [List.getD_eq_getElem?_getD, List.getElem?_replicate]; split <;> simp
  · rw [List.length_replicate]; exact Hq.out
set_option maxRecDepth 100000 in
set_option maxHeartbeats 1000000 in
theorem holds_yes {W : World} {B b : Nat} {vw : Value} {N : Nat} {ws : List Nat} (h : SetAt W B b vw N ws) (x : Nat) (hx : x < N) :
    Calls Tryd.prog 41 #[.pointer (some ⟨b, 0, none⟩), .int .u32 x] W fun e w' => e = .returned (.tuple #[.int .i64 (x / 64 : Nat), .int .u64 (2 ^ (x % 64) : Nat), .bool true]) ∧ w' = W := by
  have hc := h.c0
  have hN := h.hN
  have h1 : decide ((x : Int) < 0) = false := decide_eq_false (by omega)
  have h2 : decide ((N : Int) ≤ (x : Int)) = false := decide_eq_false (by omega)
  have h3 : decide (N ≤ x) = false := decide_eq_false (by omega)
  have hw : IntKind.i64.wrap (x : Int) = (x : Int) := IntWalk.i64_in _ (by omega)
  have hp := Nat.pow_lt_pow_right (show 1 < 2 by decide) (Nat.mod_lt x (show 0 < 64 by decide))
  clear h
  go_enter Tryd.func41, Tryd.ntmps41
  go_wp2
  have e1 : (x : Int) / 64 = ((x / 64 : Nat) : Int) := by omega
  have e2 : IntKind.u64.wrap (2 ^ (x % 64)) = ((2 ^ (x % 64) : Nat) : Int) := by
    rw [show (2 : Int) ^ (x % 64) = ((2 ^ (x % 64) : Nat) : Int) from by rw [Int.natCast_pow]; rfl, IntKind.wrap_u64]
    generalize 2 ^ (x % 64) = p at *
    omega
  exact bodyPost_ret (v := .tuple #[.int .i64 (x / 64 : Nat), .int .u64 (2 ^ (x % 64) : Nat), .bool true]) (by rw [← e1, ← e2]; simp [results, Tryd.results41, go_sem]) rfl ⟨rfl, rfl⟩
set_option maxRecDepth 100000 in
set_option maxHeartbeats 1000000 in
theorem holds_no {W : World} {B b : Nat} {vw : Value} {N : Nat} {ws : List Nat} (h : SetAt W B b vw N ws) (x : Nat) (hx32 : x < 4294967296) (hx : ¬ x < N) :
    Calls Tryd.prog 41 #[.pointer (some ⟨b, 0, none⟩), .int .u32 x] W fun e w' => e = .returned (.tuple #[.int .i64 0, .int .u64 0, .bool false]) ∧ w' = W := by
  have hc := h.c0
  have hN := h.hN
  have h1 : decide ((x : Int) < 0) = false := decide_eq_false (by omega)
  have h2 : decide ((N : Int) ≤ (x : Int)) = true := decide_eq_true (by omega)
  have hw : IntKind.i64.wrap (x : Int) = (x : Int) := IntWalk.i64_in _ (by omega)
  have h3 : decide (N ≤ x) = true := decide_eq_true (by omega)
  clear h
  go_enter Tryd.func41, Tryd.ntmps41
  go_wp2
  exact bodyPost_ret (v := .tuple #[.int .i64 0, .int .u64 0, .bool false]) (by simp [results, Tryd.results41, go_sem]) rfl ⟨rfl, rfl⟩
/-- The word that bears a number, as a walk meets it. -/
theorem SetAt.word {W : World} {B b : Nat} {vw : Value} {N : Nat} {ws : List Nat} (h : SetAt W B b vw N ws) (x : Nat) (hx : x < N) : x / 64 < ws.length ∧ ws.length ≤ 16384 ∧ ∃ q c, vw = .slice (some ⟨q, 0, none⟩) ws.length c ∧ q ≠ b ∧ B ≤ q ∧ W.cell? ⟨q, x / 64, none⟩ = some (.int .u64 (ws.getD (x / 64) 0 : Nat)) ∧ W.frozen? ⟨q, x / 64, none⟩ = false := by
  have hn := h.hn
  have hN := h.hN
  have hk : x / 64 < ws.length := by omega
  obtain ⟨q, c, rfl, hq, -⟩ := own_start h.ow (by omega)
  refine ⟨hk, by omega, q, c, rfl, fun e => h.nb (by rw [← e]; rfl), hq, ?_, h.ow.frozenAt _⟩
  rw [h.ow.cellAt _ (by omega)]
  exact encN_at _ _ _ hk
theorem encN_set (k : IntKind) (l : List Nat) (i v : Nat) : (encN k l).set i (.int k (v : Nat)) = encN k (l.set i v) := by
  unfold encN; rw [List.map_set]
theorem SetAt.store {W : World} {B b q c : Nat} {N : Nat} {ws : List Nat} (h : SetAt W B b (.slice (some ⟨q, 0, none⟩) ws.length c) N ws) (i v : Nat) (hv : v < 18446744073709551616) :
    SetAt (W.setCell ⟨q, i, none⟩ (.int .u64 (v : Nat))) B b (.slice (some ⟨q, 0, none⟩) ws.length c) N (ws.set i v) ∧ W.grownBy (W.setCell ⟨q, i, none⟩ (.int .u64 (v : Nat))) (some q) := by
  have hqb : b ≠ q := fun e => h.nb (by rw [e]; rfl)
  have ho := (World.ownsRow.stored h.ow i (.int .u64 (v : Nat))).1
  rw [encN_set] at ho
  refine ⟨⟨(World.cell?_of_block (Below.heap_setCell _ _ _ _ hqb)).trans h.c0, (World.cell?_of_block (Below.heap_setCell _ _ _ _ hqb)).trans h.c1, h.hb, by rw [List.length_set]; exact ho, h.nb, fun k => ?_, h.hN, by rw [List.length_set]; exact h.hn⟩, (World.ownsRow.stored h.ow i (.int .u64 (v : Nat))).2⟩
  rw [List.getD_eq_getElem?_getD, List.getElem?_set]
  split
  · split
    · exact hv
    · decide
  · have := h.hl k; rwa [List.getD_eq_getElem?_getD] at this
theorem and_pow (w j : Nat) : w &&& 2 ^ j = if w.testBit j then 2 ^ j else 0 := by
  apply Nat.eq_of_testBit_eq
  intro i
  rw [Nat.testBit_and, Nat.testBit_two_pow]
  by_cases h : j = i
  · subst h
    cases w.testBit j
    · simp
    · simp
  · rw [decide_eq_false h, Bool.and_false]
    split
    · rw [Nat.testBit_two_pow, decide_eq_false h]
    · simp
theorem bit_ne (w j : Nat) (hw : w < 18446744073709551616) (hj : j < 64) : ((bits .and .u64 (w : Int) ((2 ^ j : Nat) : Int)) != 0) = w.testBit j ∧ ((bits .and .u64 (w : Int) ((2 ^ j : Nat) : Int)) == 0) = !w.testBit j := by
  have hp := Nat.pow_lt_pow_right (show 1 < 2 by decide) hj
  rw [and_u64 _ _ hw (by omega), and_pow]
  have := Nat.two_pow_pos j
  generalize 2 ^ j = p at *
  cases w.testBit j
  · simp
  · simp only [if_true]; simp; omega
/-- The numbers that are there. -/
def isIn (N : Nat) (ws : List Nat) (x : Nat) : Bool := decide (x < N) && mem ws x
set_option maxRecDepth 100000 in
set_option maxHeartbeats 1000000 in
theorem add_any {W : World} {B b : Nat} {vw : Value} {N : Nat} {ws : List Nat} (h : SetAt W B b vw N ws) (x : Nat) (hx32 : x < 4294967296) :
    Calls Tryd.prog 20 #[.pointer (some ⟨b, 0, none⟩), .int .u32 x] W fun e w' => e = .returned (.bool (decide (x < N) && !mem ws x)) ∧ W.grownBy w' vw.ownBlock ∧
      ∃ ws', SetAt w' B b vw N ws' ∧ ∀ y, mem ws' y = (mem ws y || (decide (x < N) && decide (y = x))) := by
  by_cases hx : x < N
  · have H := Lib.hid (holds_yes h x hx)
    obtain ⟨hk, hlen, q, c, rfl, hqb, hBq, hcq, hfq⟩ := h.word x hx
    have hc1 := h.c1
    have hj := Nat.mod_lt x (show 0 < 64 by decide)
    have hwl := h.hl (x / 64)
    obtain ⟨hn, he⟩ := bit_ne (ws.getD (x / 64) 0) (x % 64) hwl hj
    have hp := Nat.pow_lt_pow_right (show 1 < 2 by decide) hj
    have hor : bits .or .u64 ((ws.getD (x / 64) 0 : Nat) : Int) ((2 ^ (x % 64) : Nat) : Int) = ((ws.getD (x / 64) 0 ||| 2 ^ (x % 64) : Nat) : Int) := bits_or_u64_nat _ _ hwl (by omega)
    have hst := h.store (x / 64) (ws.getD (x / 64) 0 ||| 2 ^ (x % 64)) (by have := Nat.or_lt_two_pow (n := 64) (by simpa using hwl) (by simpa using hp); simpa using this)
    have hme := fun y => mem_add ws x y hk
    have hm : mem ws x = (ws.getD (x / 64) 0).testBit (x % 64) := rfl
    have Hh := Lib.hid h
    rw [← hm] at hn he
    have hk0 : (0 : Int) ≤ ((x / 64 : Nat) : Int) := by omega
    have hki : ((x / 64 : Nat) : Int) < (ws.length : Int) := by omega
    have Hst := Lib.hid (And.intro hst hme)
    clear h hst hme hm he
    generalize x / 64 = i at *
    generalize 2 ^ (x % 64) = p at *
    generalize ws.getD i 0 = wv at *
    rw [decide_eq_true hx, Bool.true_and]
    cases hmx : mem ws x
    · rw [hmx] at hn
      have Hmx := Lib.hid hmx
      clear hmx
      go_enter Tryd.func20, Tryd.ntmps20
      go_wp2_with (go_at_call 41; refine H.out.mono ?_; rintro e w1 ⟨rfl, hw1⟩; subst hw1)
      refine bodyPost_ret (v := .bool true) (by simp [results, Tryd.results20, go_sem]) rfl ⟨rfl, Hst.out.1.2, _, Hst.out.1.1, fun y => ?_⟩
      rw [Hst.out.2 y, Bool.true_and]
    · rw [hmx] at hn
      have Hmx := Lib.hid hmx
      clear hmx
      go_enter Tryd.func20, Tryd.ntmps20
      go_wp2_with (go_at_call 41; refine H.out.mono ?_; rintro e w1 ⟨rfl, hw1⟩; subst hw1)
      refine bodyPost_ret (v := .bool false) (by simp [results, Tryd.results20, go_sem]) rfl ⟨rfl, grownBy_refl _ _, ws, Hh.out, fun y => ?_⟩
      by_cases e : y = x
      · rw [e, Hmx.out]; rfl
      · rw [decide_eq_false e]; simp
  · have H := Lib.hid (holds_no h x hx32 hx)
    have Hh := Lib.hid h
    rw [decide_eq_false hx]
    clear h
    go_enter Tryd.func20, Tryd.ntmps20
    go_wp2_with (go_at_call 41; refine H.out.mono ?_; rintro e w1 ⟨rfl, hw1⟩; subst hw1)
    exact bodyPost_ret (v := .bool false) (by simp [results, Tryd.results20, go_sem]) rfl ⟨rfl, grownBy_refl _ _, ws, Hh.out, fun y => by simp⟩
end Go.Proofs.YtofkamnmgpkehaaDoor
