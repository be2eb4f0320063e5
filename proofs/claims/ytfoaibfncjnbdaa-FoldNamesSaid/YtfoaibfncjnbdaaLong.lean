import Derived.Test.YtfoaibfncjnbdaaTake
import Derived.Test.YtfoaibfncjnbdaaOwn
import Derived.ScopeJumps
import Derived.WalkMore
/- Longest. -/
namespace Go.Proofs.Ytfoaibfncjnbdaa
open Go.RowKit
theorem wp_scope_ahead {P : Program} {a : Act} {w : World} {Q : Exit → Act → World → Prop} {c rest : Code} (l : Nat) (hf : findLabel c l = some rest)
    (first : c.wp P (Exit.jump l (fun a w => rest.wp P (Exit.jump l (fun _ _ => False) Q) a w) Q) a w) : (Code.scope c).wp P Q a w := by
  refine wp_scope_jumps l (fun a w => rest.wp P (Exit.jump l (fun _ _ => False) Q) a w) (fun _ _ => 0) hf first fun a w hJ => ?_
  refine wp_mono hJ fun e a' w' h => ?_
  cases e <;> simp only [Exit.jump] at h ⊢ <;> first | exact h | exact absurd h.2 id
def goL : List (Nat × Nat) → Nat → LS → Nat × Nat × Nat → Nat × Nat × Nat
  | [], _, _, best => best
  | i :: r, k, s, best =>
    if (s.take i.1 i.2).1 = 1 then best else
    if (s.take i.1 i.2).1 ≠ 0 then (if 0 < k ∧ (s.take i.1 i.2).2.n = 0 then (if (s.take i.1 i.2).1 = 2 then (k + 1, 3, i.2) else (k + 1, 4, 0)) else best)
    else goL r (k + 1) (s.take i.1 i.2).2 (if 0 < k ∧ (s.take i.1 i.2).2.n = 0 then (k + 1, 4, 0) else if 0 < k ∧ (s.take i.1 i.2).2.n = 1 then (k + 1, 2, (s.take i.1 i.2).2.cs 0) else best)
def longRes (l : List (Nat × Nat)) (a e : Nat) : (Nat × Nat × Nat × Nat) × Nat :=
  if e ≤ a ∨ l.length < e then ((0, 0, 0, 0), 2) else if checkN (l.getD a (0, 0)).1 (l.getD a (0, 0)).2 ≠ 0 then ((0, 0, 0, 0), checkN (l.getD a (0, 0)).1 (l.getD a (0, 0)).2)
  else ((a, goL ((l.drop a).take (e - a)) 0 ⟨fun _ => 0, 0⟩ (1, 1, 0)), 0)
theorem info27 : (Try.prog.info? 27).map (·.size) = some 4 := by kernel_rfl
theorem size27 (A L K V : Int) : (Try.prog.info? 27).map (·.size) = some (#[Value.int .u32 A, .int .u32 L, .int .u8 K, .int .u32 V] : Array Value).size := info27
theorem one27 (A L K V : Int) : (#[Value.int .u32 A, .int .u32 L, .int .u8 K, .int .u32 V] : Array Value).all (·.oneCell') = true := by simp [Value.oneCell']
theorem zero51 : Try.zeroCells51 = (Array.replicate 64 (.int .u32 0)).push (.int .i64 0) := by kernel_rfl
theorem LAt.new (w : World) : LAt (w.alloc (.cells Try.zeroCells51 51)) w.heap.size (fun _ => 0) 0 := by
  rw [zero51]
  have h : ∀ j, (w.alloc (.cells ((Array.replicate 64 (.int .u32 0)).push (.int .i64 0)) 51)).cell? ⟨w.heap.size, j, none⟩ = ((Array.replicate 64 (Value.int .u32 0)).push (.int .i64 0))[j]? := fun j => by simp [go_sem]
  refine ⟨fun i hi => ?_, ?_, fun i => by simp [go_sem], by omega, fun i => by decide⟩
  · rw [h, Array.getElem?_push_lt (by simpa using hi)]; simp
  · rw [h]; rfl
theorem LAt.row {w : World} {b n g : Nat} {cs : Nat → Nat} (h : LAt w b cs n) (hg : b ≠ g) (C : Array Value) : LAt (w.setRow g C) b cs n :=
  have e := setRow_other w g b C hg
  ⟨fun i hi => (World.cell?_of_block (a := ⟨b, i, none⟩) e).trans (h.hc i hi), (World.cell?_of_block (a := ⟨b, 64, none⟩) e).trans h.hn, fun i => (World.frozen?_of_block (a := ⟨b, i, none⟩) e).trans (h.hz i), h.le, h.lt⟩
theorem cells27 {w : World} {g : Nat} {A L K V : Value} (h : w.heap[g]? = some (.cells #[A, L, K, V] 27 (0, 0))) : w.cell? ⟨g, 0, none⟩ = some A ∧ w.cell? ⟨g, 1, none⟩ = some L ∧ w.cell? ⟨g, 2, none⟩ = some K ∧ w.cell? ⟨g, 3, none⟩ = some V := by
  refine ⟨?_, ?_, ?_, ?_⟩ <;> simp [World.cell?, h]
theorem goL_cons (i : Nat × Nat) (r : List (Nat × Nat)) (k : Nat) (s : LS) (best : Nat × Nat × Nat) : goL (i :: r) k s best = if (s.take i.1 i.2).1 = 1 then best else
    if (s.take i.1 i.2).1 ≠ 0 then (if 0 < k ∧ (s.take i.1 i.2).2.n = 0 then (if (s.take i.1 i.2).1 = 2 then (k + 1, 3, i.2) else (k + 1, 4, 0)) else best)
    else goL r (k + 1) (s.take i.1 i.2).2 (if 0 < k ∧ (s.take i.1 i.2).2.n = 0 then (k + 1, 4, 0) else if 0 < k ∧ (s.take i.1 i.2).2.n = 1 then (k + 1, 2, (s.take i.1 i.2).2.cs 0) else best) := rfl
theorem goL_drop (st : List (Nat × Nat)) (k : Nat) (s : LS) (best : Nat × Nat × Nat) (hk : k < st.length) : goL (st.drop k) k s best = goL (st.getD k (0, 0) :: st.drop (k + 1)) k s best := by
  rw [List.getD_eq_getElem?_getD, List.getElem?_eq_getElem hk, Option.getD_some, ← List.drop_eq_getElem_cons hk]
set_option maxRecDepth 100000 in
set_option maxHeartbeats 4000000 in
theorem longest_any (v : Value) (l : List (Nat × Nat)) (a e : Nat) (ha : a < 4294967296) (he : e < 4294967296) (w : World) (hv : Instrs w v l) :
    Calls Try.prog 7 #[v, .int .u32 a, .int .u32 e] w fun x w' => x = .returned (.tuple #[.agg #[.int .u32 (longRes l a e).1.1, .int .u32 (longRes l a e).1.2.1, .int .u8 (longRes l a e).1.2.2.1, .int .u32 (longRes l a e).1.2.2.2], .int .i64 (longRes l a e).2]) ∧ Below w.heap.size w w' := by
  obtain ⟨al, cap, rfl, hlc, hcm, hnil, hp⟩ := hv.opened
  have hL : l.length ≤ 9223372036854775807 := by unfold maxLen at hcm; omega
  have hw1 : IntKind.u64.wrap (e : Int) = (e : Int) := by rw [IntKind.wrap_u64]; omega
  have hw2 : IntKind.u64.wrap (l.length : Int) = (l.length : Int) := by rw [IntKind.wrap_u64]; omega
  have Hp := Lib.hid hp
  have Hlt := Lib.hid hv.2
  clear hp hnil hv hcm
  obtain ⟨r, hr⟩ : ∃ r, r = longRes l a e := ⟨_, rfl⟩
  rw [← hr]
  have Hr := Lib.hid hr
  clear hr
  by_cases h1 : e ≤ a
  · have d1 : decide ((e : Int) ≤ (a : Int)) = true := decide_eq_true (by omega)
    have hE : r = ((0, 0, 0, 0), 2) := by rw [Hr.out]; unfold longRes; rw [if_pos (.inl h1)]
    subst hE
    go_enter Try.func7, Try.ntmps7
    go_wp2
    refine wp_scope_ahead 0 rfl ?_
    go_wp2
    simp only [Exit.jump]
    exact bodyPost_ret (v := .tuple #[.agg #[.int .u32 0, .int .u32 0, .int .u8 0, .int .u32 0], .int .i64 2]) (by simp [results, Try.results7, go_sem]) rfl ⟨rfl, Bel.new _ _⟩
  have d1 : decide ((e : Int) ≤ (a : Int)) = false := decide_eq_false (by omega)
  by_cases h2 : l.length < e
  · have d2 : decide ((l.length : Int) < (e : Int)) = true := decide_eq_true (by omega)
    have hE : r = ((0, 0, 0, 0), 2) := by rw [Hr.out]; unfold longRes; rw [if_pos (.inr h2)]
    subst hE
    go_enter Try.func7, Try.ntmps7
    go_wp2
    refine wp_scope_ahead 0 rfl ?_
    go_wp2
    simp only [Exit.jump]
    exact bodyPost_ret (v := .tuple #[.agg #[.int .u32 0, .int .u32 0, .int .u8 0, .int .u32 0], .int .i64 2]) (by simp [results, Try.results7, go_sem]) rfl ⟨rfl, Bel.new _ _⟩
  have d2 : decide ((l.length : Int) < (e : Int)) = false := decide_eq_false (by omega)
  obtain ⟨b, off, rfl, hbl, hc⟩ := Hp.out (by omega)
  have Hbl := Lib.hid hbl
  have Hc := Lib.hid hc
  have hal : a < l.length := by omega
  have hac := hc a hal
  have hai := Hlt.out (l.getD a (0, 0)) (by rw [List.getD_eq_getElem?_getD, List.getElem?_eq_getElem hal]; exact List.getElem_mem hal)
  have hk0 : (0 : Int) ≤ (a : Int) := by omega
  have hki : (a : Int) < (l.length : Int) := by omega
  obtain ⟨x, hx⟩ : ∃ x, x = l.getD a (0, 0) := ⟨_, rfl⟩
  have Hx := Lib.hid hx
  rw [← hx] at hac hai
  obtain ⟨o, y⟩ := x
  simp only at hac hai
  obtain ⟨q0, q1⟩ := hac
  have HC := Lib.hid (fun W => check_any o y hai.1 W)
  have q0 : (w.alloc (.cells #[.int .u32 0, .int .u32 0, .int .u8 0, .int .u32 0] 27)).cell? ⟨b, off + a * 2, none⟩ = some (.int .u8 o) := (World.cell?_of_block (a := ⟨b, off + a * 2, none⟩) (Below.heap_alloc w _ b hbl)).trans q0
  have q1 : (w.alloc (.cells #[.int .u32 0, .int .u32 0, .int .u8 0, .int .u32 0] 27)).cell? ⟨b, off + a * 2 + 1, none⟩ = some (.int .u32 y) := (World.cell?_of_block (a := ⟨b, off + a * 2 + 1, none⟩) (Below.heap_alloc w _ b hbl)).trans q1
  clear hc hai hx hbl
  by_cases h3 : checkN o y = 0
  · have hce : ((checkN o y : Int) != 0) = false := by simp; exact h3
    have hE : r = ((a, goL ((l.drop a).take (e - a)) 0 ⟨fun _ => 0, 0⟩ (1, 1, 0)), 0) := by rw [Hr.out]; unfold longRes; rw [if_neg (by omega), ← Hx.out, if_neg (by simp; exact h3)]
    have HE := Lib.hid hE
    clear hE Hr
    go_enter Try.func7, Try.ntmps7
    go_wp2
    refine wp_scope_ahead 0 rfl ?_
    go_wp2_with fail
    refine (HC.out _).mono ?_
    rintro x w1 ⟨rfl, hb1⟩
    have Hb1 := Lib.hid (Bel.of hb1)
    have hg1 := hb1.block w.heap.size (by simp)
    rw [heap_alloc_new] at hg1
    have hs1 := Bel.lt hb1
    clear q0 q1 HC
    obtain ⟨st, hst⟩ : ∃ st, st = (l.drop a).take (e - a) := ⟨_, rfl⟩
    have hsl : st.length = e - a := by rw [hst, List.length_take, List.length_drop]; omega
    have hsg : ∀ k, k < e - a → st.getD k (0, 0) = l.getD (a + k) (0, 0) := fun k hk => by
      rw [hst, List.getD_eq_getElem?_getD, List.getElem?_take, if_pos hk, List.getElem?_drop, ← List.getD_eq_getElem?_getD]
    rw [← hst] at HE
    have Hsg := Lib.hid hsg
    have Hsl := Lib.hid hsl
    clear hst hsg hsl
    have HL0 := Lib.hid (show LAt ((w1.alloc (.cells #[.int .u32 a, .int .u32 1, .int .u8 1, .int .u32 0] 27)).alloc (.cells Try.zeroCells51 51)) (w1.heap.size + 1) (fun _ => 0) 0 from by
      have := LAt.new (w1.alloc (.cells #[.int .u32 a, .int .u32 1, .int .u8 1, .int .u32 0] 27))
      rwa [World.size_alloc] at this)
    have HB0 := Lib.hid (Bel.al (Bel.al Hb1.out (.cells #[.int .u32 a, .int .u32 1, .int .u8 1, .int .u32 0] 27)) (.cells Try.zeroCells51 51))
    have Hbb := Lib.hid (show ((w1.alloc (.cells #[.int .u32 a, .int .u32 1, .int .u8 1, .int .u32 0] 27)).alloc (.cells Try.zeroCells51 51)).heap[w1.heap.size]? = some (.cells #[.int .u32 a, .int .u32 1, .int .u8 1, .int .u32 0] 27 (0, 0)) from (Below.heap_alloc _ _ _ (by simp)).trans (heap_alloc_new _ _))
    have Hrb := Lib.hid (show ((w1.alloc (.cells #[.int .u32 a, .int .u32 1, .int .u8 1, .int .u32 0] 27)).alloc (.cells Try.zeroCells51 51)).heap[w.heap.size]? = some (.cells #[.int .u32 0, .int .u32 0, .int .u8 0, .int .u32 0] 27 (0, 0)) from (Below.heap_alloc _ _ _ (by simp; omega)).trans ((Below.heap_alloc _ _ _ hs1).trans hg1))
    clear hg1 hb1
    go_wp2
    generalize (w1.alloc (.cells #[.int .u32 a, .int .u32 1, .int .u8 1, .int .u32 0] 27)).alloc (.cells Try.zeroCells51 51) = W0 at *
    have Hs1 := Lib.hid hs1
    clear hs1 Hb1
    generalize w1.heap.size = bb at *
    go_loopw [11, 12] (fun i _ wr => ∃ (k : Nat) (s : LS) (B : Nat × Nat × Nat), k ≤ e - a ∧ i = .int .u32 (a + k : Nat) ∧ LAt wr (bb + 1) s.cs s.n ∧ wr.heap[bb]? = some (.cells #[.int .u32 a, .int .u32 B.1, .int .u8 B.2.1, .int .u32 B.2.2] 27 (0, 0)) ∧
      wr.heap[w.heap.size]? = some (.cells #[.int .u32 0, .int .u32 0, .int .u8 0, .int .u32 0] 27 (0, 0)) ∧ Below w.heap.size w wr ∧ goL (st.drop k) k s B = goL st 0 ⟨fun _ => 0, 0⟩ (1, 1, 0)) (fun i _ _ => e - (intOf i).toNat)
    case atStart => exact ⟨0, ⟨fun _ => 0, 0⟩, (1, 1, 0), by omega, rfl, HL0.out, Hbb.out, Hrb.out, HB0.out, rfl⟩
    case round =>
      clear HL0 Hbb Hrb HB0
      obtain ⟨k, s, B, hk, rfl, hl, hb, hr, hB, hG⟩ := hrel
      have HLs := Lib.hid hl
      have Hb := Lib.hid hb
      have Hrr := Lib.hid hr
      have HB := Lib.hid hB
      have HG := Lib.hid hG
      by_cases hlt : k < e - a
      · have d3 : decide (((a + k : Nat) : Int) < (e : Int)) = true := decide_eq_true (by omega)
        have hal2 : a + k < l.length := by omega
        obtain ⟨q0, q1⟩ := Hc.out (a + k) hal2
        have hai := Hlt.out (l.getD (a + k) (0, 0)) (by rw [List.getD_eq_getElem?_getD, List.getElem?_eq_getElem hal2]; exact List.getElem_mem hal2)
        have q0 := (hB.cell (p := ⟨b, off + (a + k) * 2, none⟩) Hbl.out).trans q0
        have q1 := (hB.cell (p := ⟨b, off + (a + k) * 2 + 1, none⟩) Hbl.out).trans q1
        have hG2 := goL_drop st k s B (by rw [Hsl.out]; exact hlt)
        rw [Hsg.out k hlt] at hG2
        rw [hG2] at hG
        clear hG2 hl hb hr hB
        generalize l.getD (a + k) (0, 0) = x at *
        obtain ⟨o2, y2⟩ := x
        simp only at q0 q1 hai
        have hk0 : (0 : Int) ≤ ((a + k : Nat) : Int) := by omega
        have hki : ((a + k : Nat) : Int) < (l.length : Int) := by omega
        have HT := Lib.hid (take_any HLs.out o2 y2 hai.1 hai.2)
        rw [goL_cons] at hG
        simp only at hG
        rw [show (LS.mk s.cs s.n) = s from rfl] at HT
        generalize LS.take s o2 y2 = t at *
        obtain ⟨c, s2⟩ := t
        simp only at HT hG
        clear hai
        go_wp2_with fail
        refine HT.out.mono ?_
        rintro x w3 ⟨rfl, hl3, hb3⟩
        have hbw : w.heap.size < bb + 1 := Nat.lt_succ_of_lt Hs1.out
        have Hb3 := Lib.hid ((hb3.block bb (Nat.lt_succ_self _)).trans Hb.out)
        have Hr3 := Lib.hid ((hb3.block w.heap.size hbw).trans Hrr.out)
        have HB3 := Lib.hid (HB.out.trans (hb3.mono (Nat.le_of_lt hbw)))
        have HL3 := Lib.hid hl3
        have q1 := (hb3.cell (p := ⟨b, off + (a + k) * 2 + 1, none⟩) (Nat.lt_trans Hbl.out hbw)).trans q1
        have hn3 := hl3.hn
        have hw3 := hl3.hc 0 (by decide)
        clear hb3 hl3 q0 HLs Hb Hrr HB HT
        by_cases hc1 : c = 1
        · subst hc1
          rw [if_pos rfl] at hG
          have HG := Lib.hid hG
          clear hG
          obtain ⟨z0, z1, z2, z3⟩ := cells27 Hb3.out
          go_wp2_with fail
          go_step3
          refine ⟨rfl, ?_⟩
          go_wp2_with ((with_reducible refine wpList_store_row (o := ⟨none, .store 27 (.tmp 6) (.tmp 95), _, _, _, none⟩) rfl 27 _ _ rfl w.heap.size #[.int .u32 a, .int .u32 (B.1), .int .u8 (B.2.1), .int .u32 (B.2.2)] ?_ ?_ 27 _ Hr3.out (size27 _ _ _ _) ?_ (one27 _ _ _ _) ?_); rfl; rfl; rfl)
          simp only [Exit.jump]
          exact bodyPost_ret (v := .tuple #[.agg #[.int .u32 a, .int .u32 (B.1), .int .u8 (B.2.1), .int .u32 (B.2.2)], .int .i64 0]) (results_cell_tmp Try.results7 _ _ w.heap.size 27 #[.int .u32 a, .int .u32 (B.1), .int .u8 (B.2.1), .int .u32 (B.2.2)] (0, 0) _ rfl (setRow_heap _ _ _ _ _ _ (Hr3.out)) Try.underlying27 rfl (size27 _ _ _ _) _ rfl) rfl ⟨by rw [HE.out, ← HG.out]; rfl, below_setRow (HB3.out) _ (Nat.le_refl _) _⟩

        have e1 : ((c : Int) == 1) = false := by simp; omega
        rw [if_neg hc1] at hG
        by_cases hk1 : 0 < k
        · have dk : decide ((a : Int) < ((a + k : Nat) : Int)) = true := decide_eq_true (by omega)
          have hwk : IntKind.u32.wrap (k : Int) = (k : Int) := by rw [IntKind.wrap_u32]; omega
          have hwk1 : IntKind.u32.wrap ((k : Int) + 1) = (k : Int) + 1 := by rw [IntKind.wrap_u32]; omega
          have hwi : IntKind.u32.wrap ((a : Int) + (k : Int) + 1) = (a : Int) + (k : Int) + 1 := by rw [IntKind.wrap_u32]; omega
          have hsb : (a : Int) + (k : Int) - (a : Int) = (k : Int) := by omega
          by_cases hn0 : s2.n = 0
          · have en0 : ((s2.n : Int) == 0) = true := by simp; omega
            have en1 : ((s2.n : Int) == 1) = false := by simp; omega
            by_cases hc0 : c = 0
            · subst hc0
              rw [if_neg (by simp), if_pos ⟨hk1, hn0⟩] at hG
              have HG := Lib.hid hG
              clear hG
              go_wp2_with ((with_reducible refine wpList_store_row (o := ⟨none, .store 27 (.tmp 9) (.tmp 83), _, _, _, none⟩) rfl 27 _ _ rfl bb #[.int .u32 a, .int .u32 (k + 1), .int .u8 (4), .int .u32 (0)] ?_ ?_ 27 _ Hb3.out (size27 _ _ _ _) ?_ (one27 _ _ _ _) ?_); rfl; rfl; rfl)
              go_roundw
              case rel => exact ⟨k + 1, ⟨s2.cs, s2.n⟩, (k + 1, 4, 0), by omega, by go_num, HL3.out.row (by omega) _, setRow_heap _ _ _ _ _ _ Hb3.out, (setRow_other _ _ _ _ (Nat.ne_of_lt Hs1.out)).trans Hr3.out, below_setRow HB3.out bb (Nat.le_of_lt Hs1.out) _, HG.out⟩
              case measure => simp [intOf]; omega

            · rw [if_pos hc0, if_pos ⟨hk1, hn0⟩] at hG
              have e0 : ((c : Int) == 0) = false := by simp; omega
              have e0n : ((c : Int) != 0) = true := by simp; omega
              by_cases hc2 : c = 2
              · subst hc2
                rw [if_pos rfl] at hG
                have HG := Lib.hid hG
                clear hG
                go_wp2_with ((with_reducible refine wpList_store_row (o := ⟨none, .store 27 (.tmp 9) (.tmp 83), _, _, _, none⟩) rfl 27 _ _ rfl bb #[.int .u32 a, .int .u32 (k + 1), .int .u8 (4), .int .u32 (0)] ?_ ?_ 27 _ Hb3.out (size27 _ _ _ _) ?_ (one27 _ _ _ _) ?_); rfl; rfl; rfl)
                have hW := setRow_heap w3 bb _ #[.int .u32 a, .int .u32 ((k : Int) + 1), .int .u8 4, .int .u32 0] 27 (0, 0) Hb3.out
                have HrW := Lib.hid ((setRow_other w3 bb w.heap.size #[.int .u32 a, .int .u32 ((k : Int) + 1), .int .u8 4, .int .u32 0] (Nat.ne_of_lt Hs1.out)).trans Hr3.out)
                have HBW := Lib.hid (below_setRow HB3.out bb (Nat.le_of_lt Hs1.out) #[.int .u32 a, .int .u32 ((k : Int) + 1), .int .u8 4, .int .u32 0])
                have qW := (World.cell?_of_block (a := ⟨b, off + (a + k) * 2 + 1, none⟩) (setRow_other w3 bb b #[.int .u32 a, .int .u32 ((k : Int) + 1), .int .u8 4, .int .u32 0] (Nat.ne_of_lt (Nat.lt_trans Hbl.out Hs1.out)))).trans q1
                generalize w3.setRow bb #[.int .u32 a, .int .u32 ((k : Int) + 1), .int .u8 4, .int .u32 0] = W at *
                obtain ⟨z0, z1, z2, z3⟩ := cells27 hW
                have f2 : W.frozen? ⟨bb, 2, none⟩ = false := by simp [World.frozen?, hW]
                have f3 : W.frozen? ⟨bb, 3, none⟩ = false := by simp [World.frozen?, hW]
                have hnb : b ≠ bb := Nat.ne_of_lt (Nat.lt_trans Hbl.out Hs1.out)
                have hnb2 : bb ≠ b := fun h => hnb h.symm
                clear hw3 hn3
                have hk02 : (0 : Int) ≤ (a : Int) + (k : Int) := by omega
                have hki2 : (a : Int) + (k : Int) < (l.length : Int) := by omega
                have htn : ((a : Int) + (k : Int)).toNat = a + k := by omega
                go_region_held3 (fun w' => w'.cell? ⟨b, off + (a + k) * 2 + 1, none⟩ = some (.int .u32 y2)) (go_keep) (fail)
                have hW3 := ((Below.heap_setCell (W.setCell ⟨bb, 2, none⟩ (.int .u8 3)) ⟨bb, 3, none⟩ (.int .u32 y2) w.heap.size (Nat.ne_of_lt Hs1.out)).trans (Below.heap_setCell W ⟨bb, 2, none⟩ (.int .u8 3) w.heap.size (Nat.ne_of_lt Hs1.out))).trans HrW.out
                have HrX := Lib.hid (show ((W.setCell ⟨bb, 2, none⟩ (.int .u8 3)).setCell ⟨bb, 3, none⟩ (.int .u32 y2)).drew.heap[w.heap.size]? = _ from hW3)
                have HBX := Lib.hid (((HBW.out.setCell (p := ⟨bb, 2, none⟩) (Nat.le_of_lt Hs1.out) (.int .u8 3)).setCell (p := ⟨bb, 3, none⟩) (Nat.le_of_lt Hs1.out) (.int .u32 y2)).drew)
                have x0 : ((W.setCell ⟨bb, 2, none⟩ (.int .u8 3)).setCell ⟨bb, 3, none⟩ (.int .u32 y2)).drew.cell? ⟨bb, 0, none⟩ = some (.int .u32 a) := by simp [go_sem, z0]
                have x1 : ((W.setCell ⟨bb, 2, none⟩ (.int .u8 3)).setCell ⟨bb, 3, none⟩ (.int .u32 y2)).drew.cell? ⟨bb, 1, none⟩ = some (.int .u32 ((k : Int) + 1)) := by simp [go_sem, z1]
                have x2 : ((W.setCell ⟨bb, 2, none⟩ (.int .u8 3)).setCell ⟨bb, 3, none⟩ (.int .u32 y2)).drew.cell? ⟨bb, 2, none⟩ = some (.int .u8 3) := by simp [go_sem, z2]
                have x3 : ((W.setCell ⟨bb, 2, none⟩ (.int .u8 3)).setCell ⟨bb, 3, none⟩ (.int .u32 y2)).drew.cell? ⟨bb, 3, none⟩ = some (.int .u32 y2) := by simp [go_sem, z3]
                clear hW3 z0 z1 z2 z3 f2 f3 qW hW
                generalize ((W.setCell ⟨bb, 2, none⟩ (.int .u8 3)).setCell ⟨bb, 3, none⟩ (.int .u32 y2)).drew = X at *
                go_wp2_with fail
                go_step3
                refine ⟨rfl, ?_⟩
                go_wp2_with ((with_reducible refine wpList_store_row (o := ⟨none, .store 27 (.tmp 6) (.tmp 95), _, _, _, none⟩) rfl 27 _ _ rfl w.heap.size #[.int .u32 a, .int .u32 ((k : Int) + 1), .int .u8 (3), .int .u32 (y2)] ?_ ?_ 27 _ HrX.out (size27 _ _ _ _) ?_ (one27 _ _ _ _) ?_); rfl; rfl; rfl)
                simp only [Exit.jump]
                exact bodyPost_ret (v := .tuple #[.agg #[.int .u32 a, .int .u32 ((k : Int) + 1), .int .u8 (3), .int .u32 (y2)], .int .i64 0]) (results_cell_tmp Try.results7 _ _ w.heap.size 27 #[.int .u32 a, .int .u32 ((k : Int) + 1), .int .u8 (3), .int .u32 (y2)] (0, 0) _ rfl (setRow_heap _ _ _ _ _ _ (HrX.out)) Try.underlying27 rfl (size27 _ _ _ _) _ rfl) rfl ⟨by rw [HE.out, ← HG.out]; rfl, below_setRow (HBX.out) _ (Nat.le_refl _) _⟩

              · have e2 : ((c : Int) == 2) = false := by simp; omega
                rw [if_neg hc2] at hG
                have HG := Lib.hid hG
                clear hG
                go_wp2_with ((with_reducible refine wpList_store_row (o := ⟨none, .store 27 (.tmp 9) (.tmp 83), _, _, _, none⟩) rfl 27 _ _ rfl bb #[.int .u32 a, .int .u32 (k + 1), .int .u8 (4), .int .u32 (0)] ?_ ?_ 27 _ Hb3.out (size27 _ _ _ _) ?_ (one27 _ _ _ _) ?_); rfl; rfl; rfl)
                have hW := setRow_heap w3 bb _ #[.int .u32 a, .int .u32 ((k : Int) + 1), .int .u8 4, .int .u32 0] 27 (0, 0) Hb3.out
                have HrW := Lib.hid ((setRow_other w3 bb w.heap.size #[.int .u32 a, .int .u32 ((k : Int) + 1), .int .u8 4, .int .u32 0] (Nat.ne_of_lt Hs1.out)).trans Hr3.out)
                have HBW := Lib.hid (below_setRow HB3.out bb (Nat.le_of_lt Hs1.out) #[.int .u32 a, .int .u32 ((k : Int) + 1), .int .u8 4, .int .u32 0])
                generalize w3.setRow bb #[.int .u32 a, .int .u32 ((k : Int) + 1), .int .u8 4, .int .u32 0] = W at *
                obtain ⟨z0, z1, z2, z3⟩ := cells27 hW
                go_step3
                refine ⟨rfl, ?_⟩
                go_wp2_with ((with_reducible refine wpList_store_row (o := ⟨none, .store 27 (.tmp 6) (.tmp 95), _, _, _, none⟩) rfl 27 _ _ rfl w.heap.size #[.int .u32 a, .int .u32 ((k : Int) + 1), .int .u8 (4), .int .u32 (0)] ?_ ?_ 27 _ HrW.out (size27 _ _ _ _) ?_ (one27 _ _ _ _) ?_); rfl; rfl; rfl)
                simp only [Exit.jump]
                exact bodyPost_ret (v := .tuple #[.agg #[.int .u32 a, .int .u32 ((k : Int) + 1), .int .u8 (4), .int .u32 (0)], .int .i64 0]) (results_cell_tmp Try.results7 _ _ w.heap.size 27 #[.int .u32 a, .int .u32 ((k : Int) + 1), .int .u8 (4), .int .u32 (0)] (0, 0) _ rfl (setRow_heap _ _ _ _ _ _ (HrW.out)) Try.underlying27 rfl (size27 _ _ _ _) _ rfl) rfl ⟨by rw [HE.out, ← HG.out]; rfl, below_setRow (HBW.out) _ (Nat.le_refl _) _⟩

          · have en0 : ((s2.n : Int) == 0) = false := by simp; omega
            by_cases hc0 : c = 0
            · subst hc0
              rw [if_neg (by simp), if_neg (fun h => hn0 h.2)] at hG
              by_cases hn1 : s2.n = 1
              · have en1 : ((s2.n : Int) == 1) = true := by simp; omega
                have hnR : ∀ C, (w3.setRow bb C).cell? ⟨bb + 1, 64, none⟩ = some (.int .i64 s2.n) := fun C => (HL3.out.row (g := bb) (by omega) C).hn
                rw [if_pos ⟨hk1, hn1⟩] at hG
                have HG := Lib.hid hG
                clear hG
                go_wp2_with ((with_reducible refine wpList_store_row (o := ⟨none, .store 27 (.tmp 9) (.tmp 69), _, _, _, none⟩) rfl 27 _ _ rfl bb #[.int .u32 a, .int .u32 (k + 1), .int .u8 (2), .int .u32 (s2.cs 0)] ?_ ?_ 27 _ Hb3.out (size27 _ _ _ _) ?_ (one27 _ _ _ _) ?_); rfl; rfl; rfl)
                go_roundw
                case rel => exact ⟨k + 1, ⟨s2.cs, s2.n⟩, (k + 1, 2, s2.cs 0), by omega, by go_num, HL3.out.row (by omega) _, setRow_heap _ _ _ _ _ _ Hb3.out, (setRow_other _ _ _ _ (Nat.ne_of_lt Hs1.out)).trans Hr3.out, below_setRow HB3.out bb (Nat.le_of_lt Hs1.out) _, HG.out⟩
                case measure => simp [intOf]; omega

              · have en1 : ((s2.n : Int) == 1) = false := by simp; omega
                rw [if_neg (fun h => hn1 h.2)] at hG
                have HG := Lib.hid hG
                clear hG
                go_wp2_with fail
                go_roundw
                case rel => exact ⟨k + 1, ⟨s2.cs, s2.n⟩, B, by omega, by go_num, HL3.out, Hb3.out, Hr3.out, HB3.out, HG.out⟩
                case measure => simp [intOf]; omega

            · rw [if_pos hc0, if_neg (fun h => hn0 h.2)] at hG
              have e0 : ((c : Int) == 0) = false := by simp; omega
              have e0n : ((c : Int) != 0) = true := by simp; omega
              have HG := Lib.hid hG
              clear hG
              obtain ⟨z0, z1, z2, z3⟩ := cells27 Hb3.out
              go_wp2_with fail
              go_step3
              refine ⟨rfl, ?_⟩
              go_wp2_with ((with_reducible refine wpList_store_row (o := ⟨none, .store 27 (.tmp 6) (.tmp 95), _, _, _, none⟩) rfl 27 _ _ rfl w.heap.size #[.int .u32 a, .int .u32 (B.1), .int .u8 (B.2.1), .int .u32 (B.2.2)] ?_ ?_ 27 _ Hr3.out (size27 _ _ _ _) ?_ (one27 _ _ _ _) ?_); rfl; rfl; rfl)
              simp only [Exit.jump]
              exact bodyPost_ret (v := .tuple #[.agg #[.int .u32 a, .int .u32 (B.1), .int .u8 (B.2.1), .int .u32 (B.2.2)], .int .i64 0]) (results_cell_tmp Try.results7 _ _ w.heap.size 27 #[.int .u32 a, .int .u32 (B.1), .int .u8 (B.2.1), .int .u32 (B.2.2)] (0, 0) _ rfl (setRow_heap _ _ _ _ _ _ (Hr3.out)) Try.underlying27 rfl (size27 _ _ _ _) _ rfl) rfl ⟨by rw [HE.out, ← HG.out]; rfl, below_setRow (HB3.out) _ (Nat.le_refl _) _⟩

        · obtain rfl : k = 0 := by omega
          have dk : decide ((a : Int) < ((a + 0 : Nat) : Int)) = false := decide_eq_false (by omega)
          have hwi : IntKind.u32.wrap ((a : Int) + 1) = (a : Int) + 1 := by rw [IntKind.wrap_u32]; omega
          by_cases hc0 : c = 0
          · subst hc0
            rw [if_neg (by simp), if_neg (fun h => hk1 h.1), if_neg (fun h => hk1 h.1)] at hG
            have HG := Lib.hid hG
            clear hG
            go_wp2_with fail
            go_roundw
            case rel => exact ⟨1, ⟨s2.cs, s2.n⟩, B, by omega, by go_num, HL3.out, Hb3.out, Hr3.out, HB3.out, HG.out⟩
            case measure => simp [intOf]; omega

          · rw [if_pos hc0, if_neg (fun h => hk1 h.1)] at hG
            have e0 : ((c : Int) == 0) = false := by simp; omega
            have e0n : ((c : Int) != 0) = true := by simp; omega
            have HG := Lib.hid hG
            clear hG
            obtain ⟨z0, z1, z2, z3⟩ := cells27 Hb3.out
            go_wp2_with fail
            go_step3
            refine ⟨rfl, ?_⟩
            go_wp2_with ((with_reducible refine wpList_store_row (o := ⟨none, .store 27 (.tmp 6) (.tmp 95), _, _, _, none⟩) rfl 27 _ _ rfl w.heap.size #[.int .u32 a, .int .u32 (B.1), .int .u8 (B.2.1), .int .u32 (B.2.2)] ?_ ?_ 27 _ Hr3.out (size27 _ _ _ _) ?_ (one27 _ _ _ _) ?_); rfl; rfl; rfl)
            simp only [Exit.jump]
            exact bodyPost_ret (v := .tuple #[.agg #[.int .u32 a, .int .u32 (B.1), .int .u8 (B.2.1), .int .u32 (B.2.2)], .int .i64 0]) (results_cell_tmp Try.results7 _ _ w.heap.size 27 #[.int .u32 a, .int .u32 (B.1), .int .u8 (B.2.1), .int .u32 (B.2.2)] (0, 0) _ rfl (setRow_heap _ _ _ _ _ _ (Hr3.out)) Try.underlying27 rfl (size27 _ _ _ _) _ rfl) rfl ⟨by rw [HE.out, ← HG.out]; rfl, below_setRow (HB3.out) _ (Nat.le_refl _) _⟩
      · obtain rfl : k = e - a := by omega
        have d3 : decide (((a + (e - a) : Nat) : Int) < (e : Int)) = false := decide_eq_false (by omega)
        rw [List.drop_of_length_le (by rw [Hsl.out]; exact Nat.le_refl _)] at hG
        clear hr hl hB HLs
        obtain ⟨z0, z1, z2, z3⟩ := cells27 Hb.out
        clear hb
        have HG := Lib.hid (show B = goL st 0 ⟨fun _ => 0, 0⟩ (1, 1, 0) from hG)
        clear hG
        go_wp2_with fail
        go_step3
        go_wp2_with ((with_reducible refine wpList_store_row (o := ⟨none, .store 27 (.tmp 6) (.tmp 95), _, _, _, none⟩) rfl 27 _ _ rfl w.heap.size #[.int .u32 a, .int .u32 (B.1), .int .u8 (B.2.1), .int .u32 (B.2.2)] ?_ ?_ 27 _ Hrr.out (size27 _ _ _ _) ?_ (one27 _ _ _ _) ?_); rfl; rfl; rfl)
        simp only [Exit.jump]
        exact bodyPost_ret (v := .tuple #[.agg #[.int .u32 a, .int .u32 (B.1), .int .u8 (B.2.1), .int .u32 (B.2.2)], .int .i64 0]) (results_cell_tmp Try.results7 _ _ w.heap.size 27 #[.int .u32 a, .int .u32 (B.1), .int .u8 (B.2.1), .int .u32 (B.2.2)] (0, 0) _ rfl (setRow_heap _ _ _ _ _ _ (Hrr.out)) Try.underlying27 rfl (size27 _ _ _ _) _ rfl) rfl ⟨by rw [HE.out, ← HG.out]; rfl, below_setRow (HB.out) _ (Nat.le_refl _) _⟩
  · have hce : ((checkN o y : Int) != 0) = true := by simp; exact h3
    have hE : r = ((0, 0, 0, 0), checkN o y) := by rw [Hr.out]; unfold longRes; rw [if_neg (by omega), ← Hx.out, if_pos h3]
    subst hE
    clear Hr Hx
    generalize checkN o y = ce at *
    go_enter Try.func7, Try.ntmps7
    go_wp2
    refine wp_scope_ahead 0 rfl ?_
    go_wp2_with fail
    refine (HC.out _).mono ?_
    rintro x w1 ⟨rfl, hb1⟩
    have Hb1 := Lib.hid (Bel.of hb1)
    have hg1 := hb1.block w.heap.size (by simp)
    rw [heap_alloc_new] at hg1
    have Hg1 := Lib.hid hg1
    clear hb1 q0 q1 HC hg1
    go_wp2_with ((with_reducible refine wpList_store_row (o := ⟨none, .store 27 (.tmp 6) (.tmp 32), _, _, _, none⟩) rfl 27 _ _ rfl w.heap.size #[.int .u32 0, .int .u32 0, .int .u8 0, .int .u32 0] ?_ ?_ 27 _ Hg1.out (size27 _ _ _ _) ?_ (one27 _ _ _ _) ?_); rfl; rfl; rfl)
    simp only [Exit.jump]
    exact bodyPost_ret (v := .tuple #[.agg #[.int .u32 0, .int .u32 0, .int .u8 0, .int .u32 0], .int .i64 ce]) (results_cell_tmp Try.results7 _ _ w.heap.size 27 #[.int .u32 0, .int .u32 0, .int .u8 0, .int .u32 0] (0, 0) _ rfl (setRow_heap _ _ _ _ _ _ Hg1.out) Try.underlying27 rfl (size27 _ _ _ _) _ rfl) rfl ⟨rfl, below_setRow Hb1.out _ (Nat.le_refl _) _⟩
end Go.Proofs.Ytfoaibfncjnbdaa
