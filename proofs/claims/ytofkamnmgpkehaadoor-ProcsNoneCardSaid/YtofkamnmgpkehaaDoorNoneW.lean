import Derived.Test.YtofkamnmgpkehaaDoorNone4
/- The walk of ProcsNone. -/
namespace Go.Proofs.YtofkamnmgpkehaaDoor
open Go.RowKit
attribute [local go_sem] Oper.semAt_some
theorem range_none {α : Type} {P : Program} {n : Nat} {g : Operand} {ps : Array Tmp} {assign body : Code} {Q : Exit → Act → World → Prop} {a : Act} {w : World}
    {gf : Nat} {lb : Array Value} (hg : a.eval g = .func (.func gf) #[] lb) (eg : ∀ args w, (callFunc gf args).run P w = .ok (.enter gf args) w)
    {encs : α → Array Value} (hps : ∀ x, (encs x).size = ps.size) (Kn : World → Prop) (hseq : SeqTo P (n - 1) gf lb encs [] Kn (fun A C => C = A))
    (hKn : ∀ A, Below w.heap.size w A → Kn A)
    (hdone : ∀ (D : Nat) (W4 : World), Below w.heap.size w W4 → w.heap.size ≤ D → W4.heap[D]? = some (.deferred (some [])) → Q .normal { a with defers := { target := .collected D, args := #[] } :: a.defers } W4) :
    (Code.rangeFunc g ps assign body).wpIn Fence.wide n P Q a w :=
  range_to hg eg hps [] Kn _ hseq (fun A C h => by rw [h]; exact KeepsOthers.refl _) (fun _ A => Below w.heap.size w A) (fun _ _ => False) (fun d A C h k => Calm.below h k) (fun _ _ _ h _ => h) (fun d A h => hKn A h) (Below.refl _ _)
    (fun l' pre x rest W hx => by cases pre <;> cases hx) (fun D W2 W3 W4 hi hf hc hD hd => hdone D W4 (Calm.below hi (by subst hf; exact hc)) hD hd) (fun _ _ _ h _ _ => h.elim)
/-- What the walk keeps. -/
structure NB (w W : World) : Prop where
  b : Below w.heap.size w W
  r : W.cell? ⟨w.heap.size, 0, none⟩ = some (.bool false)
  rf : W.frozen? ⟨w.heap.size, 0, none⟩ = false
  l0 : W.cell? ⟨w.heap.size + 2, 0, none⟩ = some (.pointer none)
  l1 : W.cell? ⟨w.heap.size + 2, 1, none⟩ = some (.pointer (some ⟨w.heap.size + 1, 0, none⟩))
  pe : PE W (.pointer (some ⟨w.heap.size + 1, 0, none⟩))
theorem NB.below {w W W' : World} (h : NB w W) (hb : Below W.heap.size W W') : NB w W' :=
  have hl := World.block_lt_of_cell? _ _ h.r
  have hl2 := World.block_lt_of_cell? _ _ h.l0
  ⟨Bel.tr h.b hb, (hb.cell (p := ⟨w.heap.size, 0, none⟩) hl).trans h.r, (hb.frozen (p := ⟨w.heap.size, 0, none⟩) hl).trans h.rf, (hb.cell (p := ⟨w.heap.size + 2, 0, none⟩) hl2).trans h.l0, (hb.cell (p := ⟨w.heap.size + 2, 1, none⟩) hl2).trans h.l1, h.pe.below hb⟩
structure NS (w : World) (S : Nat) (f : Value) (W : World) : Prop where
  b : Below w.heap.size w W
  r : W.cell? ⟨w.heap.size, 0, none⟩ = some (.bool false)
  rf : W.frozen? ⟨w.heap.size, 0, none⟩ = false
  l0 : W.cell? ⟨S + 1, 0, none⟩ = some (.pointer none)
  l1 : W.cell? ⟨S + 1, 1, none⟩ = some (.pointer (some ⟨S, 0, none⟩))
  se : SE W (.pointer (some ⟨S, 0, none⟩))
  sf : SF W f
theorem NS.below {w W W' : World} {S : Nat} {f : Value} (h : NS w S f W) (hb : Below W.heap.size W W') : NS w S f W' :=
  have hl := World.block_lt_of_cell? _ _ h.r
  have hl2 := World.block_lt_of_cell? _ _ h.l0
  ⟨Bel.tr h.b hb, (hb.cell (p := ⟨w.heap.size, 0, none⟩) hl).trans h.r, (hb.frozen (p := ⟨w.heap.size, 0, none⟩) hl).trans h.rf, (hb.cell (p := ⟨S + 1, 0, none⟩) hl2).trans h.l0, (hb.cell (p := ⟨S + 1, 1, none⟩) hl2).trans h.l1, h.se.below hb, h.sf.below hb⟩
theorem neq56 (w : World) : (binOp .neq 56 (.agg #[.int .u32 0, .int .u32 0, .int .u32 0, .int .i64 0]) (.agg #[.int .u32 0, .int .u32 0, .int .u32 0, .int .i64 0])).run Tryd.prog w = .ok (.bool false) w := by kernel_rfl
theorem run_bs54 (a b : Option Addr) (w : World) : (Instr.buildSlice 54 2 #[(0, .pointer a), (1, .pointer b)]).run Tryd.prog w = .ok (.slice (some ⟨w.heap.size, 0, none⟩) 2 2) (w.alloc (.cells #[.pointer a, .pointer b] 53)) := by kernel_rfl
theorem run_bs68 (a b : Option Addr) (w : World) : (Instr.buildSlice 68 2 #[(0, .pointer a), (1, .pointer b)]).run Tryd.prog w = .ok (.slice (some ⟨w.heap.size, 0, none⟩) 2 2) (w.alloc (.cells #[.pointer a, .pointer b] 39)) := by kernel_rfl
theorem zero52 (w : World) : (zeroValue 52).run Tryd.prog w = .ok (.agg #[.slice none 0 0, .slice none 0 0, .slice none 0 0]) w := by kernel_rfl
theorem zero67 (w : World) : (zeroValue 67).run Tryd.prog w = .ok (.agg #[.int .i64 0, .slice none 0 0]) w := by kernel_rfl
theorem eqf63 (a : Addr) (w : World) : (binOp .eql 63 (.func (.func 44) #[] #[.pointer (some a)]) .nilFunc).run Tryd.prog w = .ok (.bool false) w := by kernel_rfl
theorem eqf71 (a : Addr) (w : World) : (binOp .eql 71 (.func (.func 47) #[] #[.pointer (some a)]) .nilFunc).run Tryd.prog w = .ok (.bool false) w := by kernel_rfl
set_option maxRecDepth 100000 in
set_option maxHeartbeats 4000000 in
theorem procsNone_full (i : Int) (x y : Nat) (z : Int) (hx : x < 4294967296) (w : World) :
    Calls Tryd.prog 6 #[.int .i64 i, .int .u32 x, .int .u32 y, .int .i64 z] w fun e w' => e = .returned (.bool true) ∧ Below w.heap.size w w' := by
  have hn56 := neq56
  have hb56 := run_build39
  have hz56 := zero39
  have h54 := run_bs54
  have h68 := run_bs68
  have hz52 := zero52
  have hz67 := zero67
  refine (callsIn_wide (n := 9)).1 ?_
  have h1 : (1 : Nat) ≤ 9 := by omega
  refine callsIn_of_wp_marks Tryd.func6 rfl trivial ?_ rfl
  simp only [Tryd.ntmps6, List.size_toArray, List.length_cons, List.length_nil, Nat.reduceAdd, Nat.reduceSub, Array.replicate_succ, Array.replicate_zero, List.push_toArray, List.append_toArray, List.nil_append, List.cons_append]
  have he63 := eqf63
  have he71 := eqf71
  have he63 := eqf63
  have he71 := eqf71
  have he63 := eqf63
  have he71 := eqf71
  have he63 := eqf63
  have he71 := eqf71
  gi_wp2
  obtain ⟨wa, hwa⟩ : ∃ wa, wa = ((w.alloc (.cells #[.bool false] 4)).alloc (.cells #[.slice none 0 0, .slice none 0 0, .slice none 0 0] 52)).alloc (.cells #[.pointer none, .pointer (some ⟨w.heap.size + 1, 0, none⟩)] 53) := ⟨_, rfl⟩
  have hN : NB w wa := by
    have hb : Below w.heap.size w wa := by rw [hwa]; exact Bel.al (Bel.al (Bel.new _ _) _) _
    refine ⟨hb, ?_, ?_, ?_, ?_, .inr ⟨w.heap.size + 1, rfl, ⟨?_, ?_, ?_, Nat.zero_le _, World.ownsRow_nil _ _ _ _, World.ownsRow_nil _ _ _ _, World.ownsRow_nil _ _ _ _, rfl, fun j u l hu => by simp at hu⟩⟩⟩ <;> (rw [hwa]; simp [go_sem])
  rw [← hwa]
  clear hwa
  have HN := Lib.hid hN
  have hl0 := hN.l0
  clear hN
  have Pa := Lib.hid (fun W (hb : Below wa.heap.size wa W) => (show PE W (.pointer none) from PE.below (Or.inl rfl) hb))
  have Na := Lib.hid (fun W (hb : Below wa.heap.size wa W) => (show NB w W from NB.below HN.out hb))
  refine wpIn_loop_rounds 3 ?_
  rw [roundsIn_succ]
  gi_wp2_with fail
  refine ⟨trivial, (callsIn_wide.2 (proc0 (Pa.out _ (Below.refl _ _)) i)).mono ?_⟩
  rintro e w1a ⟨rfl, hb⟩
  have hB1a := Lib.hid (Bel.al hb (.cells #[.int .u32 0, .int .u32 0, .int .u32 0, .int .i64 0] 56))
  clear hb
  gi_wp2_with fail
  refine ⟨trivial, (callsIn_wide.2 (count0 (Pa.out _ hB1a.out) ⟨_, rfl⟩)).mono ?_⟩
  rintro e w2a ⟨rfl, hb⟩
  have hB2a := Lib.hid (Bel.tr hB1a.out hb)
  have q0a : w2a.cell? ⟨w1a.heap.size, 0, none⟩ = some (.int .u32 0) := (hb.cell (p := ⟨w1a.heap.size, 0, none⟩) (by simp)).trans (by simp [go_sem])
  have q1a : w2a.cell? ⟨w1a.heap.size, 1, none⟩ = some (.int .u32 0) := (hb.cell (p := ⟨w1a.heap.size, 1, none⟩) (by simp)).trans (by simp [go_sem])
  have q2a : w2a.cell? ⟨w1a.heap.size, 2, none⟩ = some (.int .u32 0) := (hb.cell (p := ⟨w1a.heap.size, 2, none⟩) (by simp)).trans (by simp [go_sem])
  have q3a : w2a.cell? ⟨w1a.heap.size, 3, none⟩ = some (.int .i64 0) := (hb.cell (p := ⟨w1a.heap.size, 3, none⟩) (by simp)).trans (by simp [go_sem])
  clear hb
  gi_wp2_with fail
  refine ⟨trivial, (callsIn_wide.2 (of0 (Pa.out _ hB2a.out) x hx)).mono ?_⟩
  rintro e w3a ⟨rfl, rfl⟩
  clear q0a q1a q2a q3a
  gi_wp2_with fail
  refine ⟨trivial, (callsIn_wide.2 (begins0 (Pa.out _ hB2a.out) x hx)).mono ?_⟩
  rintro e w4a ⟨rfl, hb⟩
  have hB4a := Lib.hid (Bel.tr hB2a.out hb)
  clear hb
  gi_wp2_with fail
  refine ⟨trivial, (callsIn_wide.2 (legal0 (Pa.out _ hB4a.out) x y hx)).mono ?_⟩
  rintro e w5a ⟨rfl, rfl⟩
  gi_wp2_with fail
  refine ⟨trivial, (callsIn_wide.2 (targets0 (Pa.out _ hB4a.out) i)).mono ?_⟩
  rintro e w6a ⟨rfl, hb⟩
  have hB6a := Lib.hid (Bel.tr hB4a.out hb)
  clear hb
  gi_wp2_with fail
  refine ⟨trivial, (callsIn_wide.2 (all_any _ _)).mono ?_⟩
  rintro e w7a ⟨rfl, rfl⟩
  have hB7a := Lib.hid (Bel.al hB6a.out (.cells #[.pointer none] 53))
  have hx7a : (w6a.alloc (.cells #[.pointer none] 53)).cell? ⟨w6a.heap.size, 0, none⟩ = some (.pointer none) := by simp [go_sem]
  gi_wp2_with fail
  refine range_none (gf := 44) (lb := #[.pointer (some ⟨w6a.heap.size, 0, none⟩)]) rfl (enters_of Tryd.func44 (by kernel_rfl) rfl) (encs := encP2) (fun _ => rfl) _ (seq0 8 (by omega) _ (.pointer none)) ?_ ?_
  · intro A hA; exact ⟨(hA.cell (p := ⟨w6a.heap.size, 0, none⟩) (by simp)).trans hx7a, Pa.out _ (Bel.tr hB7a.out hA)⟩
  rintro Da w8a hb8a hDa hda
  have HDa := Lib.hid (And.intro hDa hda)
  have hB8a := Lib.hid (Bel.tr hB7a.out hb8a)
  clear hx7a hb8a hDa hda
  clear hl0
  have hl1 := (Na.out _ hB8a.out).l1
  gi_wp2_with fail
  have Pb := Lib.hid (fun W (hb : Below w8a.heap.size w8a W) => (show PE W (.pointer (some ⟨w.heap.size + 1, 0, none⟩)) from PE.below (Na.out _ hB8a.out).pe hb))
  have Nb := Lib.hid (fun W (hb : Below w8a.heap.size w8a W) => (show NB w W from NB.below (Na.out _ hB8a.out) hb))
  skip
  rw [roundsIn_succ]
  gi_wp2_with fail
  refine ⟨trivial, (callsIn_wide.2 (proc0 (Pb.out _ (Below.refl _ _)) i)).mono ?_⟩
  rintro e w1b ⟨rfl, hb⟩
  have hB1b := Lib.hid (Bel.al hb (.cells #[.int .u32 0, .int .u32 0, .int .u32 0, .int .i64 0] 56))
  clear hb
  gi_wp2_with fail
  refine ⟨trivial, (callsIn_wide.2 (count0 (Pb.out _ hB1b.out) ⟨_, rfl⟩)).mono ?_⟩
  rintro e w2b ⟨rfl, hb⟩
  have hB2b := Lib.hid (Bel.tr hB1b.out hb)
  have q0b : w2b.cell? ⟨w1b.heap.size, 0, none⟩ = some (.int .u32 0) := (hb.cell (p := ⟨w1b.heap.size, 0, none⟩) (by simp)).trans (by simp [go_sem])
  have q1b : w2b.cell? ⟨w1b.heap.size, 1, none⟩ = some (.int .u32 0) := (hb.cell (p := ⟨w1b.heap.size, 1, none⟩) (by simp)).trans (by simp [go_sem])
  have q2b : w2b.cell? ⟨w1b.heap.size, 2, none⟩ = some (.int .u32 0) := (hb.cell (p := ⟨w1b.heap.size, 2, none⟩) (by simp)).trans (by simp [go_sem])
  have q3b : w2b.cell? ⟨w1b.heap.size, 3, none⟩ = some (.int .i64 0) := (hb.cell (p := ⟨w1b.heap.size, 3, none⟩) (by simp)).trans (by simp [go_sem])
  clear hb
  gi_wp2_with fail
  refine ⟨trivial, (callsIn_wide.2 (of0 (Pb.out _ hB2b.out) x hx)).mono ?_⟩
  rintro e w3b ⟨rfl, rfl⟩
  clear q0b q1b q2b q3b
  gi_wp2_with fail
  refine ⟨trivial, (callsIn_wide.2 (begins0 (Pb.out _ hB2b.out) x hx)).mono ?_⟩
  rintro e w4b ⟨rfl, hb⟩
  have hB4b := Lib.hid (Bel.tr hB2b.out hb)
  clear hb
  gi_wp2_with fail
  refine ⟨trivial, (callsIn_wide.2 (legal0 (Pb.out _ hB4b.out) x y hx)).mono ?_⟩
  rintro e w5b ⟨rfl, rfl⟩
  gi_wp2_with fail
  refine ⟨trivial, (callsIn_wide.2 (targets0 (Pb.out _ hB4b.out) i)).mono ?_⟩
  rintro e w6b ⟨rfl, hb⟩
  have hB6b := Lib.hid (Bel.tr hB4b.out hb)
  clear hb
  gi_wp2_with fail
  refine ⟨trivial, (callsIn_wide.2 (all_any _ _)).mono ?_⟩
  rintro e w7b ⟨rfl, rfl⟩
  have hB7b := Lib.hid (Bel.al hB6b.out (.cells #[.pointer (some ⟨w.heap.size + 1, 0, none⟩)] 53))
  have hx7b : (w6b.alloc (.cells #[.pointer (some ⟨w.heap.size + 1, 0, none⟩)] 53)).cell? ⟨w6b.heap.size, 0, none⟩ = some (.pointer (some ⟨w.heap.size + 1, 0, none⟩)) := by simp [go_sem]
  gi_wp2_with fail
  refine range_none (gf := 44) (lb := #[.pointer (some ⟨w6b.heap.size, 0, none⟩)]) rfl (enters_of Tryd.func44 (by kernel_rfl) rfl) (encs := encP2) (fun _ => rfl) _ (seq0 8 (by omega) _ (.pointer (some ⟨w.heap.size + 1, 0, none⟩))) ?_ ?_
  · intro A hA; exact ⟨(hA.cell (p := ⟨w6b.heap.size, 0, none⟩) (by simp)).trans hx7b, Pb.out _ (Bel.tr hB7b.out hA)⟩
  rintro Db w8b hb8b hDb hdb
  have HDb := Lib.hid (And.intro hDb hdb)
  have hB8b := Lib.hid (Bel.tr hB7b.out hb8b)
  clear hx7b hb8b hDb hdb
  clear hl1
  gi_wp2_with fail
  rw [roundsIn_succ]
  gi_wp2_with fail
  have hN := Nb.out _ hB8b.out
  obtain ⟨wc, hwc⟩ : ∃ wc, wc = (w8b.alloc (.cells #[.int .i64 0, .slice none 0 0] 67)).alloc (.cells #[.pointer none, .pointer (some ⟨w8b.heap.size, 0, none⟩)] 39) := ⟨_, rfl⟩
  have hbc : Below w8b.heap.size w8b wc := by rw [hwc]; exact Bel.al (Bel.new _ _) _
  have hse : SE wc (.pointer (some ⟨w8b.heap.size, 0, none⟩)) := .inr ⟨_, rfl, by rw [hwc]; simp [go_sem], by rw [hwc]; simp [go_sem]⟩
  have hl0 : wc.cell? ⟨w8b.heap.size + 1, 0, none⟩ = some (.pointer none) := by rw [hwc]; simp [go_sem]
  have hl1 : wc.cell? ⟨w8b.heap.size + 1, 1, none⟩ = some (.pointer (some ⟨w8b.heap.size, 0, none⟩)) := by rw [hwc]; simp [go_sem]
  have hNc := hN.below hbc
  have Hc := Lib.hid (And.intro hbc (And.intro hse (And.intro hl0 (And.intro hl1 hNc))))
  rw [← hwc]
  clear hwc hbc hse hl0 hl1 hNc hN
  refine ⟨trivial, (callsIn_wide.2 (newset4 wc)).mono ?_⟩
  rintro e w9 ⟨f, rfl, hsb, hb9⟩
  obtain ⟨fb, fq, rfl, hsbr⟩ := id hsb
  have HA3 := Lib.hid (add3 hsb hb9)
  clear hsb hb9 hsbr
  gi_wp2_with fail
  refine ⟨trivial, (callsIn_wide.2 HA3.out).mono ?_⟩
  rintro e w10 ⟨rfl, hsf, hb10⟩
  have hS : NS w w8b.heap.size (.pointer (some ⟨fb, 0, none⟩)) w10 := by
    obtain ⟨hbc, hse, hl0, hl1, hNc⟩ := Hc.out
    have hlc := World.block_lt_of_cell? _ _ hl0
    have hn := hNc.below hb10
    exact ⟨hn.b, hn.r, hn.rf, (hb10.cell (p := ⟨w8b.heap.size + 1, 0, none⟩) hlc).trans hl0, (hb10.cell (p := ⟨w8b.heap.size + 1, 1, none⟩) hlc).trans hl1, hse.below hb10, hsf⟩
  have HS := Lib.hid hS
  have HB10 := Lib.hid (Bel.tr Hc.out.1 hb10)
  clear hsf hb10 HA3 Hc hS
  gi_wp2_with fail
  have hls := HS.out.l0
  have Nc := Lib.hid (fun W (hb : Below w10.heap.size w10 W) => NS.below HS.out hb)
  have Sc := Lib.hid (fun W (hb : Below w10.heap.size w10 W) => (show SE W (.pointer none) from SE.below (Or.inl rfl) hb))
  refine wpIn_loop_rounds 3 ?_
  rw [roundsIn_succ]
  gi_wp2_with fail
  refine ⟨trivial, (callsIn_wide.2 (add0 (Sc.out _ (Below.refl _ _)) z)).mono ?_⟩
  rintro e v1c ⟨rfl, hv⟩; subst hv
  gi_wp2_with fail
  refine ⟨trivial, (callsIn_wide.2 (drop0 (Sc.out _ (Below.refl _ _)) z)).mono ?_⟩
  rintro e v2c ⟨rfl, hv⟩; subst hv
  gi_wp2_with fail
  refine ⟨trivial, (callsIn_wide.2 (has0 (Sc.out _ (Below.refl _ _)) z)).mono ?_⟩
  rintro e v3c ⟨rfl, hv⟩; subst hv
  gi_wp2_with fail
  refine ⟨trivial, (callsIn_wide.2 (len0 (Sc.out _ (Below.refl _ _)))).mono ?_⟩
  rintro e v4c ⟨rfl, hv⟩; subst hv
  gi_wp2_with fail
  refine ⟨trivial, (callsIn_wide.2 (same_no (m := 0) (n := 1) (by decide) (fun W hb => len0 (Sc.out W hb)) (fun W hb => len1 (Nc.out W hb).sf))).mono ?_⟩
  rintro e v5c ⟨rfl, hb⟩
  have hV5c := Lib.hid hb
  clear hb
  gi_wp2_with fail
  refine ⟨trivial, (callsIn_wide.2 (same_no (m := 1) (n := 0) (by decide) (fun W hb => len1 (Nc.out W (Bel.tr hV5c.out hb)).sf) (fun W hb => len0 (Sc.out W (Bel.tr hV5c.out hb))))).mono ?_⟩
  rintro e v6c ⟨rfl, hb⟩
  have hV6c := Lib.hid (Bel.tr hV5c.out hb)
  clear hb
  have hlsc := (Nc.out _ hV6c.out).l0
  gi_wp2_with fail
  clear hlsc
  refine ⟨trivial, (callsIn_wide.2 (same_yes (Sc.out _ hV6c.out) (Or.inl rfl))).mono ?_⟩
  rintro e v7c ⟨rfl, hb⟩
  have hV7c := Lib.hid (Bel.tr hV6c.out hb)
  clear hb
  gi_wp2_with fail
  refine ⟨trivial, (callsIn_wide.2 (alls0 (Sc.out _ hV7c.out))).mono ?_⟩
  rintro e v8c ⟨rfl, hcl, hb⟩
  have hV8c := Lib.hid (Bel.tr hV7c.out hb)
  have HCLc := Lib.hid hcl
  clear hb hcl
  gi_wp2_with fail
  refine range_none (gf := 47) (lb := #[.pointer (some ⟨v7c.heap.size, 0, none⟩)]) rfl (enters_of Tryd.func47 (by kernel_rfl) rfl) (encs := fun (x : Int) => #[.int .i64 x]) (fun _ => rfl) _ (seqs0 8 (by omega) _) ?_ ?_
  · intro A hA; exact (hA.cell (p := ⟨v7c.heap.size, 0, none⟩) (World.block_lt_of_cell? _ _ HCLc.out)).trans HCLc.out
  rintro Dc v9c hb9c hDc hdc
  have HDc := Lib.hid (And.intro hDc hdc)
  have hV9c := Lib.hid (Bel.tr hV8c.out hb9c)
  clear hb9c hDc hdc
  clear hls
  have hls := (Nc.out _ hV9c.out).l1
  gi_wp2_with fail
  have Nd := Lib.hid (fun W (hb : Below v9c.heap.size v9c W) => NS.below (Nc.out _ hV9c.out) hb)
  have Sd := Lib.hid (fun W (hb : Below v9c.heap.size v9c W) => (show SE W (.pointer (some ⟨w8b.heap.size, 0, none⟩)) from SE.below (Nc.out _ hV9c.out).se hb))
  skip
  rw [roundsIn_succ]
  gi_wp2_with fail
  refine ⟨trivial, (callsIn_wide.2 (add0 (Sd.out _ (Below.refl _ _)) z)).mono ?_⟩
  rintro e v1d ⟨rfl, hv⟩; subst hv
  gi_wp2_with fail
  refine ⟨trivial, (callsIn_wide.2 (drop0 (Sd.out _ (Below.refl _ _)) z)).mono ?_⟩
  rintro e v2d ⟨rfl, hv⟩; subst hv
  gi_wp2_with fail
  refine ⟨trivial, (callsIn_wide.2 (has0 (Sd.out _ (Below.refl _ _)) z)).mono ?_⟩
  rintro e v3d ⟨rfl, hv⟩; subst hv
  gi_wp2_with fail
  refine ⟨trivial, (callsIn_wide.2 (len0 (Sd.out _ (Below.refl _ _)))).mono ?_⟩
  rintro e v4d ⟨rfl, hv⟩; subst hv
  gi_wp2_with fail
  refine ⟨trivial, (callsIn_wide.2 (same_no (m := 0) (n := 1) (by decide) (fun W hb => len0 (Sd.out W hb)) (fun W hb => len1 (Nd.out W hb).sf))).mono ?_⟩
  rintro e v5d ⟨rfl, hb⟩
  have hV5d := Lib.hid hb
  clear hb
  gi_wp2_with fail
  refine ⟨trivial, (callsIn_wide.2 (same_no (m := 1) (n := 0) (by decide) (fun W hb => len1 (Nd.out W (Bel.tr hV5d.out hb)).sf) (fun W hb => len0 (Sd.out W (Bel.tr hV5d.out hb))))).mono ?_⟩
  rintro e v6d ⟨rfl, hb⟩
  have hV6d := Lib.hid (Bel.tr hV5d.out hb)
  clear hb
  have hlsd := (Nd.out _ hV6d.out).l0
  gi_wp2_with fail
  clear hlsd
  refine ⟨trivial, (callsIn_wide.2 (same_yes (Sd.out _ hV6d.out) (Or.inl rfl))).mono ?_⟩
  rintro e v7d ⟨rfl, hb⟩
  have hV7d := Lib.hid (Bel.tr hV6d.out hb)
  clear hb
  gi_wp2_with fail
  refine ⟨trivial, (callsIn_wide.2 (alls0 (Sd.out _ hV7d.out))).mono ?_⟩
  rintro e v8d ⟨rfl, hcl, hb⟩
  have hV8d := Lib.hid (Bel.tr hV7d.out hb)
  have HCLd := Lib.hid hcl
  clear hb hcl
  gi_wp2_with fail
  refine range_none (gf := 47) (lb := #[.pointer (some ⟨v7d.heap.size, 0, none⟩)]) rfl (enters_of Tryd.func47 (by kernel_rfl) rfl) (encs := fun (x : Int) => #[.int .i64 x]) (fun _ => rfl) _ (seqs0 8 (by omega) _) ?_ ?_
  · intro A hA; exact (hA.cell (p := ⟨v7d.heap.size, 0, none⟩) (World.block_lt_of_cell? _ _ HCLd.out)).trans HCLd.out
  rintro Dd v9d hb9d hDd hdd
  have HDd := Lib.hid (And.intro hDd hdd)
  have hV9d := Lib.hid (Bel.tr hV8d.out hb9d)
  clear hb9d hDd hdd
  clear hls
  gi_wp2_with fail
  rw [roundsIn_succ]
  have hNd := Nd.out _ hV9d.out
  have hr := hNd.r
  have hrf := hNd.rf
  have HNd := Lib.hid hNd
  clear hNd
  gi_wp2_with fail
  obtain ⟨ga, da⟩ := HDa.out
  obtain ⟨gb, db⟩ := HDb.out
  obtain ⟨gc, dc⟩ := HDc.out
  obtain ⟨gd, dd⟩ := HDd.out
  have la := (Array.getElem?_eq_some_iff.1 da).1
  have lb := (Array.getElem?_eq_some_iff.1 db).1
  have lc := (Array.getElem?_eq_some_iff.1 dc).1
  have ld := (Array.getElem?_eq_some_iff.1 dd).1
  have za := hB7a.out.size
  have zb := hB7b.out.size
  have zb8 := hB8b.out.size
  have z10 := HB10.out.size
  have zc := hV8c.out.size
  have zc9 := hV9c.out.size
  have zd := hV8d.out.size
  have zd9 := hV9d.out.size
  have zN := HN.out.b.size
  have zr : w.heap.size < wa.heap.size := World.block_lt_of_cell? _ _ HN.out.r
  have da4 := ((hV9d.out.block _ (by omega)).trans ((hV9c.out.block _ (by omega)).trans ((HB10.out.block _ (by omega)).trans (hB8b.out.block _ la)))).trans da
  have db4 := ((hV9d.out.block _ (by omega)).trans ((hV9c.out.block _ (by omega)).trans (HB10.out.block _ lb))).trans db
  have dc4 := (hV9d.out.block _ lc).trans dc
  have sa := (Below.heap_setCell v9d ⟨w.heap.size, 0, none⟩ (.bool true) Da (by show Da ≠ w.heap.size; omega)).trans da4
  have sb := (Below.heap_setCell v9d ⟨w.heap.size, 0, none⟩ (.bool true) Db (by show Db ≠ w.heap.size; omega)).trans db4
  have sc := (Below.heap_setCell v9d ⟨w.heap.size, 0, none⟩ (.bool true) Dc (by show Dc ≠ w.heap.size; omega)).trans dc4
  have sd := (Below.heap_setCell v9d ⟨w.heap.size, 0, none⟩ (.bool true) Dd (by show Dd ≠ w.heap.size; omega)).trans dd
  have hr1 : (v9d.setCell ⟨w.heap.size, 0, none⟩ (.bool true)).cell? ⟨w.heap.size, 0, none⟩ = some (.bool true) := World.cell?_setCell_same' _ _ _ (by rw [hr]; rfl)
  have hbf := HNd.out.b.setCell (p := ⟨w.heap.size, 0, none⟩) (Nat.le_refl _) (.bool true)
  generalize v9d.setCell ⟨w.heap.size, 0, none⟩ (.bool true) = F1 at *
  have k1 := Calm.putObj (B := w.heap.size) F1 (.deferred none) sd rfl (by omega)
  have sc2 := (World.putObj_heap_other (w := F1) (o := .deferred none) (show Dc ≠ Dd by omega)).trans sc
  have k2 := Calm.putObj (B := w.heap.size) _ (.deferred none) sc2 rfl (by omega)
  have sb3 := (World.putObj_heap_other (w := F1.putObj Dd (.deferred none)) (o := .deferred none) (show Db ≠ Dc by omega)).trans ((World.putObj_heap_other (w := F1) (o := .deferred none) (show Db ≠ Dd by omega)).trans sb)
  have k3 := Calm.putObj (B := w.heap.size) _ (.deferred none) sb3 rfl (by omega)
  have sa4 := (World.putObj_heap_other (w := (F1.putObj Dd (.deferred none)).putObj Dc (.deferred none)) (o := .deferred none) (show Da ≠ Db by omega)).trans ((World.putObj_heap_other (w := F1.putObj Dd (.deferred none)) (o := .deferred none) (show Da ≠ Dc by omega)).trans ((World.putObj_heap_other (w := F1) (o := .deferred none) (show Da ≠ Dd by omega)).trans sa))
  have k4 := Calm.putObj (B := w.heap.size) _ (.deferred none) sa4 rfl (by omega)
  have hr5 := k4.cell (k3.cell (k2.cell (k1.cell hr1)))
  refine ⟨by simp, .inl ⟨_, _, rfl, run_takeDeferred sd, ?_⟩⟩
  refine ⟨by simp, .inl ⟨_, _, rfl, run_takeDeferred sc2, ?_⟩⟩
  refine ⟨by simp, .inl ⟨_, _, rfl, run_takeDeferred sb3, ?_⟩⟩
  refine ⟨by simp, .inl ⟨_, _, rfl, run_takeDeferred sa4, ?_⟩⟩
  exact ⟨.bool true, by simp [results, Tryd.results6, go_sem, hr5], rfl, Calm.below hbf (((k1.trans k2).trans k3).trans k4)⟩
theorem procsNone_walk (i a b z : Int) (w : World) (_ : (Lit.int .i64 i).wf = true) (ha : (Lit.int .u32 a).wf = true) (hb : (Lit.int .u32 b).wf = true) (_ : (Lit.int .i64 z).wf = true) :
    Calls Tryd.prog 6 #[.int .i64 i, .int .u32 a, .int .u32 b, .int .i64 z] w fun e w' => e = .returned (.bool true) ∧ Below w.heap.size w w' := by
  obtain ⟨x, rfl, hx⟩ := u32_of ha
  obtain ⟨y, rfl, hy⟩ := u32_of hb
  exact procsNone_full i x y z hx w
end Go.Proofs.YtofkamnmgpkehaaDoor
