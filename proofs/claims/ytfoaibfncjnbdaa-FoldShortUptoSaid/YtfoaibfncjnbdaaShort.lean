import Derived.Test.YtfoaibfncjnbdaaAwake
import Derived.Laws.AppendOwnNone
import Derived.Deep.Cut
/- FoldShort: the plain law, the walk. -/
namespace Go.Proofs.Ytfoaibfncjnbdaa
open Go.RowKit
section
variable {P : Program}
/-- append of a whole slice that may be read (nil, or empty, too). -/
theorem wpList_append_reads {ops : Array Oper} {rest : List Oper} {o : Oper} {a : Act} {w : World} {Q : Exit → Act → World → Prop} (hgd : o.guard = none) (s x : Operand) (t : TypeId)
    (ho : o.op = .call { callee := .builtin .append, args := #[s, x], argTypes := #[t, t] })
    (e : TypeId) (i : TypeInfo) (z : Value) (size bytes : Nat) (ht : P.underlying t = some (.slice e)) (hi : P.info? e = some i) (hz : i.zero = some z)
    (hsize : i.size = size) (hby : i.bytes = bytes) (hzs : z.cells.size = size) (hsz : 0 < size)
    (v : Value) (n : Nat) (xs : List Value) (hs : a.eval s = v) (hown : w.ownsRow 0 e size v n xs)
    (u : Value) (m : Nat) (cs : List Value) (hx : a.eval x = u) (hu : Reads w size u m cs) (h1 : ∀ c ∈ cs, c.oneCell' = true)
    (h63 : n + m ≤ maxLen) (hbytes : (n + m) * bytes ≤ 140737488355328)
    (h : ∀ v' w', w'.ownsRow 0 e size v' (n + m) (xs ++ cs) → Grew w w' v v' → wpList P ops Q rest (a.put o.dst v') w') : wpList P ops Q (o :: rest) a w := by
  obtain ⟨a0, cap, rfl, hl, hmc, hcm, hnil, hp⟩ := hu
  cases a0 with
  | none =>
    obtain rfl := hnil rfl
    obtain rfl : m = 0 := by omega
    obtain rfl : cs = [] := List.eq_nil_of_length_eq_zero (by simpa using hl)
    refine wpList_append_own_none hgd s x t ho 0 e i size ht hi v n xs hs hown hx ?_
    have := h v w (by simpa using hown) (Grew.refl _ _)
    exact this
  | some ad =>
    refine wpList_append_grew hgd s x t ho e i z size bytes ht hi hz hsize hby hzs hsz v n xs hs hown ad m cap cs hx hl ?_ h1 h63 hbytes (fun v' w' h2 h3 _ => h v' w' h2 h3)
    intro j c hj
    have hlt : j < cs.length := (List.getElem?_eq_some_iff.1 hj).1
    obtain ⟨b, off, e, _, hc⟩ := hp (Nat.pos_of_ne_zero (fun e => by subst e; simp at hl; subst hl; simp at hlt))
    cases e
    rw [Addr.add_mid, hc j hlt]; exact hj
end
theorem encI_one (l : List (Nat × Nat)) : ∀ u ∈ encI l, u.oneCell' = true := by
  induction l with
  | nil => intro u h; cases h
  | cons i l ih =>
    intro u h
    simp only [encI, List.mem_cons] at h
    rcases h with rfl | rfl | h
    · rfl
    · rfl
    · exact ih u h
theorem Instrs.own {w : World} {v : Value} {l : List (Nat × Nat)} (h : w.ownsRow 0 34 2 v l.length (encI l)) (hl : ∀ i ∈ l, i.1 < 256 ∧ i.2 < 4294967296) : Instrs w v l := ⟨Reads.own h (by decide), hl⟩
theorem info34 : (Try.prog.info? 34).map (fun i => (i.zero, i.size, i.bytes)) = some (some (.agg #[.int .u8 0, .int .u32 0]), 2, 8) := by kernel_rfl
theorem short_law (A C B : List (Nat × Nat)) (h : 0 < C.length) :
    longRes (A ++ C ++ B) A.length (A.length + C.length) = if (longRes C 0 C.length).2 = 0 then ((A.length, (longRes C 0 C.length).1.2), 0) else ((0, 0, 0, 0), (longRes C 0 C.length).2) := by
  have e1 : (A ++ C ++ B).getD A.length (0, 0) = C.getD 0 (0, 0) := by
    rw [List.append_assoc, List.getD_eq_getElem?_getD, List.getElem?_append_right (Nat.le_refl _), Nat.sub_self, List.getElem?_append_left h, ← List.getD_eq_getElem?_getD]
  have e2 : ((A ++ C ++ B).drop A.length).take (A.length + C.length - A.length) = C := by
    rw [List.append_assoc, List.drop_left, Nat.add_sub_cancel_left, List.take_left]
  have e3 : (C.drop 0).take (C.length - 0) = C := by simp
  have hA : longRes (A ++ C ++ B) A.length (A.length + C.length) = if checkN (C.getD 0 (0, 0)).1 (C.getD 0 (0, 0)).2 ≠ 0 then ((0, 0, 0, 0), checkN (C.getD 0 (0, 0)).1 (C.getD 0 (0, 0)).2) else ((A.length, goL C 0 ⟨fun _ => 0, 0⟩ (1, 1, 0)), 0) := by
    unfold longRes
    rw [e1, e2, if_neg (by simp only [List.length_append]; omega)]
  have hC : longRes C 0 C.length = if checkN (C.getD 0 (0, 0)).1 (C.getD 0 (0, 0)).2 ≠ 0 then ((0, 0, 0, 0), checkN (C.getD 0 (0, 0)).1 (C.getD 0 (0, 0)).2) else ((0, goL C 0 ⟨fun _ => 0, 0⟩ (1, 1, 0)), 0) := by
    unfold longRes
    rw [e3, if_neg (by omega)]
  rw [hA, hC]
  by_cases hc : checkN (C.getD 0 (0, 0)).1 (C.getD 0 (0, 0)).2 = 0
  · simp only [hc, ne_eq, not_true_eq_false, if_false, if_true]
  · simp only [hc, ne_eq, not_false_eq_true, if_false, if_true]
theorem short_at (C : List (Nat × Nat)) : (longRes C 0 C.length).1.1 = 0 ∧ ((longRes C 0 C.length).2 ≠ 0 → (longRes C 0 C.length).1 = (0, 0, 0, 0)) := by
  unfold longRes
  repeat' split
  all_goals simp
set_option maxRecDepth 100000 in
set_option maxHeartbeats 4000000 in
theorem foldShort_walk (x y z : Value) (A C B : List (Nat × Nat)) (w : World) (hA : Instrs w x A) (hC : Instrs w y C) (hB : Instrs w z B) (lA : A.length ≤ 1048576) (lC : C.length ≤ 1048576) (lB : B.length ≤ 1048576) :
    Calls Try.prog 4 #[x, y, z] w fun e w' => e = .returned (.bool true) ∧ Below w.heap.size w w' := by
  obtain ⟨i0, hi, hz0, hz1, hz2⟩ := info_parts info34
  have HA := Lib.hid hA
  have HC := Lib.hid hC
  have HB := Lib.hid hB
  obtain ⟨aA, cA, rfl, -, -, -⟩ := hA.1
  obtain ⟨aC, cC, rfl, -, -, -⟩ := hC.1
  obtain ⟨aB, cB, rfl, -, -, -⟩ := hB.1
  clear hA hC hB
  have hw1 : IntKind.u32.wrap (A.length : Int) = (A.length : Int) := by rw [IntKind.wrap_u32]; omega
  have hw2 : IntKind.u32.wrap (C.length : Int) = (C.length : Int) := by rw [IntKind.wrap_u32]; omega
  have hw3 : IntKind.u32.wrap ((A.length : Int) + (C.length : Int)) = (A.length : Int) + (C.length : Int) := by rw [IntKind.wrap_u32]; omega
  go_enter Try.func4, Try.ntmps4
  go_wp2_with fail
  refine (awake_any w).mono ?_
  rintro e w1 ⟨rfl, hb1⟩
  by_cases h0 : C.length = 0
  · have d0 : ((C.length : Int) == 0) = true := beq_iff_eq.2 (by omega)
    have Hb1 := Lib.hid hb1
    clear hb1
    go_wp2_with fail
    go_ret
    exact ⟨rfl, Hb1.out⟩
  · have d0 : ((C.length : Int) == 0) = false := beq_eq_false_iff_ne.2 (by omega)
    have HA1 := Lib.hid (HA.out.below hb1).1
    have HC0 := Lib.hid (HC.out.below hb1)
    have HC1 := Lib.hid HC0.out.1
    have HB1 := Lib.hid (HB.out.below hb1).1
    have Hb1 := Lib.hid hb1
    have Hl := Lib.hid (show ∀ i ∈ A ++ C ++ B, i.1 < 256 ∧ i.2 < 4294967296 from fun i hi => by
      rcases List.mem_append.1 hi with h | h
      · rcases List.mem_append.1 h with h | h
        · exact HA.out.2 i h
        · exact HC.out.2 i h
      · exact HB.out.2 i h)
    clear hb1 HA HC HB
    go_wp2_with (first
      | ((with_reducible refine wpList_append_reads (o := ⟨some 23, .call { callee := .builtin .append, args := #[.tmp 21, .tmp 22], argTypes := #[22, 22] }, _, _, _, none⟩) rfl _ _ 22 rfl 34 i0 (.agg #[.int .u8 0, .int .u32 0]) 2 8 Try.underlying22 hi hz0 hz1 hz2 ?_ ?_ (.slice none 0 0) 0 [] ?_ (World.ownsRow_nil _ _ _ _) _ A.length (encI A) ?_ HA1.out (encI_one A) ?_ ?_ ?_); rfl; decide; rfl; rfl; (unfold maxLen; omega); omega; intro v3 w3 o3 g3; rw [Nat.zero_add, List.nil_append] at o3; have HC3 := Lib.hid (HC1.out.below g3.bel))
      | ((with_reducible refine wpList_append_reads (o := ⟨some 26, .call { callee := .builtin .append, args := #[.tmp 24, .tmp 25], argTypes := #[22, 22] }, _, _, _, none⟩) rfl _ _ 22 rfl 34 i0 (.agg #[.int .u8 0, .int .u32 0]) 2 8 Try.underlying22 hi hz0 hz1 hz2 ?_ ?_ _ _ _ ?_ o3 _ C.length (encI C) ?_ HC3.out (encI_one C) ?_ ?_ ?_); rfl; decide; rfl; rfl; (unfold maxLen; omega); omega; intro v4 w4 o4 g4; have HB4 := Lib.hid (HB1.out.below (g3.trans g4).bel))
      | ((with_reducible refine wpList_append_reads (o := ⟨some 29, .call { callee := .builtin .append, args := #[.tmp 27, .tmp 28], argTypes := #[22, 22] }, _, _, _, none⟩) rfl _ _ 22 rfl 34 i0 (.agg #[.int .u8 0, .int .u32 0]) 2 8 Try.underlying22 hi hz0 hz1 hz2 ?_ ?_ _ _ _ ?_ o4 _ B.length (encI B) ?_ HB4.out (encI_one B) ?_ ?_ ?_); rfl; decide; rfl; rfl; (unfold maxLen; omega); omega; intro v5 w5 o5 g5))
    have hb5 := ((g3.trans g4).trans g5).bel
    have HC5 := Lib.hid (HC0.out.below hb5)
    have o6 : w5.ownsRow 0 34 2 v5 (A ++ C ++ B).length (encI (A ++ C ++ B)) := by rw [encI_append, encI_append, List.length_append, List.length_append]; exact o5
    have HW5 := Lib.hid (Instrs.own o6 Hl.out)
    have HB5 := Lib.hid (Bel.tr Hb1.out hb5)
    have hp : 0 < C.length := by omega
    have hS := short_law A C B hp
    obtain ⟨hS1, hS2⟩ := short_at C
    have hL1 := longest_any (.slice aC C.length cC) C 0 C.length (by decide) (by omega) w5 HC5.out
    have hL2 := fun W hW => longest_any v5 (A ++ C ++ B) A.length (A.length + C.length) (by omega) (by omega) W hW
    rw [hS] at hL2
    clear hS o5 o6 g3 g4 g5 hb5 o3 o4 HC1 HC0 HA1 HB1 Hb1 HC3 HB4
    generalize longRes C 0 C.length = r at *
    obtain ⟨⟨z, L, K, V⟩, er⟩ := r
    simp only at hS1 hS2 hL1 hL2
    subst hS1
    have HL1 := Lib.hid hL1
    have HL2 := Lib.hid hL2
    clear hL1 hL2
    refine HL1.out.mono ?_
    rintro x w6 ⟨rfl, hb6⟩
    have HW6 := Lib.hid ((HW5.out.below hb6).below (Bel.new w6 (.cells #[.int .u32 (0 : Nat), .int .u32 L, .int .u8 K, .int .u32 V] 27)))
    have HB6 := Lib.hid (Bel.al (Bel.tr HB5.out hb6) (.cells #[.int .u32 (0 : Nat), .int .u32 L, .int .u8 K, .int .u32 V] 27))
    clear hb6 HL1
    go_wp2_with fail
    refine (HL2.out _ HW6.out).mono ?_
    rintro x w7 ⟨rfl, hb7⟩
    have hg := hb7.block w6.heap.size (by simp)
    rw [heap_alloc_new] at hg
    have hs7 := Bel.lt hb7
    have HB7 := Lib.hid (Bel.tr HB6.out hb7)
    clear hb7 HL2 HW6 HB6
    by_cases he : er = 0
    · subst he
      simp only [if_true]
      have hg2 := (Below.heap_alloc w7 (.cells #[.int .u32 A.length, .int .u32 L, .int .u8 K, .int .u32 V] 27) w6.heap.size hs7).trans hg
      obtain ⟨z0, z1, z2, z3⟩ := cells27 hg2
      go_wp2_with fail
      go_ret
      exact ⟨by simp, Bel.al HB7.out _⟩
    · have hr := hS2 he
      simp only [Prod.mk.injEq, true_and] at hr
      obtain ⟨rfl, rfl, rfl⟩ := hr
      rw [if_neg he]
      have hg2 : (w7.alloc (.cells #[.int .u32 0, .int .u32 0, .int .u8 0, .int .u32 0] 27)).heap[w6.heap.size]? = some (.cells #[.int .u32 0, .int .u32 0, .int .u8 0, .int .u32 0] 27 (0, 0)) := (Below.heap_alloc w7 _ w6.heap.size hs7).trans hg
      obtain ⟨z0, z1, z2, z3⟩ := cells27 hg2
      have hen : ((er : Int) != 0) = true := bne_iff_ne.2 (by omega)
      go_wp2_with fail
      go_ret
      exact ⟨by simp, Bel.al HB7.out _⟩
end Go.Proofs.Ytfoaibfncjnbdaa
