import Derived.Test.YtdigcbkjlppenaaFitted
import Derived.Test.YtdigcbkjlppenaaOpenS
namespace Go.Proofs.Ytdigcbkjlppenaa
open Go.RowKit
theorem own_shape {w : World} {e sz n : Nat} {v : Value} {xs : List Value} (h : w.ownsRow 0 e sz v n xs) : ∃ a cap, v = .slice a n cap := by
  rcases h.2 with ⟨rfl, rfl⟩ | ⟨g, cap, cur, rfl, _⟩
  · exact ⟨none, 0, rfl⟩
  · exact ⟨_, _, rfl⟩
theorem Instrs.own {w : World} {v : Value} {l : List (Nat × Nat)} (h : w.ownsRow 0 36 2 v l.length (encI l)) (hl : ∀ i ∈ l, i.1 < 256 ∧ i.2 < 4294967296) : Instrs w v l := ⟨Reads.own h (by decide), hl⟩
theorem Bytes.own {w : World} {v : Value} {l : List Nat} (h : w.ownsRow 0 5 1 v l.length (encN .u8 l)) (hl : ∀ i ∈ l, i < 256) : Bytes w v l := ⟨Reads.own h (by decide), hl⟩
theorem fit_lt {l : List (Nat × Nat)} (hl : ∀ i ∈ l, i.1 < 256 ∧ i.2 < 4294967296) : ∀ i ∈ fit l, i.1 < 256 ∧ i.2 < 4294967296 := by
  intro i hi
  obtain ⟨j, hj, rfl⟩ := List.mem_map.1 hi
  exact fitI_lt j (hl j (List.mem_of_mem_take hj)).2
theorem fit_len (l : List (Nat × Nat)) : (fit l).length ≤ 16384 := by
  unfold fit; rw [List.length_map, List.length_take]; omega
theorem fit_ok {l : List (Nat × Nat)} (hl : ∀ i ∈ l, i.1 < 256 ∧ i.2 < 4294967296) : ∀ i ∈ fit l, checkN i.1 i.2 = 0 := by
  intro i hi
  obtain ⟨j, hj, rfl⟩ := List.mem_map.1 hi
  exact fitI_check j (hl j (List.mem_of_mem_take hj)).2
theorem encRes_all {l : List (Nat × Nat)} (h : l.length ≤ 16384) (hc : ∀ i ∈ l, checkN i.1 i.2 = 0) : encRes l = (encode l, 0, 0) :=
  encRes_ok (by omega) (fun j hj => by
    unfold errAt
    rw [List.getD_eq_getElem?_getD, List.getElem?_eq_getElem hj]
    exact hc _ (List.getElem_mem hj))
theorem encode_append (l m : List (Nat × Nat)) : encode (l ++ m) = encode l ++ encode m := by simp [encode]
theorem encode_lt {l : List (Nat × Nat)} (hl : ∀ i ∈ l, i.1 < 256 ∧ i.2 < 4294967296) : ∀ b ∈ encode l, b < 256 := by
  intro b hb
  obtain ⟨i, hi, hb⟩ := List.mem_flatMap.1 hb
  simp only [encOne, List.mem_cons] at hb
  rcases hb with rfl | hb
  · exact (hl i hi).1
  · have := List.mem_of_mem_take hb
    simp only [le4, List.mem_cons, List.not_mem_nil, or_false] at this
    omega
/-- Encode of code that may be. -/
theorem encode_ok (v : Value) (l : List (Nat × Nat)) (w : World) (hv : Instrs w v l) (h : l.length ≤ 16384) (hc : ∀ i ∈ l, checkN i.1 i.2 = 0) :
    Calls Try.prog 37 #[v] w fun e w' => ∃ u, e = .returned (.tuple #[u, .int .i64 0, .int .i64 0]) ∧ w'.ownsRow 0 5 1 u (encode l).length (encN .u8 (encode l)) ∧ Grew w w' (.slice none 0 0) u :=
  (encode_any v l w hv).mono fun e w' ⟨u, he, ho, hg, _⟩ => by
    rw [encRes_all h hc] at he ho
    exact ⟨u, he, ho, hg⟩

set_option maxRecDepth 100000 in
set_option maxHeartbeats 2000000 in
theorem isaJoins_walk (x y : Value) (l m : List (Nat × Nat)) (w : World) (hx : Instrs w x l) (hy : Instrs w y m) :
    Calls Try.prog 12 #[x, y] w fun e w' => e = .returned (.bool true) ∧ Below w.heap.size w w' := by
  obtain ⟨i0, hi, hz0, hz1, hz2⟩ := info_parts info36
  obtain ⟨j0, hj, hy0, hy1, hy2⟩ := info_parts info5
  have hA := fit_lt hx.2
  have hB := fit_lt hy.2
  have hAn := fit_len l
  have hBn := fit_len m
  have hAc := fit_ok hx.2
  have hBc := fit_ok hy.2
  have h1 := fitted_any x l w hx
  have h2 := fun W hb => fitted_any y m W (hy.below hb)
  generalize fit l = A at *
  generalize fit m = B at *
  have HA := Lib.hid hA
  have HB := Lib.hid hB
  have HAc := Lib.hid hAc
  have HBc := Lib.hid hBc
  have H2 := Lib.hid h2
  clear hA hB hAc hBc h2 hx hy
  go_enter Try.func12, Try.ntmps12
  go_wp2_with fail
  refine h1.mono ?_
  rintro e w1 ⟨v1, rfl, o1, g1⟩
  clear h1
  go_wp2_with fail
  refine (H2.out _ g1.bel).mono ?_
  rintro e w2 ⟨v2, rfl, o2, g2⟩
  have o1 := own_below o1 g2.bel
  obtain ⟨a1, c1, rfl⟩ := own_shape o1
  obtain ⟨a2, c2, rfl⟩ := own_shape o2
  have hb2 := Bel.tr g1.bel g2.bel
  clear g1 g2 H2
  by_cases hmany : 16384 < A.length + B.length
  · have hm1 : (16384 : Int) < (A.length : Int) + (B.length : Int) := by omega
    go_wp2
    go_ret
    exact ⟨rfl, hb2⟩
  · have hm1 : (A.length : Int) + (B.length : Int) ≤ 16384 := by omega
    go_wp2_with (first | ((with_reducible refine wpList_append_reads (o := ⟨some 40, .call { callee := .builtin .append, args := #[.tmp 38, .tmp 39], argTypes := #[43, 43] }, _, _, _, none⟩) rfl _ _ 43 rfl 36 i0 (.agg #[.int .u8 0, .int .u32 0]) 2 8 Try.underlying43 hi hz0 hz1 hz2 ?_ ?_ (.slice none 0 0) 0 [] ?_ (World.ownsRow_nil _ _ _ _) _ A.length (encI A) ?_ (Reads.own o1 ?_) (encI_one A) ?_ ?_ ?_); rfl; decide; rfl; rfl; decide; (unfold maxLen; omega); omega; intro v3 w3 o3 g3) | ((with_reducible refine wpList_append_reads (o := ⟨some 43, .call { callee := .builtin .append, args := #[.tmp 41, .tmp 42], argTypes := #[43, 43] }, _, _, _, none⟩) rfl _ _ 43 rfl 36 i0 (.agg #[.int .u8 0, .int .u32 0]) 2 8 Try.underlying43 hi hz0 hz1 hz2 ?_ ?_ _ _ _ ?_ o3 _ B.length (encI B) ?_ (Reads.own (own_below o2 g3.bel) ?_) (encI_one B) ?_ ?_ ?_); rfl; decide; rfl; rfl; decide; (unfold maxLen; omega); omega; intro v4 w4 o4 g4))
    have hb4 := (g3.trans g4).bel
    have q1 := own_below o1 hb4
    have q2 := own_below o2 hb4
    have q4 : w4.ownsRow 0 36 2 v4 (A ++ B).length (encI (A ++ B)) := by
      rw [List.length_append, encI_append]
      simpa using o4
    have hAB : ∀ i ∈ A ++ B, i.1 < 256 ∧ i.2 < 4294967296 := fun i hi => by
      rcases List.mem_append.1 hi with h | h
      · exact HA.out i h
      · exact HB.out i h
    have hABc : ∀ i ∈ A ++ B, checkN i.1 i.2 = 0 := fun i hi => by
      rcases List.mem_append.1 hi with h | h
      · exact HAc.out i h
      · exact HBc.out i h
    have hlA := encode_len A
    have hlB := encode_len B
    have hlt := encode_lt hAB
    have h5 := encode_ok _ A w4 (Instrs.own q1 HA.out) hAn HAc.out
    have h6 := fun W hb => encode_ok _ B W (Instrs.own (own_below q2 hb) HB.out) hBn HBc.out
    have h7 := fun W hb => encode_ok _ (A ++ B) W (Instrs.own (own_below q4 hb) hAB) (by rw [List.length_append]; omega) hABc
    rw [encode_append] at h7 hlt
    have H6 := Lib.hid h6
    have H7 := Lib.hid h7
    have hb5 := Bel.tr hb2 hb4
    have Hlt := Lib.hid hlt
    clear h6 h7 hlt hABc hAB q1 q2 q4 o1 o2 o3 o4 g3 g4 hb2 hb4
    generalize encode A = EA at *
    generalize encode B = EB at *
    refine h5.mono ?_
    rintro e w5 ⟨v5, rfl, o5, g5⟩
    clear h5
    go_wp2_with fail
    refine (H6.out _ g5.bel).mono ?_
    rintro e w6 ⟨v6, rfl, o6, g6⟩
    go_wp2_with fail
    refine (H7.out _ (Bel.tr g5.bel g6.bel)).mono ?_
    rintro e w7 ⟨v7, rfl, o7, g7⟩
    have o5 := own_below (own_below o5 g6.bel) g7.bel
    have o6 := own_below o6 g7.bel
    have hb7 := Bel.tr (Bel.tr (Bel.tr hb5 g5.bel) g6.bel) g7.bel
    clear H6 H7 g5 g6 g7 hb5
    go_wp2_with (first | ((with_reducible refine wpList_append_reads (o := ⟨some 74, .call { callee := .builtin .append, args := #[.tmp 72, .tmp 73], argTypes := #[41, 41] }, _, _, _, none⟩) rfl _ _ 41 rfl 5 j0 (.int .u8 0) 1 1 Try.underlying41 hj hy0 hy1 hy2 ?_ ?_ (.slice none 0 0) 0 [] ?_ (World.ownsRow_nil _ _ _ _) _ EA.length (encN .u8 EA) ?_ (Reads.own o5 ?_) (encN_one _ EA) ?_ ?_ ?_); rfl; decide; rfl; rfl; decide; (unfold maxLen; omega); omega; intro v8 w8 o8 g8) | ((with_reducible refine wpList_append_reads (o := ⟨some 77, .call { callee := .builtin .append, args := #[.tmp 75, .tmp 76], argTypes := #[41, 41] }, _, _, _, none⟩) rfl _ _ 41 rfl 5 j0 (.int .u8 0) 1 1 Try.underlying41 hj hy0 hy1 hy2 ?_ ?_ _ _ _ ?_ o8 _ EB.length (encN .u8 EB) ?_ (Reads.own (own_below o6 g8.bel) ?_) (encN_one _ EB) ?_ ?_ ?_); rfl; decide; rfl; rfl; decide; (unfold maxLen; omega); omega; intro v9 w9 o9 g9))
    have hb9 := (g8.trans g9).bel
    have q9 : w9.ownsRow 0 5 1 v9 (EA ++ EB).length (encN .u8 (EA ++ EB)) := by
      rw [List.length_append, encN_append]
      simpa using o9
    refine (sameBytes_true v7 v9 (EA ++ EB) w9 (Bytes.own (own_below o7 hb9) Hlt.out) (Bytes.own q9 Hlt.out)).mono ?_
    rintro e w10 ⟨rfl, hb10⟩
    go_wp2
    go_ret
    exact ⟨rfl, Bel.tr (Bel.tr hb7 hb9) hb10⟩
theorem isaJoins_full (x : Value) (l : List (Nat × Nat)) (y : Value) (m : List (Nat × Nat)) (w : World) (hx : Instrs w x l) (_ : l.length * 8 ≤ 140737488351232) (hy : Instrs w y m) (_ : m.length * 8 ≤ 140737488351232) :
    Calls Try.prog 12 #[x, y] w fun e w' => e = .returned (.bool true) ∧ Below w.heap.size w w' := isaJoins_walk x y l m w hx hy
end Go.Proofs.Ytdigcbkjlppenaa
