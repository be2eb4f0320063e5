import Derived.Test.YtdigcbkjlppenaaDecW
/- IsaDecode: the walk. -/
namespace Go.Proofs.Ytdigcbkjlppenaa
open Go.RowKit
set_option linter.unusedVariables false
def overB (n : Nat) : List Nat := List.replicate n 1
theorem overB_length (n : Nat) : (overB n).length = n := by simp [overB]
theorem overB_succ (n : Nat) : overB (n + 1) = overB n ++ [1] := by simp [overB, List.replicate_succ']
theorem overB_lt (n : Nat) : ∀ i ∈ overB n, i < 256 := by
  intro i hi
  rw [List.eq_of_mem_replicate hi]; decide
theorem encN_set (a b : List Nat) (x y : Nat) : (encN .u8 (a ++ x :: b)).set a.length (.int .u8 y) = encN .u8 (a ++ y :: b) := by
  rw [encN_append, encN_append]
  have hl := encN_length .u8 a
  rw [List.set_append_right _ _ (by omega), hl, Nat.sub_self]
  rfl
set_option maxRecDepth 100000 in
set_option maxHeartbeats 4000000 in
theorem isaDecode_walk (x y : Value) (l m : List Nat) (w : World) (hx : Bytes w x l) (hl : l.length ≤ 140737488351232) (hy : Bytes w y m) (hm : m.length ≤ 140737488351232) :
    Calls Try.prog 10 #[x, y] w fun e w' => e = .returned (.bool true) ∧ Below w.heap.size w w' := by
  obtain ⟨i0, hi, hz0, hz1, hz2⟩ := info_parts info5
  have hb41 := run_buildSlice41
  have hb573 := run_buildSlice57_3
  have hb572 := run_buildSlice57_2
  have HX := Lib.hid hx
  have HY := Lib.hid hy
  obtain ⟨ax, cx, rfl, hlcx, hcmx, -, -⟩ := hx.opened
  obtain ⟨ay, cy, rfl, hlcy, hcmy, -, -⟩ := hy.opened
  have h1 := lentBytes_any _ l hl w hx
  clear hx hy
  go_enter Try.func10, Try.ntmps10
  go_wp2_with fail
  refine h1.mono ?_
  rintro e w1 ⟨g0, c0, rfl, o0, hb1, hg0⟩
  clear h1
  have hg1 := (o0.lt g0 rfl).2
  have hltl : ∀ i ∈ l ++ marksB 0 0 64, i < 256 := fun i hi => by
    rcases List.mem_append.1 hi with h | h
    · exact HX.out.2 i h
    · exact marksB_lt _ _ _ i h
  have hltm : ∀ i ∈ m ++ marksB 0 0 64, i < 256 := fun i hi => by
    rcases List.mem_append.1 hi with h | h
    · exact HY.out.2 i h
    · exact marksB_lt _ _ _ i h
  have hlen64 : (l ++ marksB 0 0 64).length = l.length + 64 := by rw [List.length_append, marksB_length]
  have hlen64m : (m ++ marksB 0 0 64).length = m.length + 64 := by rw [List.length_append, marksB_length]
  have Hltl := Lib.hid hltl
  have Hltm := Lib.hid hltm
  have HL := Lib.hid hlen64
  have HM := Lib.hid hlen64m
  clear hltl hltm hlen64 hlen64m
  have hlent : ∀ W, Below w1.heap.size w1 W → Bytes W (.slice (some ⟨g0, 0, none⟩) (l.length + 64) c0) (l ++ marksB 0 0 64) := fun W hb =>
    Bytes.own (by rw [HL.out]; exact own_below o0 hb) Hltl.out
  have Hlent := Lib.hid hlent
  have O0 := Lib.hid o0
  clear hlent o0
  -- a
  have he1 := decoded_any g0 c0 _ l hl w1 (Hlent.out w1 (Below.refl _ _)) (HX.out.below hb1)
  go_wp2_with fail
  refine he1.mono ?_
  rintro e w2 ⟨u1, rfl, o1, r1⟩
  clear he1
  have O1 := Lib.hid o1
  have R1 := Lib.hid r1
  obtain ⟨a1, n1, hu1⟩ := own_shape o1
  clear o1 r1
  have hb12 := R1.out.bel
  have hb2 := Bel.tr hb1 hb12
  -- c
  have h3 := lentBytes_any _ m hm w2 (HY.out.below hb2)
  go_wp2_with fail
  refine h3.mono ?_
  rintro e w3 ⟨g3, c3, rfl, o3, hb23, hg3⟩
  clear h3
  have he3 := decoded_any g3 c3 _ m hm w3 (Bytes.own (by rw [HM.out]; exact o3) Hltm.out) (HY.out.below (Bel.tr hb2 hb23))
  clear o3
  go_wp2_with fail
  refine he3.mono ?_
  rintro e w4 ⟨u2, rfl, o2, r2⟩
  clear he3
  have O2 := Lib.hid o2
  have R2 := Lib.hid r2
  obtain ⟨a2, n2, hu2⟩ := own_shape o2
  clear o2 r2
  have hb24 := Bel.tr hb23 R2.out.bel
  have hb14 := Bel.tr hb12 hb24
  -- b
  have he5 := decoded_any g0 c0 _ l hl w4 (Hlent.out w4 hb14) (HX.out.below (Bel.tr hb1 hb14))
  go_wp2_with fail
  refine he5.mono ?_
  rintro e w5 ⟨u3, rfl, o3, r3⟩
  clear he5
  have O3 := Lib.hid o3
  have R3 := Lib.hid r3
  obtain ⟨a3, n3, hu3⟩ := own_shape o3
  clear o3 r3
  have hb45 := R3.out.bel
  have hb15 := Bel.tr hb14 hb45
  have hap : Calls Try.prog 32 #[.slice (some ⟨w5.heap.size, 0, none⟩) 3 3] (w5.alloc (.cells #[u1, u2, u3] 43)) fun e w' => e = .returned (.bool true) ∧ Below w1.heap.size (w5.alloc (.cells #[u1, u2, u3] 43)) w' := by
    have b1 := fun g e => (O1.out.lt g e).2
    have b2 := fun g e => (O2.out.lt g e).2
    have f2 := fresh_ge R2.out (Nat.le_refl _)
    have f3 := fresh_ge R3.out (Nat.le_refl _)
    have s23 := hb23.size
    have s34 := R2.out.bel.size
    have s12 := hb12.size
    exact apart3C hb15.size (own_from (own_below O1.out (Bel.tr hb24 hb45)) (fresh_ge R1.out (Nat.le_refl _))) (own_from (own_below O2.out hb45) (fresh_ge R2.out (by omega))) (own_from O3.out (fresh_ge R3.out hb14.size))
      (by have := decRes_len l; omega) (by have := decRes_len m; omega) (by have := decRes_len l; omega) (Aside.of w3.heap.size (fun g e => by have := b1 g e; omega) f2) (Aside.of w4.heap.size (fun g e => by have := b1 g e; omega) f3) (Aside.of w4.heap.size b2 f3)
  subst hu1
  subst hu2
  subst hu3
  have Hap := Lib.hid hap
  clear hap
  go_wp2_with fail
  refine Hap.out.mono ?_
  rintro e w7 ⟨rfl, hb67⟩
  clear Hap O1 O2 O3 R1 R2 R3
  have hb17 : Below w1.heap.size w1 w7 := (Bel.al hb15 _).trans hb67
  clear hb67 hb15 hb45 hb14 hb24 hb12 hb23
  -- d
  have he8 := decoded_any g0 c0 _ l hl w7 (Hlent.out w7 hb17) (HX.out.below (Bel.tr hb1 hb17))
  go_wp2_with fail
  refine he8.mono ?_
  rintro e w8 ⟨u4, rfl, o4, r4⟩
  clear he8
  have O4 := Lib.hid o4
  have R4 := Lib.hid r4
  obtain ⟨a4, n4, hu4⟩ := own_shape o4
  clear o4 r4
  have hb18 := Bel.tr hb17 R4.out.bel
  have hO8 := Lib.hid (own_below O0.out hb18)
  clear Hlent
  subst hu4
  have hd4 : ∀ g, (Value.slice a4 (decRes l).1.length n4).ownBlock = some g → w7.heap.size ≤ g ∧ g < w8.heap.size := fun g e => ⟨fresh_ge R4.out (Nat.le_refl _) g e, (O4.out.lt g e).2⟩
  have s17 := hb17.size
  have s78 := R4.out.bel.size
  have Hd4 := Lib.hid hd4
  have hb08 := Bel.tr hb1 hb18
  have hlm : l.length ≤ 9223372036854775807 := by omega
  clear hd4 hb18 hb17
  go_wp2_with fail
  go_loopw [11, 12] (fun u i wr => ∃ k : Nat, k ≤ l.length ∧ i = .int .i64 k ∧ wr.ownsRow 0 5 1 (.slice (some ⟨g0, 0, none⟩) (l.length + 64) c0) (l.length + 64) (encN .u8 (overB k ++ (l.drop k ++ marksB 0 0 64))) ∧ wr.ownsRow 0 5 1 u k (encN .u8 (overB k)) ∧
    (∀ g, u.ownBlock = some g → w8.heap.size ≤ g) ∧ wr.ownsRow 0 36 2 (.slice a4 (decRes l).1.length n4) (decRes l).1.length (encI (decRes l).1) ∧ Below w.heap.size w wr ∧ w8.heap.size ≤ wr.heap.size) (fun _ i _ => l.length - (intOf i).toNat)
  case atStart => exact ⟨0, by omega, rfl, hO8.out, World.ownsRow_nil _ _ _ _, (fun g e => by cases e), O4.out, hb08, Nat.le_refl _⟩
  case round =>
    clear hO8 hb08 O4 R4
    obtain ⟨k, hk, rfl, hr, hu, hub, hd, hbb, hsz⟩ := hrel
    by_cases hlt : k < l.length
    · have hdrop : l.drop k = l.getD k 0 :: l.drop (k + 1) := by
        rw [List.drop_eq_getElem_cons hlt, List.getD_eq_getElem?_getD, List.getElem?_eq_getElem hlt]; rfl
      rw [hdrop, List.cons_append] at hr
      generalize l.getD k 0 = ins at hr
      have c1 : wr.cell? ⟨g0, k, none⟩ = some (.int .u8 ins) := by
        rw [hr.cellAt k (by omega), encN_append, List.getElem?_append_right (by rw [encN_length, overB_length]; omega), encN_length, overB_length, Nat.sub_self]; rfl
      have f1 := hr.frozenAt k
      have h1 := hr.stored k (.int .u8 1)
      have g0' : (k : Int) < (l.length : Int) := by omega
      have g1 : (k : Int) < (l.length : Int) + 64 := by omega
      have hgr := h1.2
      have hu2 : (wr.setCell ⟨g0, k, none⟩ (.int .u8 1)).ownsRow 0 5 1 u11 k (encN .u8 (overB k)) := own_grown hu hgr (fun q e e2 => by have := hub q e; cases e2; omega)
      have hd2 := own_grown hd hgr (fun q e e2 => by have := (Hd4.out q e).1; cases e2; omega)
      have hb2 : Below w.heap.size w (wr.setCell ⟨g0, k, none⟩ (.int .u8 1)) := hbb.grown hgr hbb.size (fun q e => by cases e; exact hg0)
      have hr2 := h1.1
      have ek2 : (encN .u8 (overB k ++ ins :: (l.drop (k + 1) ++ marksB 0 0 64))).set k (.int .u8 1) = encN .u8 (overB (k + 1) ++ (l.drop (k + 1) ++ marksB 0 0 64)) := by
        have := encN_set (overB k) (l.drop (k + 1) ++ marksB 0 0 64) ins 1
        rw [overB_length] at this
        rw [overB_succ, List.append_assoc]
        exact this
      rw [ek2] at hr2
      have hs2 : w8.heap.size ≤ (wr.setCell ⟨g0, k, none⟩ (.int .u8 1)).heap.size := Nat.le_trans hsz hgr.size
      have Hr2 := Lib.hid hr2
      have Hub := Lib.hid hub
      have Hd2 := Lib.hid hd2
      have Hb2 := Lib.hid hb2
      have Hs2 := Lib.hid hs2
      clear h1 hr hu hub hd hbb hdrop ek2 hr2 hd2 hb2 hs2 hgr
      go_wp2_with ((with_reducible refine wpList_append1B (o := ⟨some 68, .call { callee := .builtin .append, args := #[.tmp 66, .tmp 67], argTypes := #[41, 41] }, _, _, _, none⟩) rfl _ _ 41 rfl 5 i0 (.int .u8 0) 1 1 Try.underlying41 hi hz0 hz1 hz2 ?_ ?_ _ _ _ hu2 _ _ wr.heap.size ?_ ?_ ?_ ?_ ?_ ?_ ?_ ?_); rfl; decide; rfl; rfl; (simp [World.setCell]); rfl; (simp [Value.oneCell']); (unfold maxLen; omega); omega; intro g5 c5 w9 o5 r5 hl5)
      have hlent : w9.ownsRow 0 5 1 (.slice (some ⟨g0, 0, none⟩) (l.length + 64) c0) (l.length + 64) (encN .u8 (overB (k + 1) ++ (l.drop (k + 1) ++ marksB 0 0 64))) := own_grown Hr2.out r5.1 (fun q e e2 => by have := Hub.out q e2; have e' : g0 = q := (by simpa [Value.ownBlock] using e); omega)
      have hd9 := own_grown Hd2.out r5.1 (fun q e e2 => by have := Hub.out q e2; have := (Hd4.out q e).2; omega)
      have hb9 := Hb2.out.grown r5.1 Hb2.out.size (fun q e => by have := Hub.out q e; omega)
      have hov : ∀ g, (Value.slice (some ⟨g5, 0, none⟩) (k + 1) c5).ownBlock = some g → w8.heap.size ≤ g := fun g e => by
        rcases r5.2 g e with h | h
        · exact Hub.out g h
        · exact Nat.le_trans Hs2.out h
      have Hlent := Lib.hid hlent
      have Hd9 := Lib.hid hd9
      have Hb9 := Lib.hid hb9
      have Hov := Lib.hid hov
      have hs9 := Nat.le_trans Hs2.out r5.1.size
      have ho5 : w9.ownsRow 0 5 1 (.slice (some ⟨g5, 0, none⟩) (k + 1) c5) (k + 1) (encN .u8 (overB (k + 1))) := by
        rw [overB_succ, encN_append]; exact o5
      have Ho5 := Lib.hid ho5
      clear hlent hd9 hb9 hov ho5 o5 r5 hu2 Hr2 Hd2 Hb2 Hs2
      go_roundw
      case rel => exact ⟨k + 1, by omega, by go_num, Hlent.out, Ho5.out, Hov.out, Hd9.out, Hb9.out, hs9⟩
      case measure => simp [intOf]; omega
    · obtain rfl : k = l.length := by omega
      rw [List.drop_length, List.nil_append] at hr
      have hI : Bytes wr (.slice (some ⟨g0, 0, none⟩) ((overB l.length).length + 64) c0) (overB l.length ++ marksB 0 0 64) := Bytes.own (by
        rw [List.length_append, marksB_length, overB_length]; exact hr) (fun i hi => by
        rcases List.mem_append.1 hi with h | h
        · exact overB_lt _ i h
        · exact marksB_lt _ _ _ i h)
      have hov : Bytes wr u11 (overB l.length) := Bytes.own (by rw [overB_length]; exact hu) (overB_lt _)
      have he := decoded_any g0 c0 u11 (overB l.length) (by rw [overB_length]; exact hl) wr hI hov
      rw [overB_length] at he
      have Hd := Lib.hid hd
      have He := Lib.hid he
      clear hr hu hub hd hI hov he
      go_wp2_with fail
      refine He.out.mono ?_
      rintro e w9 ⟨u5, rfl, o5, r5⟩
      clear He
      have hb9 := r5.bel
      have hb09 := Bel.tr hbb hb9
      have hap : Calls Try.prog 32 #[.slice (some ⟨w9.heap.size, 0, none⟩) 2 2] (w9.alloc (.cells #[.slice a4 (decRes l).1.length n4, u5] 43)) fun e w' => e = .returned (.bool true) ∧ Below w.heap.size (w9.alloc (.cells #[.slice a4 (decRes l).1.length n4, u5] 43)) w' := by
        have f5 := fresh_ge r5 (Nat.le_refl _)
        have s0 := hbb.size
        exact apart2C hb09.size (own_from (own_below Hd.out hb9) (fun g e => by have := (Hd4.out g e).1; omega)) (own_from o5 (fun g e => by have := f5 g e; omega))
          (by have := decRes_len l; omega) (by have := decRes_len (overB l.length); omega) (Aside.of wr.heap.size (fun g e => by have := (Hd4.out g e).2; omega) f5)
      obtain ⟨a5, n5, hu5⟩ := own_shape o5
      subst hu5
      have Hap := Lib.hid hap
      clear hap o5 r5
      go_wp2_with fail
      refine Hap.out.mono ?_
      rintro e w10 ⟨rfl, hb10⟩
      have hfin := Lib.hid ((Bel.al hb09 _).trans hb10)
      clear Hap hb10
      go_wp2
      go_ret
      exact ⟨rfl, hfin.out⟩
theorem isaDecode_full (x : Value) (l : List Nat) (y : Value) (m : List Nat) (w : World) (hx : Bytes w x l) (hl : l.length ≤ 140737488351232) (hy : Bytes w y m) (hm : m.length ≤ 140737488351232) :
    Calls Try.prog 10 #[x, y] w fun e w' => e = .returned (.bool true) ∧ Below w.heap.size w w' := isaDecode_walk x y l m w hx hl hy hm
end Go.Proofs.Ytdigcbkjlppenaa
