import Derived.Test.YtdigcbkjlppenaaWalkEnc
namespace Go.Proofs.Ytdigcbkjlppenaa
open Go.RowKit
/-- A row of instructions without its first. -/
theorem own_drop1 {w : World} {g n cap : Nat} {i : Nat × Nat} {l : List (Nat × Nat)} (h : w.ownsRow 0 36 2 (.slice (some ⟨g, 0, none⟩) (n + 1) cap) (n + 1) (encI (i :: l))) (hl : l.length = n) :
    Reads w 2 (.slice (some ⟨g, 2, none⟩) n (cap - 1)) n (encI l) := by
  obtain ⟨a, cap', hv, hle, hn, hm, ha, hp⟩ := Reads.own h (by decide)
  cases hv
  refine ⟨_, _, rfl, by rw [encI_length, hl], by omega, by omega, (fun h => by cases h), fun h0 => ?_⟩
  obtain ⟨b, off, e, hlt, hc⟩ := hp (by omega)
  cases e
  refine ⟨g, 2, rfl, hlt, fun j hj => ?_⟩
  have := hc (j + 2) (by simp [encI]; omega)
  rw [show 0 + (j + 2) = 2 + j from by omega] at this
  rw [this]
  simp [encI]
theorem encode_snoc_len (c : List (Nat × Nat)) (k : Nat) (hk : k < c.length) : (encode (c.take (k + 1))).length = (encode (c.take k)).length + (1 + widthOf (c.getD k (0, 0)).1) := by
  have hw := width_le (c.getD k (0, 0)).1
  rw [encode_succ c k hk]
  simp only [List.length_append, List.length_take, le4_length, List.length_cons, List.length_nil]
  omega
theorem own_cap {w : World} {e sz n : Nat} {a : Option Addr} {cap : Nat} {xs : List Value} (h : w.ownsRow 0 e sz (.slice a n cap) n xs) : n ≤ cap ∧ cap ≤ maxLen := by
  rcases h.2 with ⟨e, hn⟩ | ⟨g, cap', cur, hv, hb, hg, hn, hm, hcs, ht⟩
  · cases e; exact ⟨Nat.le_refl _, Nat.zero_le _⟩
  · cases hv; exact ⟨hn, hm⟩
theorem own_cap2 {w : World} {e sz n : Nat} {a : Option Addr} {cap : Nat} {xs : List Value} (h : w.ownsRow 0 e sz (.slice a (n + 1) cap) (n + 1) xs) (hn : n = 16384) : ¬ cap = 1 ∧ ¬ cap - 1 = 0 := by
  have := own_cap h
  omega
set_option maxRecDepth 100000 in
set_option maxHeartbeats 4000000 in
theorem isaBack_walk (x : Value) (l : List (Nat × Nat)) (w : World) (hx : Instrs w x l) : Calls Try.prog 14 #[x] w fun e w' => e = .returned (.bool true) ∧ Below w.heap.size w w' := by
  obtain ⟨i0, hi, hz0, hz1, hz2⟩ := info_parts info36
  have hb36 := run_build36
  have hb43 := run_buildSlice43
  have hz36 := zero36
  have hA := fit_lt hx.2
  have hAn := fit_len l
  have hAc := fit_ok hx.2
  have h1 := fitted_any x l w hx
  generalize fit l = A at *
  have HA := Lib.hid hA
  have HAc := Lib.hid hAc
  clear hA hAc hx
  go_enter Try.func14, Try.ntmps14
  go_wp2_with fail
  refine h1.mono ?_
  rintro e w1 ⟨v1, rfl, o1, g1⟩
  clear h1
  have h4 : checkN 4 4660 = 0 := by decide
  have hall : ∀ i ∈ A ++ [(4, 4660)], (i.1 < 256 ∧ i.2 < 4294967296) ∧ checkN i.1 i.2 = 0 := fun i hi => by
    rcases List.mem_append.1 hi with h | h
    · exact ⟨HA.out i h, HAc.out i h⟩
    · obtain rfl : i = (4, 4660) := by simpa using h
      exact ⟨⟨by decide, by decide⟩, h4⟩
  have Hall := Lib.hid hall
  clear hall h4
  by_cases hmany : A.length = 16384
  · have hm1 : decide (16384 < (A.length : Int) + 1) = true := decide_eq_true (by omega)
    go_wp2_with ((with_reducible refine wpList_append1 (o := ⟨some 22, .call { callee := .builtin .append, args := #[.tmp 19, .tmp 21], argTypes := #[43, 43] }, _, _, _, none⟩) rfl _ _ 43 rfl 36 i0 (.agg #[.int .u8 0, .int .u32 0]) 2 8 Try.underlying43 hi hz0 hz1 hz2 ?_ ?_ _ _ _ o1 _ _ ?_ ?_ ?_ ?_ ?_ ?_ ?_); rfl; decide; rfl; rfl; rfl; (simp [Value.oneCell']); (unfold maxLen; omega); omega; intro g2 c2 w2 o2 g2' hl2; obtain ⟨hcp1, hcp2⟩ := own_cap2 o2 hmany)
    have hb2 := (g1.trans g2').bel
    obtain ⟨A0, A', hA0⟩ : ∃ a A', A = a :: A' := by
      cases A with
      | nil => simp at hmany
      | cons a A' => exact ⟨a, A', rfl⟩
    have hin0 : Reads w2 2 (.slice (some ⟨g2, 2, none⟩) 16384 (c2 - 1)) 16384 (encI (A' ++ [(4, 4660)])) := by
      have := o2
      rw [hmany, hA0] at this
      exact own_drop1 (i := A0) (l := A' ++ [(4, 4660)]) (by rw [encI, encI_append]; exact this) (by rw [hA0] at hmany; simp at *; omega)
    obtain ⟨C, hC⟩ : ∃ C, C = A' ++ [(4, 4660)] := ⟨_, rfl⟩
    have hCl : C.length = 16384 := by rw [hC]; rw [hA0] at hmany; simp at *; omega
    have hmem : ∀ i ∈ C, (i.1 < 256 ∧ i.2 < 4294967296) ∧ checkN i.1 i.2 = 0 := fun i hi => Hall.out i (by rw [hA0]; rw [hC] at hi; simp at *; right; exact hi)
    have hin : Instrs w2 (.slice (some ⟨g2, 2, none⟩) 16384 (c2 - 1)) C := ⟨by rw [hCl, hC]; exact hin0, fun i hi => (hmem i hi).1⟩
    have HCc := Lib.hid (fun i hi => (hmem i hi).2)
    clear hin0 hC hA0 hmem Hall HA HAc o2 o1 g1 g2'
    generalize c2 - 1 = cc at *
    generalize (some ⟨g2, 2, none⟩ : Option Addr) = ad at *
    have hCle : C.length ≤ 16384 := by omega
    have he := encode_ok _ C w2 hin hCle HCc.out
    have hin2 := fun W hb => (hin.below (w' := W) hb).opened
    have Hin := Lib.hid hin2
    have hlt := Lib.hid (encode_lt hin.2)
    have HlC := Lib.hid (fun k => hin.lt k)
    have Hval := Lib.hid hin
    have hdr := Lib.hid (decRes_encode hCle HCc.out)
    have hln := encode_len C
    clear hin2 hin
    refine he.mono ?_
    rintro e w3 ⟨v3, rfl, o3, g3⟩
    clear he
    obtain ⟨a3, c3, rfl⟩ := own_shape o3
    have hb3 := g3.bel
    have hb23 := Bel.tr hb2 hb3
    clear g3
    go_wp2
    go_loopw [8, 9] (fun n i wr => ∃ k : Nat, k ≤ C.length ∧ i = .int .i64 k ∧ n = .int .i64 ((encode (C.take k)).length : Nat) ∧ Below w3.heap.size w3 wr) (fun _ i _ => C.length - (intOf i).toNat)
    case atStart => exact ⟨0, by omega, rfl, rfl, Below.refl _ _⟩
    case round =>
      obtain ⟨k, hk, rfl, rfl, hbr⟩ := hrel
      by_cases hlt' : k < C.length
      · have hkI : (k : Int) < 16384 := by omega
        obtain ⟨a', cap', ev, h1, h2, h3, h4⟩ := Hin.out wr (Bel.tr hb3 hbr)
        simp only [Value.slice.injEq] at ev
        obtain ⟨rfl, -, rfl⟩ := ev
        obtain ⟨b, off, eb, hbl, hc⟩ := h4 (by omega)
        cases eb
        obtain ⟨hc1, hc2⟩ := hc k hlt'
        obtain ⟨ho, ha⟩ := HlC.out k
        have hsz := fun W => size_any (C.getD k (0, 0)).1 (C.getD k (0, 0)).2 ho W
        have hsn := encode_snoc_len C k hlt'
        have hln2 := encode_len (C.take k)
        rw [List.length_take] at hln2
        have hcc : checkN (C.getD k (0, 0)).1 (C.getD k (0, 0)).2 = 0 := HCc.out _ (by rw [List.getD_eq_getElem?_getD, List.getElem?_eq_getElem hlt']; exact List.getElem_mem hlt')
        have hwd := width_le (C.getD k (0, 0)).1
        generalize C.getD k (0, 0) = ins at *
        obtain ⟨o, x'⟩ := ins
        simp only at *
        unfold sizeN at hsz
        rw [if_pos hcc] at hsz
        have Hsn := Lib.hid hsn
        clear hsn hc h4 hcc h1 h2 h3
        generalize (encode (C.take k)).length = q at *
        generalize widthOf o = wd at *
        have hw1 : decide (((1 + wd : Nat) : Int) < 1) = false := decide_eq_false (by omega)
        have hw2 : decide (5 < ((1 + wd : Nat) : Int)) = false := decide_eq_false (by omega)
        have hq : (q : Int) + ((1 + wd : Nat) : Int) ≤ 9223372036854775807 := by omega
        go_wp2_with fail
        refine (hsz _).mono ?_
        rintro e w4 ⟨rfl, hb4⟩
        go_wp2
        go_roundw
        case rel => exact ⟨k + 1, by omega, by go_num, by rw [Hsn.out]; go_num, hbr.trans (hb4.mono hbr.size)⟩
        case measure => simp [intOf]; omega
      · have hkI : ¬ (k : Int) < 16384 := by omega
        obtain rfl : k = C.length := by omega
        rw [List.take_length]
        have hd := decode_any _ (encode C) wr (Bytes.own (own_below o3 hbr) hlt.out)
        unfold DecPost at hd
        rw [hdr.out] at hd
        have ho3 := Lib.hid o3
        clear o3
        generalize encode C = EC at *
        have hq : ((EC.length : Int) == (EC.length : Int)) = true := by simp
        go_wp2_with fail
        refine hd.mono ?_
        rintro e w5 ⟨v5, rfl, o5, hb5, g5⟩
        clear hd
        have hs := sameCode_true v5 _ C w5 (Instrs.own o5 Hval.out.2) (Hval.out.below (Bel.tr (Bel.tr hb3 hbr) hb5))
        go_wp2_with fail
        refine hs.mono ?_
        rintro e w6 ⟨rfl, hb6⟩
        go_wp2
        go_ret
        exact ⟨rfl, Bel.tr (Bel.tr (Bel.tr hb23 hbr) hb5) hb6⟩
  · have hm1 : decide (16384 < (A.length : Int) + 1) = false := decide_eq_false (by omega)
    go_wp2_with ((with_reducible refine wpList_append1 (o := ⟨some 22, .call { callee := .builtin .append, args := #[.tmp 19, .tmp 21], argTypes := #[43, 43] }, _, _, _, none⟩) rfl _ _ 43 rfl 36 i0 (.agg #[.int .u8 0, .int .u32 0]) 2 8 Try.underlying43 hi hz0 hz1 hz2 ?_ ?_ _ _ _ o1 _ _ ?_ ?_ ?_ ?_ ?_ ?_ ?_); rfl; decide; rfl; rfl; rfl; (simp [Value.oneCell']); (unfold maxLen; omega); omega; intro g2 c2 w2 o2 g2' hl2)
    have hb2 := (g1.trans g2').bel
    obtain ⟨C, hC⟩ : ∃ C, C = A ++ [(4, 4660)] := ⟨_, rfl⟩
    have hCl : C.length = A.length + 1 := by rw [hC]; simp
    have hmem : ∀ i ∈ C, (i.1 < 256 ∧ i.2 < 4294967296) ∧ checkN i.1 i.2 = 0 := fun i hi => Hall.out i (by rw [hC] at hi; exact hi)
    have hin : Instrs w2 (.slice (some ⟨g2, 0, none⟩) (A.length + 1) c2) C := ⟨by
      have := Reads.own o2 (by decide)
      rw [hCl, hC, encI_append]; exact this, fun i hi => (hmem i hi).1⟩
    have HCc := Lib.hid (fun i hi => (hmem i hi).2)
    clear hC hmem Hall HA HAc o2 o1 g1 g2'
    generalize (some ⟨g2, 0, none⟩ : Option Addr) = ad at *
    have hCle : C.length ≤ 16384 := by omega
    have he := encode_ok _ C w2 hin hCle HCc.out
    have hin2 := fun W hb => (hin.below (w' := W) hb).opened
    have Hin := Lib.hid hin2
    have hlt := Lib.hid (encode_lt hin.2)
    have HlC := Lib.hid (fun k => hin.lt k)
    have Hval := Lib.hid hin
    have hdr := Lib.hid (decRes_encode hCle HCc.out)
    have hln := encode_len C
    clear hin2 hin
    refine he.mono ?_
    rintro e w3 ⟨v3, rfl, o3, g3⟩
    clear he
    obtain ⟨a3, c3, rfl⟩ := own_shape o3
    have hb3 := g3.bel
    have hb23 := Bel.tr hb2 hb3
    clear g3
    go_wp2
    go_loopw [8, 9] (fun n i wr => ∃ k : Nat, k ≤ C.length ∧ i = .int .i64 k ∧ n = .int .i64 ((encode (C.take k)).length : Nat) ∧ Below w3.heap.size w3 wr) (fun _ i _ => C.length - (intOf i).toNat)
    case atStart => exact ⟨0, by omega, rfl, rfl, Below.refl _ _⟩
    case round =>
      obtain ⟨k, hk, rfl, rfl, hbr⟩ := hrel
      by_cases hlt' : k < C.length
      · have hkI : (k : Int) < ((A.length : Int) + 1) := by omega
        obtain ⟨a', cap', ev, h1, h2, h3, h4⟩ := Hin.out wr (Bel.tr hb3 hbr)
        simp only [Value.slice.injEq] at ev
        obtain ⟨rfl, -, rfl⟩ := ev
        obtain ⟨b, off, eb, hbl, hc⟩ := h4 (by omega)
        cases eb
        obtain ⟨hc1, hc2⟩ := hc k hlt'
        obtain ⟨ho, ha⟩ := HlC.out k
        have hsz := fun W => size_any (C.getD k (0, 0)).1 (C.getD k (0, 0)).2 ho W
        have hsn := encode_snoc_len C k hlt'
        have hln2 := encode_len (C.take k)
        rw [List.length_take] at hln2
        have hcc : checkN (C.getD k (0, 0)).1 (C.getD k (0, 0)).2 = 0 := HCc.out _ (by rw [List.getD_eq_getElem?_getD, List.getElem?_eq_getElem hlt']; exact List.getElem_mem hlt')
        have hwd := width_le (C.getD k (0, 0)).1
        generalize C.getD k (0, 0) = ins at *
        obtain ⟨o, x'⟩ := ins
        simp only at *
        unfold sizeN at hsz
        rw [if_pos hcc] at hsz
        have Hsn := Lib.hid hsn
        clear hsn hc h4 hcc h1 h2 h3
        generalize (encode (C.take k)).length = q at *
        generalize widthOf o = wd at *
        have hw1 : decide (((1 + wd : Nat) : Int) < 1) = false := decide_eq_false (by omega)
        have hw2 : decide (5 < ((1 + wd : Nat) : Int)) = false := decide_eq_false (by omega)
        have hq : (q : Int) + ((1 + wd : Nat) : Int) ≤ 9223372036854775807 := by omega
        go_wp2_with fail
        refine (hsz _).mono ?_
        rintro e w4 ⟨rfl, hb4⟩
        go_wp2
        go_roundw
        case rel => exact ⟨k + 1, by omega, by go_num, by rw [Hsn.out]; go_num, hbr.trans (hb4.mono hbr.size)⟩
        case measure => simp [intOf]; omega
      · have hkI : ¬ (k : Int) < ((A.length : Int) + 1) := by omega
        obtain rfl : k = C.length := by omega
        rw [List.take_length]
        have hd := decode_any _ (encode C) wr (Bytes.own (own_below o3 hbr) hlt.out)
        unfold DecPost at hd
        rw [hdr.out] at hd
        have ho3 := Lib.hid o3
        clear o3
        generalize encode C = EC at *
        have hq : ((EC.length : Int) == (EC.length : Int)) = true := by simp
        go_wp2_with fail
        refine hd.mono ?_
        rintro e w5 ⟨v5, rfl, o5, hb5, g5⟩
        clear hd
        have hs := sameCode_true v5 _ C w5 (Instrs.own o5 Hval.out.2) (Hval.out.below (Bel.tr (Bel.tr hb3 hbr) hb5))
        go_wp2_with fail
        refine hs.mono ?_
        rintro e w6 ⟨rfl, hb6⟩
        go_wp2
        go_ret
        exact ⟨rfl, Bel.tr (Bel.tr (Bel.tr hb23 hbr) hb5) hb6⟩
theorem isaBack_full (x : Value) (l : List (Nat × Nat)) (w : World) (hx : Instrs w x l) (_ : l.length * 8 ≤ 140737488351232) :
    Calls Try.prog 14 #[x] w fun e w' => e = .returned (.bool true) ∧ Below w.heap.size w w' := isaBack_walk x l w hx
end Go.Proofs.Ytdigcbkjlppenaa
