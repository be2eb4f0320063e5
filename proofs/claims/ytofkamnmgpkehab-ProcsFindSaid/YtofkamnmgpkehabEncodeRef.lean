import Derived.Test.YtofkamnmgpkehabEncode
namespace Go.Proofs.Ytofkamnmgpkehab
open Go.RowKit
theorem le4_at (x i : Nat) (hi : i < 4) : (le4 x).take (i + 1) = (le4 x).take i ++ [x / 256 ^ i % 256] := by
  rw [le4_shift x i hi, show (2 : Nat) ^ (8 * i) = 256 ^ i from by rw [Nat.pow_mul]]
set_option maxRecDepth 100000 in
set_option maxHeartbeats 2000000 in
theorem refencode_any (v : Value) (l : List (Nat × Nat)) (w : World) (hv : Instrs w v l) : Calls Try.prog 39 #[v] w (EncPost l w) := by
  have hlt := hv.lt
  obtain ⟨a, cap, rfl, hlc, hcm, hnil, hp⟩ := hv.opened
  obtain ⟨i0, hi, hz0, hz1, hz2⟩ := info_parts info5
  have hlm : l.length ≤ 9223372036854775807 := by unfold maxLen at hcm; omega
  by_cases hmany : 16384 < l.length
  · have he := encRes_many hmany
    have hm1 : (16384 : Int) < (l.length : Int) := by omega
    have Hp := Lib.hid hp
    have Hn := Lib.hid hnil
    clear hp hnil
    go_enter Try.func39, Try.ntmps39
    go_wp2
    go_ret3
    refine ⟨.slice none 0 0, by rw [he]; rfl, by rw [he]; exact World.ownsRow_nil _ _ _ _, Grew.refl _ _, fun _ => rfl⟩
  · have Hp := Lib.hid hp
    have Hn := Lib.hid hnil
    have hm1 : ¬ (16384 : Int) < (l.length : Int) := by omega
    clear hp hnil
    go_enter Try.func39, Try.ntmps39
    go_wp2_with fail
    go_loopw [5, 6] (fun u i wr => ∃ k : Nat, k ≤ l.length ∧ i = .int .i64 k ∧ (∀ j, j < k → errAt l j = 0) ∧ wr.ownsRow 0 5 1 u (encode (l.take k)).length (encN .u8 (encode (l.take k))) ∧ Grew w wr (.slice none 0 0) u ∧ (k = 0 → u = .slice none 0 0)) (fun _ i _ => l.length - (intOf i).toNat)
    case atStart => exact ⟨0, by omega, rfl, fun j h => by omega, World.ownsRow_nil _ _ _ _, Grew.refl _ _, fun _ => rfl⟩
    case round =>
      obtain ⟨k, hk, rfl, hj, hr, hg, hu⟩ := hrel
      have Hj := Lib.hid hj
      have Hu := Lib.hid hu
      clear hj hu
      by_cases hlt' : k < l.length
      · obtain ⟨b, off, rfl, hbl, hc⟩ := Hp.out (by omega)
        obtain ⟨hc1, hc2⟩ := hc k hlt'
        have hb1 : wr.cell? ⟨b, off + k * 2, none⟩ = some (.int .u8 (l.getD k (0, 0)).1) := ((Grew.bel hg).cell (p := ⟨b, off + k * 2, none⟩) hbl).trans hc1
        have hb2 : wr.cell? ⟨b, off + k * 2 + 1, none⟩ = some (.int .u32 (l.getD k (0, 0)).2) := ((Grew.bel hg).cell (p := ⟨b, off + k * 2 + 1, none⟩) hbl).trans hc2
        have hblr : b < wr.heap.size := Nat.lt_of_lt_of_le hbl hg.1.size
        obtain ⟨ho, ha⟩ := hlt k
        have hch := fun W => refcheck_any (l.getD k (0, 0)).1 (l.getD k (0, 0)).2 ho W
        have hsz := fun W => refsize_any (l.getD k (0, 0)).1 (l.getD k (0, 0)).2 ho W
        have hen := encode_succ l k hlt'
        have her : errAt l k = checkN (l.getD k (0, 0)).1 (l.getD k (0, 0)).2 := rfl
        have hln := encode_len (l.take k)
        rw [List.length_take] at hln
        generalize l.getD k (0, 0) = ins at *
        obtain ⟨o, x⟩ := ins
        have Hen := Lib.hid hen
        have Her := Lib.hid her
        have Hc1 := Lib.hid hc1
        have Hc2 := Lib.hid hc2
        clear hen her hc hc1 hc2 hlt
        simp only at *
        go_wp2_with fail
        refine (hch _).mono ?_
        rintro e w1 ⟨rfl, hb⟩
        clear hch
        have hgb := hg.then hb
        have hr1 := own_below hr hb
        by_cases hce : checkN o x = 0
        · rw [hce] at Her ⊢
          have hk1 : w1.cell? ⟨b, off + k * 2, none⟩ = some (.int .u8 o) := (hb.cell (p := ⟨b, off + k * 2, none⟩) hblr).trans hb1
          have hk2 : w1.cell? ⟨b, off + k * 2 + 1, none⟩ = some (.int .u32 x) := (hb.cell (p := ⟨b, off + k * 2 + 1, none⟩) hblr).trans hb2
          have hblr1 : b < w1.heap.size := Nat.lt_of_lt_of_le hblr hb.size
          go_wp2_with ((with_reducible refine wpList_append1 (o := ⟨some 36, .call { callee := .builtin .append, args := #[.tmp 29, .tmp 35], argTypes := #[81, 81] }, _, _, _, none⟩) rfl _ _ 81 rfl 5 i0 (.int .u8 0) 1 1 Try.underlying81 hi hz0 hz1 hz2 ?_ ?_ _ _ _ hr1 _ _ ?_ ?_ ?_ ?_ ?_ ?_ ?_); rfl; decide; rfl; rfl; rfl; (simp [Value.oneCell']); (unfold maxLen; omega); omega; intro g c w2 hr2 hg2 hl2; have hq1 := ((Grew.bel (hgb.trans hg2)).cell (p := ⟨b, off + k * 2, none⟩) hbl).trans Hc1.out; have hq2 := ((Grew.bel (hgb.trans hg2)).cell (p := ⟨b, off + k * 2 + 1, none⟩) hbl).trans Hc2.out)
          refine (hsz _).mono ?_
          rintro e w3 ⟨rfl, hb3⟩
          clear hsz
          have hsz1 : sizeN o x = 1 + widthOf o := by rw [sizeN, if_pos hce]
          rw [hsz1]
          clear hsz1 hce hq1 hq2 hk1 hk2 hb1 hb2
          have hwd := width_le o
          generalize widthOf o = wd at *
          have hr3 := own_below hr2 hb3
          have hg3 := (hgb.trans hg2).then hb3
          clear hr2 hg2 hgb hr1 hr hg
          go_wp2_with fail
          obtain ⟨W0, hW0⟩ : ∃ W0, W0 = w3 := ⟨_, rfl⟩
          go_loopw [5, 8, 10] (fun u y i W => ∃ q : Nat, q ≤ wd ∧ i = .int .i64 (1 + q : Nat) ∧ y = .int .u32 (x / 256 ^ q : Nat) ∧ W.ownsRow 0 5 1 u ((encode (List.take k l)).length + 1 + q) (encN .u8 (encode (List.take k l)) ++ [Value.int IntKind.u8 o] ++ encN .u8 ((le4 x).take q)) ∧ Grew w W (.slice none 0 0) u) (fun _ _ i _ => wd + 1 - (intOf i).toNat)
          case atStart => exact ⟨0, by omega, rfl, by simp, by simpa [encN] using hr3, hg3⟩
          case round =>
            obtain ⟨q, hq, rfl, rfl, hr4, hg4⟩ := hrel
            by_cases hlq : q < wd
            · have hla := le4_at x q (by omega)
              have hdiv : x / 256 ^ (q + 1) = x / 256 ^ q / 256 := by rw [Nat.pow_succ, Nat.div_div_eq_div_mul]
              have hyb : x / 256 ^ q ≤ x := Nat.div_le_self _ _
              generalize x / 256 ^ q = y at hla hdiv hyb
              have hy2 : y < 4294967296 := by omega
              have Hla := Lib.hid hla
              have Hdiv := Lib.hid hdiv
              clear hla hdiv hyb
              go_wp2_with ((with_reducible refine wpList_append1 (o := ⟨some 57, .call { callee := .builtin .append, args := #[.tmp 52, .tmp 56], argTypes := #[81, 81] }, _, _, _, none⟩) rfl _ _ 81 rfl 5 i0 (.int .u8 0) 1 1 Try.underlying81 hi hz0 hz1 hz2 ?_ ?_ _ _ _ hr4 _ _ ?_ ?_ ?_ ?_ ?_ ?_ ?_); rfl; decide; rfl; rfl; rfl; (simp [Value.oneCell']); (unfold maxLen; omega); omega; intro g5 c5 w5 hr5 hg5 hl5)
              go_roundw
              case rel => exact ⟨q + 1, by omega, by go_num, by rw [Hdiv.out]; go_num, by
                rw [Hla.out, encN_append, ← List.append_assoc]
                have e1 : encN .u8 [y % 256] = #[Value.int IntKind.u8 ((y : Int) % 256)].toList := by simp [encN]
                rw [e1]; exact hr5, hg4.trans hg5⟩
              case measure => simp [intOf]; omega
            · have : q = wd := by omega
              subst this
              have hfin : wr.ownsRow 0 5 1 u5 (encode (List.take (k + 1) l)).length (encN .u8 (encode (List.take (k + 1) l))) := by
                have e1 : (encode (List.take (k + 1) l)).length = (encode (List.take k l)).length + 1 + q := by
                  rw [Hen.out, List.length_append, List.length_append, List.length_take, le4_length]; simp; omega
                have e2 : encN .u8 (encode (List.take (k + 1) l)) = encN .u8 (encode (List.take k l)) ++ [Value.int IntKind.u8 o] ++ encN .u8 ((le4 x).take q) := by
                  rw [Hen.out, encN_append, encN_append]; simp [encN]
                rw [e1, e2]; exact hr4
              have Hfin := Lib.hid hfin
              clear hfin
              go_wp2
              go_roundw
              case rel => exact ⟨k + 1, by omega, by go_num, fun j h => by
                by_cases e : j = k
                · subst e; rw [Her.out]
                · exact Hj.out j (by omega), Hfin.out, hg4, fun h => by omega⟩
              case measure => simp [intOf]; omega
        · have hne : ((checkN o x : Int) != 0) = true := by simp; exact hce
          have her : errAt l k ≠ 0 := by rw [Her.out]; exact hce
          have he := encRes_bad (by omega) hlt' her Hj.out
          rw [Her.out] at he
          have He := Lib.hid he
          clear he hce her
          generalize checkN o x = c at *
          go_wp2
          go_ret3
          refine ⟨.slice none 0 0, by rw [He.out]; rfl, by rw [He.out]; exact World.ownsRow_nil _ _ _ _, Grew.nilOf hgb, fun _ => rfl⟩
      · have : k = l.length := by omega
        subst this
        rw [List.take_length] at hr
        have he := encRes_ok (by omega) Hj.out
        have He := Lib.hid he
        clear he
        have hu : encode l = [] → u5 = .slice none 0 0 := fun h => Hu.out (by
          by_cases h0 : 0 < l.length
          · have := encode_nil h0; rw [h] at this; simp at this
          · omega)
        have Hu2 := Lib.hid hu
        clear hu
        go_wp2
        go_ret3
        exact ⟨u5, by rw [He.out]; rfl, by rw [He.out]; exact hr, hg, by rw [He.out]; exact Hu2.out⟩
end Go.Proofs.Ytofkamnmgpkehab
