import Derived.Test.YtdigcbkjlppenaaApartW
/- Lists that were handed out lie apart: numbers. -/
namespace Go.Proofs.Ytdigcbkjlppenaa
open Go.RowKit
theorem run_buildSlice71 (a : Option Addr) (n c : Nat) (w : World) : (Instr.buildSlice 71 1 #[(0, .slice a n c)]).run Try.prog w = .ok (.slice (some ⟨w.heap.size, 0, none⟩) 1 1) (w.alloc (.cells #[.slice a n c] 42)) := by kernel_rfl
theorem info42 : (Try.prog.info? 42).map (fun i => (i.zero, i.size, i.bytes)) = some (some (.slice none 0 0), 1, 24) := by kernel_rfl
noncomputable def mkIv (k i : Nat) : List Value := [.int .i64 (mkI ((k : Int) + 1) i)]
theorem mkIv_len (k i : Nat) : (mkIv k i).length = 1 := rfl
set_option maxRecDepth 100000 in
set_option maxHeartbeats 4000000 in
theorem apartInts_true (lb cap B : Nat) (vs : List Value) (w : World) (hmc : vs.length ≤ cap) (_hcm : cap ≤ maxLen) (hm3 : vs.length ≤ 1000) (hL : Lists B lb vs) (hlen : ∀ (j : Nat) v, vs[j]? = some v → lenV v ≤ 8796093022208)
    (hP : Ph1 w w B 3 1 lb vs mkIv 0 0) : Calls Try.prog 43 #[.slice (some ⟨lb, 0, none⟩) vs.length cap] w fun e w' => e = .returned (.bool true) ∧ Below B w w' := by
  obtain ⟨i5, hi5, z50, z51, z52⟩ := info_parts info3
  obtain ⟨i42, hi42, z410, z411, z412⟩ := info_parts info42
  have hb42 := run_buildSlice42
  have hb71 := run_buildSlice71
  have HL := Lib.hid hL
  have Hlen := Lib.hid hlen
  have HP := Lib.hid hP
  obtain ⟨m, hm⟩ : ∃ m, m = vs.length := ⟨_, rfl⟩
  have hmlt : m ≤ 1000 := by omega
  rw [← hm] at hmc ⊢
  have Hm := Lib.hid hm
  clear hL hlen hP hm hm3
  go_enter Try.func43, Try.ntmps43
  go_wp2_with fail
  go_loopw [3] (fun i wr => ∃ k : Nat, k ≤ m ∧ i = .int .i64 k ∧ Ph1 w wr B 3 1 lb vs mkIv k 0) (fun i _ => m - (intOf i).toNat)
  case atStart => exact ⟨0, by omega, rfl, HP.out⟩
  case round =>
    obtain ⟨k, hk, rfl, hp⟩ := hrel
    by_cases hlt : k < m
    · obtain ⟨v, hv⟩ : ∃ v, vs[k]? = some v := ⟨_, List.getElem?_eq_getElem (by rw [← Hm.out]; exact hlt)⟩
      obtain ⟨xs, hown, _⟩ := hp.row k v hv
      have hn := Hlen.out k v hv
      obtain ⟨a, c, hva, hnc, hcm2, hg⟩ := own_slice hown
      generalize lenV v = n at hva hn hnc hg
      subst hva
      have h0 : (0 : Int) ≤ (k : Int) := by omega
      have h1 : (k : Int) < (m : Int) := by omega
      have Hp := Lib.hid hp
      have Hv := Lib.hid hv
      have Hg := Lib.hid hg
      clear hp hv hg hown
      go_wp2_with fail
      go_loopw [4] (fun i wr => ∃ t : Nat, t ≤ n ∧ i = .int .i64 t ∧ Ph1 w wr B 3 1 lb vs mkIv k t) (fun i _ => n - (intOf i).toNat)
      case atStart => exact ⟨0, by omega, rfl, Hp.out⟩
      case round =>
        clear Hp
        obtain ⟨t, ht, rfl, hp⟩ := hrel
        have hq := hp.ls k _ Hv.out
        by_cases hlt2 : t < n
        · obtain ⟨g, rfl⟩ := Hg.out (by omega)
          have hd := hp.calm HL.out (Below.refl _ _).drew
          obtain ⟨xs, hxo, _, hxt⟩ := hd.row k _ Hv.out
          have hgb := hxo.lt g rfl
          have hc1 : wr.drew.cell? ⟨g, t, none⟩ = some (xs.getD t undef) := by
            rw [hxo.cellAt t (by show t < n * 1; omega), List.getD_eq_getElem?_getD, List.getElem?_eq_getElem (by rw [hxo.1]; show t < n * 1; omega)]; rfl
          have hc2 : wr.drew.frozen? ⟨g, t, none⟩ = false := hxo.frozenAt t
          have g0 : (0 : Int) ≤ (t : Int) := by omega
          have g1 : (t : Int) < (n : Int) := by omega
          have hw1 : IntKind.i64.wrap ((k : Int) + 1) = (k : Int) + 1 := IntWalk.i64_in _ (by omega)
          have hm49 := fun W => (markInts_any ((k : Int) + 1) t W).mono (fun e w' (h : _ ∧ _) => And.intro h.1 h.2.symm)
          have hst := hxo.stored t (.int .i64 (mkI ((k : Int) + 1) t))
          have hmx : Try.prog.follows .mixedOrders = true := by kernel_rfl
          generalize hmb : mkI ((k : Int) + 1) t = x at hm49 hst
          have Hmb := Lib.hid hmb
          have Hm49 := Lib.hid hm49
          have Hst := Lib.hid hst
          have Hxt := Lib.hid (hxt rfl)
          have Hd := Lib.hid hd
          have Hlx := Lib.hid hxo.1
          clear hmb hm49 hst hxt hp hxo hd
          go_wp2_with fail
          refine wp_region_still_tail 10 hmx (by kernel_rfl) ?_
          simp only [List.take_succ_cons, List.take_zero, List.drop_succ_cons, List.drop_zero]
          repeat still_step
          still_call (Hm49.out _)
          repeat still_step
          refine wpStill_nil ?_
          change wpList _ _ _ _ _ wr.drew
          clear hq hw1
          generalize wr.drew = w2 at *
          go_wp2
          go_roundw
          case rel =>
            refine ⟨t + 1, by omega, by go_num, Hd.out.step HL.out Hv.out rfl Hst.out.2 Hst.out.1 fun q hq => ?_⟩
            have hlx := Hlx.out
            rw [mcells_succ]
            by_cases e : q = t
            · subst e
              rw [List.getElem?_set_self (by rw [hlx]; show q < n * 1; omega), List.getElem?_append_right (by rw [mcells_length mkIv_len]; omega), mcells_length mkIv_len, Nat.mul_one, Nat.sub_self]
              show _ = some (Value.int .i64 (mkI ((k : Int) + 1) q))
              rw [Hmb.out]
            · rw [List.getElem?_set_ne (fun h => e h.symm), List.getElem?_append_left (by rw [mcells_length mkIv_len]; omega)]
              exact Hxt.out q (by omega)
          case measure => simp [intOf]; omega
        · obtain rfl : t = n := by omega
          go_wp2_with fail
          go_roundw
          case rel => exact ⟨k + 1, by omega, by go_num, hp.next mkIv_len Hv.out⟩
          case measure => simp [intOf]; omega
    · obtain rfl : m = k := by omega
      rw [Hm.out] at hp
      obtain ⟨tag, h2⟩ := hp.done (te := 42) HL.out
      clear hp
      go_wp2_with fail
      go_loopw [5, 6] (fun gs i wr => ∃ (k : Nat) (us : List Value) (tag : Nat → Nat), k ≤ m ∧ i = .int .i64 k ∧ us.length = k ∧ Ph2 w wr B 3 1 42 lb us.length vs us gs mkIv tag) (fun _ i _ => m - (intOf i).toNat)
      case atStart => exact ⟨0, [], tag, by omega, rfl, rfl, h2⟩
      case round =>
        clear h2
        obtain ⟨k, us, tag, hk, rfl, hul, h2⟩ := hrel
        have Hul := Lib.hid hul
        clear hul
        by_cases hlt : k < m
        · obtain ⟨v, hv⟩ : ∃ v, vs[us.length]? = some v := ⟨_, List.getElem?_eq_getElem (by rw [← Hm.out, Hul.out]; exact hlt)⟩
          have hn := Hlen.out _ v hv
          obtain ⟨h3, hc⟩ := h2.start hv
          obtain ⟨a, c, hva, hnc, hcm2, hg⟩ := own_slice (h2.row _ _ hv (Nat.le_refl _))
          obtain ⟨n, hnv⟩ : ∃ n, n = lenV v := ⟨_, rfl⟩
          rw [← hnv] at hn hnc hg hva
          subst hva
          have hq0 := h3.ls _ _ hv
          rw [Hul.out] at hq0
          have h0 : (0 : Int) ≤ (k : Int) := by omega
          have h1 : (k : Int) < (m : Int) := by omega
          have H3 := Lib.hid h3
          have Hc := Lib.hid hc
          have Hv := Lib.hid hv
          have Hg := Lib.hid hg
          clear h2 h3 hc hv hg hnv
          go_wp2_with fail
          go_loopw [7, 8] (fun u i wr => ∃ (t : Nat) (tag : Nat → Nat), t ≤ 64 ∧ i = .int .i64 t ∧ Ph2 w wr B 3 1 42 lb (us.length + 1) vs us u5 mkIv tag ∧ Cur wr B 3 1 (.slice a n c) u mkIv tag us.length t) (fun _ i _ => 64 - (intOf i).toNat)
          case atStart => exact ⟨0, tag, by omega, rfl, H3.out, Hc.out⟩
          case round =>
            clear H3 Hc hq0
            obtain ⟨t, tag, ht, rfl, h3, hc⟩ := hrel
            have hq := h3.ls _ _ Hv.out
            rw [Hul.out] at hq
            by_cases hlt2 : t < 64
            · have hm49 := markInts_any ((k : Int) + 1) ((n : Int) + (t : Int)) wr
              generalize hmb : mkI ((k : Int) + 1) ((n : Int) + (t : Int)) = x at hm49
              have hown := own_base hc.own
              have Hmb := Lib.hid hmb
              have Hm49 := Lib.hid hm49
              have H3 := Lib.hid h3
              have Hc := Lib.hid hc
              have hn64 : (n : Int) + (t : Int) ≤ 9223372036854775807 := by omega
              clear hmb hm49 h3 hc
              go_wp2_with (first | (go_at_call 56; refine Hm49.out.mono ?_; rintro e w' ⟨rfl, rfl⟩) | ((with_reducible refine wpList_append1K (o := ⟨some 63, .call { callee := .builtin .append, args := #[.tmp 51, .tmp 62], argTypes := #[42, 42] }, _, _, _, none⟩) rfl _ _ 42 rfl 3 i5 (.int .i64 0) 1 8 Try.underlying42 hi5 z50 z51 z52 ?_ ?_ _ _ _ hown _ _ ?_ ?_ ?_ ?_ ?_ ?_ ?_); rfl; decide; rfl; rfl; rfl; (simp [Value.oneCell']); (show n + t + 1 ≤ maxLen; unfold maxLen; omega); (show (n + t + 1) * 8 ≤ 140737488355328; omega); intro u2 w2 o2 g2 k2))
              have hfin : ∃ tag', Ph2 w w2 B 3 1 42 lb (us.length + 1) vs us u5 mkIv tag' ∧ Cur w2 B 3 1 (.slice a n c) u2 mkIv tag' us.length (t + 1) := by
                refine H3.out.grown mkIv_len HL.out.base Hc.out g2 ?_ k2
                have e : mkIv us.length (n + t) = [.int .i64 x] := by
                  show [Value.int .i64 (mkI ((us.length : Int) + 1) ((n + t : Nat) : Int))] = _
                  rw [Hul.out, Int.natCast_add, Hmb.out]
                show w2.ownsRow 0 3 1 u2 (n + t + 1) (mcells mkIv us.length (n + t) ++ mkIv us.length (n + t))
                rw [e]; exact o2
              obtain ⟨tag', h4, h5⟩ := hfin
              have H4 := Lib.hid h4
              have H5 := Lib.hid h5
              clear h4 h5 o2 g2 k2 hown hq
              go_roundw
              case rel => exact ⟨t + 1, tag', by omega, by go_num, H4.out, H5.out⟩
              case measure => simp [intOf]; omega
            · obtain rfl : t = 64 := by omega
              obtain ⟨a2, c2, hu2, -, -, -⟩ := own_slice hc.own
              generalize lenV (Value.slice a n c) + 64 = n2 at hu2
              subst hu2
              have hown := own_base h3.grow
              rw [Hul.out] at hown
              have H3 := Lib.hid h3
              have Hc := Lib.hid hc
              clear h3 hc hq
              go_wp2_with ((with_reducible refine wpList_append1 (o := ⟨some 67, .call { callee := .builtin .append, args := #[.tmp 64, .tmp 66], argTypes := #[71, 71] }, _, _, _, none⟩) rfl _ _ 71 rfl 42 i42 (.slice none 0 0) 1 24 Try.underlying71 hi42 z410 z411 z412 ?_ ?_ _ _ _ hown _ _ ?_ ?_ ?_ ?_ ?_ ?_ ?_); rfl; decide; rfl; rfl; rfl; (simp [Value.oneCell']); (unfold maxLen; omega); omega; intro g5 c5 w5 o5 gr5 hl5)
              have hfin : ∃ tag', Ph2 w w5 B 3 1 42 lb (us ++ [Value.slice a2 n2 c2]).length vs (us ++ [Value.slice a2 n2 c2]) (.slice (some ⟨g5, 0, none⟩) (k + 1) c5) mkIv tag' :=
                H3.out.laid HL.out.base Hv.out Hc.out gr5 (by rw [Hul.out]; exact o5)
              obtain ⟨tag', h4⟩ := hfin
              have H4 := Lib.hid h4
              clear h4 o5 gr5 hown
              go_roundw
              case rel => exact ⟨k + 1, us ++ [Value.slice a2 n2 c2], tag', by omega, by go_num, by rw [List.length_append, Hul.out]; rfl, H4.out⟩
              case measure => simp [intOf]; omega
        · obtain rfl : m = k := by omega
          have h3 := h2.read mkIv_len (by rw [Hul.out, Hm.out])
          have hbel := h2.below
          have Hg := Lib.hid (h3.gl)
          clear h2
          go_wp2_with fail
          go_loopw [9] (fun i wr => ∃ k : Nat, k ≤ m ∧ i = .int .i64 k ∧ Ph3 wr B lb 1 vs us u5 mkIv ∧ Below B w wr) (fun i _ => m - (intOf i).toNat)
          case atStart => exact ⟨0, by omega, rfl, h3, hbel⟩
          case round =>
            clear h3 hbel Hg
            obtain ⟨k, hk, rfl, h3, hbel⟩ := hrel
            by_cases hlt : k < m
            · obtain ⟨v, hv⟩ : ∃ v, vs[k]? = some v := ⟨_, List.getElem?_eq_getElem (by rw [← Hm.out]; exact hlt)⟩
              obtain ⟨u, hu⟩ : ∃ u, us[k]? = some u := ⟨_, List.getElem?_eq_getElem (by rw [Hul.out]; exact hlt)⟩
              have hn := Hlen.out _ v hv
              obtain ⟨gg, gc, hge, hgl, hgm, hgc⟩ := h3.gl (by rw [← Hm.out]; omega)
              rw [← Hm.out] at hge
              subst hge
              obtain ⟨ub, uc, rfl, hub, -⟩ := h3.us k u v hu hv
              obtain ⟨xs0, hrow0, -⟩ := HP.out.row k v hv
              obtain ⟨a, c, hva, hnc, hcm2, hga⟩ := own_slice hrow0
              obtain ⟨n, hnv⟩ : ∃ n, n = lenV v := ⟨_, rfl⟩
              rw [← hnv] at hn hnc hga hva hu
              subst hva
              have h0 : (0 : Int) ≤ (k : Int) := by omega
              have h1 : (k : Int) < (m : Int) := by omega
              have hq0 := hgc k _ hu
              have H3 := Lib.hid h3
              have Hv := Lib.hid hv
              have Hu := Lib.hid hu
              have Hga := Lib.hid hga
              have Hgc := Lib.hid hgc
              clear h3 hv hu hga hnv hgc hrow0
              go_wp2_with fail
              go_loopw [10] (fun i wr => ∃ t : Nat, t ≤ n + 64 ∧ i = .int .i64 t ∧ Ph3 wr B lb 1 vs us (.slice (some ⟨gg, 0, none⟩) m gc) mkIv ∧ Below B w wr) (fun i _ => n + 64 - (intOf i).toNat)
              case atStart => exact ⟨0, by omega, rfl, H3.out, hbel⟩
              case round =>
                clear hbel H3 hgl hgm hub Hgc hq0
                obtain ⟨t, ht, rfl, h3, hbel⟩ := hrel
                obtain ⟨gg', gc', hge, hgl, hgm, hgc⟩ := h3.gl (by rw [← Hm.out]; omega)
                cases hge
                have hq1 := hgc k _ Hu.out
                have hq2 := h3.ls k _ Hv.out
                by_cases hlt2 : t < n + 64
                · obtain ⟨ub', uc', hue, hub, huc⟩ := h3.us k _ _ Hu.out Hv.out
                  cases hue
                  have hq3 : wr.cell? ⟨ub, t, none⟩ = some (.int .i64 (mkI ((k : Int) + 1) t)) := by
                    have := huc t 0 hlt2 Nat.one_pos
                    simpa [mkIv] using this
                  have hm49 := markInts_any ((k : Int) + 1) t wr
                  have g0 : (0 : Int) ≤ (t : Int) := by omega
                  have g1 : (t : Int) < (n : Int) + 64 := by omega
                  have g2 : (k : Int) < (k : Int) + 1 := by omega
                  by_cases hlt3 : t < n
                  · obtain ⟨g, rfl⟩ := Hga.out (by omega)
                    have hq4 : wr.cell? ⟨g, t, none⟩ = some (.int .i64 (mkI ((k : Int) + 1) t)) := by
                      have := (h3.vs k _ Hv.out g rfl).2 t 0 hlt3 Nat.one_pos
                      simpa [mkIv] using this
                    generalize mkI ((k : Int) + 1) t = x at *
                    have Hm49 := Lib.hid hm49
                    have H3 := Lib.hid h3
                    have hd : decide ((t : Int) < (n : Int)) = true := decide_eq_true (by omega)
                    clear hm49 h3 huc hgc
                    go_wp2_with (go_at_call 56; refine Hm49.out.mono ?_; rintro e w' ⟨rfl, rfl⟩)
                    go_roundw
                    case rel => exact ⟨t + 1, by omega, by go_num, H3.out, hbel⟩
                    case measure => simp [intOf]; omega
                  · generalize mkI ((k : Int) + 1) t = x at *
                    have Hm49 := Lib.hid hm49
                    have H3 := Lib.hid h3
                    have hd : decide ((t : Int) < (n : Int)) = false := decide_eq_false (by omega)
                    clear hm49 h3 huc hgc
                    go_wp2_with (go_at_call 56; refine Hm49.out.mono ?_; rintro e w' ⟨rfl, rfl⟩)
                    go_roundw
                    case rel => exact ⟨t + 1, by omega, by go_num, H3.out, hbel⟩
                    case measure => simp [intOf]; omega
                · obtain rfl : t = n + 64 := by omega
                  have H3 := Lib.hid h3
                  clear h3 hgc
                  go_wp2_with fail
                  go_roundw
                  case rel => exact ⟨k + 1, by omega, by go_num, H3.out, hbel⟩
                  case measure => simp [intOf]; omega
            · obtain rfl : m = k := by omega
              clear h3
              go_wp2
              go_ret
              exact ⟨rfl, hbel⟩
end Go.Proofs.Ytdigcbkjlppenaa
