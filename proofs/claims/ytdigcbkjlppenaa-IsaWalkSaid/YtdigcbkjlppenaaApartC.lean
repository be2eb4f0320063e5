import Derived.Test.YtdigcbkjlppenaaApartW
/- Lists that were handed out lie apart: instructions. -/
namespace Go.Proofs.Ytdigcbkjlppenaa
open Go.RowKit
theorem run_buildSlice57 (a : Option Addr) (n c : Nat) (w : World) : (Instr.buildSlice 57 1 #[(0, .slice a n c)]).run Try.prog w = .ok (.slice (some ⟨w.heap.size, 0, none⟩) 1 1) (w.alloc (.cells #[.slice a n c] 43)) := by kernel_rfl
theorem info43 : (Try.prog.info? 43).map (fun i => (i.zero, i.size, i.bytes)) = some (some (.slice none 0 0), 1, 24) := by kernel_rfl
noncomputable def mkCv (k i : Nat) : List Value := [.int .u8 (mkC ((k : Int) + 1) i).1, .int .u32 (mkC ((k : Int) + 1) i).2]
theorem mkCv_len (k i : Nat) : (mkCv k i).length = 2 := rfl
/-- What lies in a cell, if there is one. -/
def tgt (w : World) (g j : Nat) : Value := (w.cell? ⟨g, j, none⟩).getD undef
theorem tgt_is {w : World} {g j : Nat} {v : Value} (h : w.cell? ⟨g, j, none⟩ = some v) : w.cell? ⟨g, j, none⟩ = some (tgt w g j) := by unfold tgt; rw [h]; rfl
theorem tgt_set (w : World) (g j i : Nat) (v : Value) {u : Value} (h : w.cell? ⟨g, j, none⟩ = some u) : (w.setCell ⟨g, i, none⟩ v).cell? ⟨g, j, none⟩ = some (tgt (w.setCell ⟨g, i, none⟩ v) g j) := by
  obtain ⟨v', hv⟩ := cell?_setCell_some (w := w) (p := ⟨g, i, none⟩) (x := v) (q := ⟨g, j, none⟩) (v := u) h
  exact tgt_is hv
theorem cells_new1 (w : World) (a b : Value) (t : TypeId) : (w.alloc (.cells #[a, b] t)).cell? ⟨w.heap.size, 0, none⟩ = some a ∧ (w.alloc (.cells #[a, b] t)).cell? ⟨w.heap.size, 1, none⟩ = some b := ⟨by simp [go_sem], by simp [go_sem]⟩
set_option maxRecDepth 100000 in
set_option maxHeartbeats 4000000 in
theorem apartCode_true (lb cap B : Nat) (vs : List Value) (w : World) (hmc : vs.length ≤ cap) (_hcm : cap ≤ maxLen) (hm3 : vs.length ≤ 1000) (hL : Lists B lb vs) (hlen : ∀ (j : Nat) v, vs[j]? = some v → lenV v ≤ 8796093022208)
    (hP : Ph1 w w B 36 2 lb vs mkCv 0 0) : Calls Try.prog 32 #[.slice (some ⟨lb, 0, none⟩) vs.length cap] w fun e w' => e = .returned (.bool true) ∧ Below B w w' := by
  obtain ⟨i5, hi5, z50, z51, z52⟩ := info_parts info36'
  obtain ⟨i43, hi43, z410, z411, z412⟩ := info_parts info43
  have hb43 := run_buildSlice43'
  have hb57 := run_buildSlice57
  have HL := Lib.hid hL
  have Hlen := Lib.hid hlen
  have HP := Lib.hid hP
  obtain ⟨m, hm⟩ : ∃ m, m = vs.length := ⟨_, rfl⟩
  have hmlt : m ≤ 1000 := by omega
  rw [← hm] at hmc ⊢
  have Hm := Lib.hid hm
  clear hL hlen hP hm hm3
  go_enter Try.func32, Try.ntmps32
  go_wp2_with fail
  go_loopw [3] (fun i wr => ∃ k : Nat, k ≤ m ∧ i = .int .i64 k ∧ Ph1 w wr B 36 2 lb vs mkCv k 0) (fun i _ => m - (intOf i).toNat)
  case atStart => exact ⟨0, by omega, rfl, HP.out⟩
  case round =>
    obtain ⟨k, hk, rfl, hp⟩ := hrel
    by_cases hlt : k < m
    · obtain ⟨v, hv⟩ : ∃ v, vs[k]? = some v := ⟨_, List.getElem?_eq_getElem (by rw [← Hm.out]; exact hlt)⟩
      obtain ⟨xs, hown, _⟩ := hp.row k v hv
      have hn := Hlen.out k v hv
      obtain ⟨a, c, hva, hnc, hcm2, hg⟩ := own_slice hown
      generalize lenV v = n at hva hn hnc hg
      subst hva
      have h0 : (0 : Int) ≤ (k : Int) := by omega
      have h1 : (k : Int) < (m : Int) := by omega
      have Hp := Lib.hid hp
      have Hv := Lib.hid hv
      have Hg := Lib.hid hg
      clear hp hv hg hown
      go_wp2_with fail
      go_loopw [4] (fun i wr => ∃ t : Nat, t ≤ n ∧ i = .int .i64 t ∧ Ph1 w wr B 36 2 lb vs mkCv k t) (fun i _ => n - (intOf i).toNat)
      case atStart => exact ⟨0, by omega, rfl, Hp.out⟩
      case round =>
        clear Hp
        obtain ⟨t, ht, rfl, hp⟩ := hrel
        have hq := hp.ls k _ Hv.out
        by_cases hlt2 : t < n
        · obtain ⟨g, rfl⟩ := Hg.out (by omega)
          obtain ⟨xs, hxo, -, -⟩ := hp.row k _ Hv.out
          have hgb := hxo.lt g rfl
          have hxc : ∀ j, j < n * 2 → wr.cell? ⟨g, j, none⟩ = some (tgt wr g j) := fun j hj => by
            refine tgt_is (v := xs.getD j undef) ?_
            rw [hxo.cellAt j hj, List.getD_eq_getElem?_getD, List.getElem?_eq_getElem (by rw [hxo.1]; exact hj)]; rfl
          have hxf : ∀ j, wr.frozen? ⟨g, j, none⟩ = false := fun j => hxo.frozenAt j
          have g0 : (0 : Int) ≤ (t : Int) := by omega
          have g1 : (t : Int) < (n : Int) := by omega
          have hw1 : IntKind.i64.wrap ((k : Int) + 1) = (k : Int) + 1 := IntWalk.i64_in _ (by omega)
          have hm53 := fun W => markCode_any ((k : Int) + 1) t W
          have hgl : g ≠ lb := fun e => HL.out.notl k _ Hv.out (by rw [← e]; rfl)
          have hlbl := hp.lbl
          generalize hmb : mkC ((k : Int) + 1) t = x at hm53
          obtain ⟨o, x⟩ := x
          simp only at hm53
          have keep : ∀ W W' : World, Below W.heap.size W W' → (W.cell? ⟨lb, k, none⟩ = some (.slice (some ⟨g, 0, none⟩) n c) ∧ W.cell? ⟨g, t * 2, none⟩ = some (tgt W g (t * 2)) ∧ W.cell? ⟨g, t * 2 + 1, none⟩ = some (tgt W g (t * 2 + 1)) ∧ W.frozen? ⟨g, t * 2, none⟩ = false ∧ W.frozen? ⟨g, t * 2 + 1, none⟩ = false) →
              (W'.cell? ⟨lb, k, none⟩ = some (.slice (some ⟨g, 0, none⟩) n c) ∧ W'.cell? ⟨g, t * 2, none⟩ = some (tgt W' g (t * 2)) ∧ W'.cell? ⟨g, t * 2 + 1, none⟩ = some (tgt W' g (t * 2 + 1)) ∧ W'.frozen? ⟨g, t * 2, none⟩ = false ∧ W'.frozen? ⟨g, t * 2 + 1, none⟩ = false) := fun W W' hb ⟨e1, e2, e3, e4, e5⟩ => by
            have hl1 := World.block_lt_of_cell? _ _ e1
            have hl2 := World.block_lt_of_cell? _ _ e2
            exact ⟨(hb.cell (p := ⟨lb, k, none⟩) hl1).trans e1, tgt_is ((hb.cell (p := ⟨g, t * 2, none⟩) hl2).trans e2), tgt_is ((hb.cell (p := ⟨g, t * 2 + 1, none⟩) hl2).trans e3), (hb.frozen (p := ⟨g, t * 2, none⟩) hl2).trans e4, (hb.frozen (p := ⟨g, t * 2 + 1, none⟩) hl2).trans e5⟩
          have keepS : ∀ W : World, (W.cell? ⟨lb, k, none⟩ = some (.slice (some ⟨g, 0, none⟩) n c) ∧ W.cell? ⟨g, t * 2, none⟩ = some (tgt W g (t * 2)) ∧ W.cell? ⟨g, t * 2 + 1, none⟩ = some (tgt W g (t * 2 + 1)) ∧ W.frozen? ⟨g, t * 2, none⟩ = false ∧ W.frozen? ⟨g, t * 2 + 1, none⟩ = false) →
              (((W.setCell ⟨g, t * 2, none⟩ (.int .u8 o)).setCell ⟨g, t * 2 + 1, none⟩ (.int .u32 x)).cell? ⟨lb, k, none⟩ = some (.slice (some ⟨g, 0, none⟩) n c) ∧ ((W.setCell ⟨g, t * 2, none⟩ (.int .u8 o)).setCell ⟨g, t * 2 + 1, none⟩ (.int .u32 x)).cell? ⟨g, t * 2, none⟩ = some (tgt ((W.setCell ⟨g, t * 2, none⟩ (.int .u8 o)).setCell ⟨g, t * 2 + 1, none⟩ (.int .u32 x)) g (t * 2)) ∧ ((W.setCell ⟨g, t * 2, none⟩ (.int .u8 o)).setCell ⟨g, t * 2 + 1, none⟩ (.int .u32 x)).cell? ⟨g, t * 2 + 1, none⟩ = some (tgt ((W.setCell ⟨g, t * 2, none⟩ (.int .u8 o)).setCell ⟨g, t * 2 + 1, none⟩ (.int .u32 x)) g (t * 2 + 1)) ∧ ((W.setCell ⟨g, t * 2, none⟩ (.int .u8 o)).setCell ⟨g, t * 2 + 1, none⟩ (.int .u32 x)).frozen? ⟨g, t * 2, none⟩ = false ∧ ((W.setCell ⟨g, t * 2, none⟩ (.int .u8 o)).setCell ⟨g, t * 2 + 1, none⟩ (.int .u32 x)).frozen? ⟨g, t * 2 + 1, none⟩ = false) := fun W ⟨e1, e2, e3, e4, e5⟩ =>
            ⟨(World.cell?_of_block (Below.heap_setCell _ _ _ _ (fun e => hgl e.symm))).trans ((World.cell?_of_block (Below.heap_setCell _ _ _ _ (fun e => hgl e.symm))).trans e1), tgt_set _ _ _ _ _ (tgt_set _ _ _ _ _ e2), tgt_set _ _ _ _ _ (tgt_set _ _ _ _ _ e3), by rw [World.frozen?_setCell, World.frozen?_setCell]; exact e4, by rw [World.frozen?_setCell, World.frozen?_setCell]; exact e5⟩
          have h00 := keep wr wr.drew (Below.refl _ _).drew ⟨hq, hxc _ (by omega), hxc _ (by omega), hxf _, hxf _⟩
          have hmm := fun W hS => (hm53 W).mono fun e w' (hh : _ ∧ _) => And.intro hh (keep W w' hh.2 hS)
          have Hmb := Lib.hid hmb
          have Hmm := Lib.hid hmm
          have H00 := Lib.hid h00
          have HkS := Lib.hid keepS
          have Hp := Lib.hid hp
          clear hmb hm53 hmm keep keepS h00 hxc hxf hxo hp
          go_wp2_with fail
          clear hq
          go_region_held3 (fun w' => w'.cell? ⟨lb, k, none⟩ = some (.slice (some ⟨g, 0, none⟩) n c) ∧ w'.cell? ⟨g, t * 2, none⟩ = some (tgt w' g (t * 2)) ∧ w'.cell? ⟨g, t * 2 + 1, none⟩ = some (tgt w' g (t * 2 + 1)) ∧ w'.frozen? ⟨g, t * 2, none⟩ = false ∧ w'.frozen? ⟨g, t * 2 + 1, none⟩ = false)
            (first | assumption | exact H00.out | exact HkS.out _ (by assumption))
            (first | (go_at_call 53; refine (Hmm.out _ ?_).mono ?_; assumption; rintro e w' ⟨⟨rfl, hbm⟩, hS⟩))
          have hp2 := Hp.out.calm HL.out (Bel.tr ((Below.refl wr.heap.size wr).drew) hbm)
          go_wp2
          have hfin : Ph1 w ((w'.setCell ⟨g, t * 2, none⟩ (.int .u8 o)).setCell ⟨g, t * 2 + 1, none⟩ (.int .u32 x)) B 36 2 lb vs mkCv k (t + 1) := by
            obtain ⟨xs, hxo, -, hxt⟩ := hp2.row k _ Hv.out
            have s1 := hxo.stored (t * 2) (.int .u8 o)
            have s2 := s1.1.stored (t * 2 + 1) (.int .u32 x)
            refine hp2.step HL.out Hv.out rfl (grownBy_trans s1.2 s2.2 (fun q e => .inl e)) s2.1 fun q hq => ?_
            have hlx : xs.length = n * 2 := hxo.1
            have hml : (mcells mkCv k t).length = t * 2 := mcells_length mkCv_len k t
            have hmk : mkCv k t = [.int .u8 o, .int .u32 x] := by
              show [Value.int .u8 (mkC ((k : Int) + 1) t).1, Value.int .u32 (mkC ((k : Int) + 1) t).2] = _
              rw [Hmb.out]
            rw [mcells_succ, hmk]
            by_cases e : q = t * 2 + 1
            · subst e
              rw [List.getElem?_set_self (by rw [List.length_set, hlx]; omega), List.getElem?_append_right (by omega), hml, Nat.add_sub_cancel_left]; rfl
            · by_cases e2 : q = t * 2
              · subst e2
                rw [List.getElem?_set_ne (fun h => e h.symm), List.getElem?_set_self (by rw [hlx]; omega), List.getElem?_append_right (by omega), hml, Nat.sub_self]; rfl
              · rw [List.getElem?_set_ne (fun h => e h.symm), List.getElem?_set_ne (fun h => e2 h.symm), List.getElem?_append_left (by omega)]
                exact hxt rfl q (by omega)
          have Hfin := Lib.hid hfin
          clear hfin hp2
          go_roundw
          case rel => exact ⟨t + 1, by omega, by go_num, Hfin.out⟩
          case measure => simp [intOf]; omega
        · obtain rfl : t = n := by omega
          go_wp2_with fail
          go_roundw
          case rel => exact ⟨k + 1, by omega, by go_num, hp.next mkCv_len Hv.out⟩
          case measure => simp [intOf]; omega
    · obtain rfl : m = k := by omega
      rw [Hm.out] at hp
      obtain ⟨tag, h2⟩ := hp.done (te := 43) HL.out
      clear hp
      go_wp2_with fail
      go_loopw [5, 6] (fun gs i wr => ∃ (k : Nat) (us : List Value) (tag : Nat → Nat), k ≤ m ∧ i = .int .i64 k ∧ us.length = k ∧ Ph2 w wr B 36 2 43 lb us.length vs us gs mkCv tag) (fun _ i _ => m - (intOf i).toNat)
      case atStart => exact ⟨0, [], tag, by omega, rfl, rfl, h2⟩
      case round =>
        clear h2
        obtain ⟨k, us, tag, hk, rfl, hul, h2⟩ := hrel
        have Hul := Lib.hid hul
        clear hul
        by_cases hlt : k < m
        · obtain ⟨v, hv⟩ : ∃ v, vs[us.length]? = some v := ⟨_, List.getElem?_eq_getElem (by rw [← Hm.out, Hul.out]; exact hlt)⟩
          have hn := Hlen.out _ v hv
          obtain ⟨h3, hc⟩ := h2.start hv
          obtain ⟨a, c, hva, hnc, hcm2, hg⟩ := own_slice (h2.row _ _ hv (Nat.le_refl _))
          obtain ⟨n, hnv⟩ : ∃ n, n = lenV v := ⟨_, rfl⟩
          rw [← hnv] at hn hnc hg hva
          subst hva
          have hq0 := h3.ls _ _ hv
          rw [Hul.out] at hq0
          have h0 : (0 : Int) ≤ (k : Int) := by omega
          have h1 : (k : Int) < (m : Int) := by omega
          have H3 := Lib.hid h3
          have Hc := Lib.hid hc
          have Hv := Lib.hid hv
          have Hg := Lib.hid hg
          clear h2 h3 hc hv hg hnv
          go_wp2_with fail
          go_loopw [7, 8] (fun u i wr => ∃ (t : Nat) (tag : Nat → Nat), t ≤ 64 ∧ i = .int .i64 t ∧ Ph2 w wr B 36 2 43 lb (us.length + 1) vs us u5 mkCv tag ∧ Cur wr B 36 2 (.slice a n c) u mkCv tag us.length t) (fun _ i _ => 64 - (intOf i).toNat)
          case atStart => exact ⟨0, tag, by omega, rfl, H3.out, Hc.out⟩
          case round =>
            clear H3 Hc hq0
            obtain ⟨t, tag, ht, rfl, h3, hc⟩ := hrel
            have hq := h3.ls _ _ Hv.out
            rw [Hul.out] at hq
            by_cases hlt2 : t < 64
            · have hm53 := markCode_any ((k : Int) + 1) ((n : Int) + (t : Int)) wr
              generalize hmb : mkC ((k : Int) + 1) ((n : Int) + (t : Int)) = x at hm53
              obtain ⟨o, x⟩ := x
              simp only at hm53
              have Hmb := Lib.hid hmb
              have Hm53 := Lib.hid hm53
              have H3 := Lib.hid h3
              have Hc := Lib.hid hc
              have hn64 : (n : Int) + (t : Int) ≤ 9223372036854775807 := by omega
              clear hmb hm53 h3 hc
              go_wp2_with fail
              refine Hm53.out.mono ?_
              rintro e w1 ⟨rfl, hbm⟩
              have H3 := Lib.hid (H3.out.calm HL.out.base hbm)
              have Hc := Lib.hid (Hc.out.calm hbm)
              have hown := own_base Hc.out.own
              clear hbm hq Hm53
              go_wp2_with ((with_reducible refine wpList_append1K (o := ⟨some 63, .call { callee := .builtin .append, args := #[.tmp 51, .tmp 62], argTypes := #[43, 43] }, _, _, _, none⟩) rfl _ _ 43 rfl 36 i5 (.agg #[.int .u8 0, .int .u32 0]) 2 8 Try.underlying43 hi5 z50 z51 z52 ?_ ?_ _ _ _ hown _ _ ?_ ?_ ?_ ?_ ?_ ?_ ?_); rfl; decide; rfl; rfl; rfl; (simp [Value.oneCell']); (show n + t + 1 ≤ maxLen; unfold maxLen; omega); (show (n + t + 1) * 8 ≤ 140737488355328; omega); intro u2 w2 o2 g2 k2)
              have hfin : ∃ tag', Ph2 w w2 B 36 2 43 lb (us.length + 1) vs us u5 mkCv tag' ∧ Cur w2 B 36 2 (.slice a n c) u2 mkCv tag' us.length (t + 1) := by
                refine H3.out.grown mkCv_len HL.out.base Hc.out g2 ?_ k2
                have e : mkCv us.length (n + t) = [.int .u8 o, .int .u32 x] := by
                  show [Value.int .u8 (mkC ((us.length : Int) + 1) ((n + t : Nat) : Int)).1, Value.int .u32 (mkC ((us.length : Int) + 1) ((n + t : Nat) : Int)).2] = _
                  rw [Hul.out, Int.natCast_add, Hmb.out]
                show w2.ownsRow 0 36 2 u2 (n + t + 1) (mcells mkCv us.length (n + t) ++ mkCv us.length (n + t))
                rw [e]; exact o2
              obtain ⟨tag', h4, h5⟩ := hfin
              have H4 := Lib.hid h4
              have H5 := Lib.hid h5
              clear h4 h5 o2 g2 k2 hown
              go_roundw
              case rel => exact ⟨t + 1, tag', by omega, by go_num, H4.out, H5.out⟩
              case measure => simp [intOf]; omega
            · obtain rfl : t = 64 := by omega
              obtain ⟨a2, c2, hu2, -, -, -⟩ := own_slice hc.own
              generalize lenV (Value.slice a n c) + 64 = n2 at hu2
              subst hu2
              have hown := own_base h3.grow
              rw [Hul.out] at hown
              have H3 := Lib.hid h3
              have Hc := Lib.hid hc
              clear h3 hc hq
              go_wp2_with ((with_reducible refine wpList_append1 (o := ⟨some 67, .call { callee := .builtin .append, args := #[.tmp 64, .tmp 66], argTypes := #[57, 57] }, _, _, _, none⟩) rfl _ _ 57 rfl 43 i43 (.slice none 0 0) 1 24 Try.underlying57 hi43 z410 z411 z412 ?_ ?_ _ _ _ hown _ _ ?_ ?_ ?_ ?_ ?_ ?_ ?_); rfl; decide; rfl; rfl; rfl; (simp [Value.oneCell']); (unfold maxLen; omega); omega; intro g5 c5 w5 o5 gr5 hl5)
              have hfin : ∃ tag', Ph2 w w5 B 36 2 43 lb (us ++ [Value.slice a2 n2 c2]).length vs (us ++ [Value.slice a2 n2 c2]) (.slice (some ⟨g5, 0, none⟩) (k + 1) c5) mkCv tag' :=
                H3.out.laid HL.out.base Hv.out Hc.out gr5 (by rw [Hul.out]; exact o5)
              obtain ⟨tag', h4⟩ := hfin
              have H4 := Lib.hid h4
              clear h4 o5 gr5 hown
              go_roundw
              case rel => exact ⟨k + 1, us ++ [Value.slice a2 n2 c2], tag', by omega, by go_num, by rw [List.length_append, Hul.out]; rfl, H4.out⟩
              case measure => simp [intOf]; omega
        · obtain rfl : m = k := by omega
          have h3 := h2.read mkCv_len (by rw [Hul.out, Hm.out])
          have hbel := h2.below
          have Hg := Lib.hid (h3.gl)
          clear h2
          go_wp2_with fail
          go_loopw [9] (fun i wr => ∃ k : Nat, k ≤ m ∧ i = .int .i64 k ∧ Ph3 wr B lb 2 vs us u5 mkCv ∧ Below B w wr) (fun i _ => m - (intOf i).toNat)
          case atStart => exact ⟨0, by omega, rfl, h3, hbel⟩
          case round =>
            clear h3 hbel Hg
            obtain ⟨k, hk, rfl, h3, hbel⟩ := hrel
            by_cases hlt : k < m
            · obtain ⟨v, hv⟩ : ∃ v, vs[k]? = some v := ⟨_, List.getElem?_eq_getElem (by rw [← Hm.out]; exact hlt)⟩
              obtain ⟨u, hu⟩ : ∃ u, us[k]? = some u := ⟨_, List.getElem?_eq_getElem (by rw [Hul.out]; exact hlt)⟩
              have hn := Hlen.out _ v hv
              obtain ⟨gg, gc, hge, hgl, hgm, hgc⟩ := h3.gl (by rw [← Hm.out]; omega)
              rw [← Hm.out] at hge
              subst hge
              obtain ⟨ub, uc, rfl, hub, -⟩ := h3.us k u v hu hv
              obtain ⟨xs0, hrow0, -⟩ := HP.out.row k v hv
              obtain ⟨a, c, hva, hnc, hcm2, hga⟩ := own_slice hrow0
              obtain ⟨n, hnv⟩ : ∃ n, n = lenV v := ⟨_, rfl⟩
              rw [← hnv] at hn hnc hga hva hu
              subst hva
              have h0 : (0 : Int) ≤ (k : Int) := by omega
              have h1 : (k : Int) < (m : Int) := by omega
              have hq0 := hgc k _ hu
              have H3 := Lib.hid h3
              have Hv := Lib.hid hv
              have Hu := Lib.hid hu
              have Hga := Lib.hid hga
              have Hgc := Lib.hid hgc
              clear h3 hv hu hga hnv hgc hrow0
              go_wp2_with fail
              go_loopw [10] (fun i wr => ∃ t : Nat, t ≤ n + 64 ∧ i = .int .i64 t ∧ Ph3 wr B lb 2 vs us (.slice (some ⟨gg, 0, none⟩) m gc) mkCv ∧ Below B w wr) (fun i _ => n + 64 - (intOf i).toNat)
              case atStart => exact ⟨0, by omega, rfl, H3.out, hbel⟩
              case round =>
                clear hbel H3 hgl hgm hub Hgc hq0
                obtain ⟨t, ht, rfl, h3, hbel⟩ := hrel
                obtain ⟨gg', gc', hge, hgl, hgm, hgc⟩ := h3.gl (by rw [← Hm.out]; omega)
                cases hge
                have hq1 := hgc k _ Hu.out
                have hq2 := h3.ls k _ Hv.out
                by_cases hlt2 : t < n + 64
                · obtain ⟨ub', uc', hue, hub, huc⟩ := h3.us k _ _ Hu.out Hv.out
                  cases hue
                  have hq3 : wr.cell? ⟨ub, t * 2, none⟩ = some (.int .u8 (mkC ((k : Int) + 1) t).1) := huc t 0 hlt2 (by decide)
                  have hq3b : wr.cell? ⟨ub, t * 2 + 1, none⟩ = some (.int .u32 (mkC ((k : Int) + 1) t).2) := huc t 1 hlt2 (by decide)
                  have hm53 := markCode_any ((k : Int) + 1) t wr
                  have g0 : (0 : Int) ≤ (t : Int) := by omega
                  have g1 : (t : Int) < (n : Int) + 64 := by omega
                  have g2 : (k : Int) < (k : Int) + 1 := by omega
                  by_cases hlt3 : t < n
                  · obtain ⟨g, rfl⟩ := Hga.out (by omega)
                    have hgw := (h3.vs k _ Hv.out g rfl).1
                    have hq4 : wr.cell? ⟨g, t * 2, none⟩ = some (.int .u8 (mkC ((k : Int) + 1) t).1) := (h3.vs k _ Hv.out g rfl).2 t 0 hlt3 (by decide)
                    have hq4b : wr.cell? ⟨g, t * 2 + 1, none⟩ = some (.int .u32 (mkC ((k : Int) + 1) t).2) := (h3.vs k _ Hv.out g rfl).2 t 1 hlt3 (by decide)
                    generalize mkC ((k : Int) + 1) t = x at *
                    obtain ⟨o, x⟩ := x
                    simp only at *
                    have Hm53 := Lib.hid hm53
                    have H3 := Lib.hid h3
                    have hd : decide ((t : Int) < (n : Int)) = true := decide_eq_true (by omega)
                    clear hm53 h3 huc hgc
                    go_wp2_with fail
                    refine Hm53.out.mono ?_
                    rintro e w1 ⟨rfl, hbm⟩
                    have hlb := H3.out.lbl
                    have hnb := Bel.new w1 (.cells #[.int .u8 o, .int .u32 x] 36)
                    have hgg1 := Nat.lt_of_lt_of_le hgl hbm.size
                    have hlb1 := Nat.lt_of_lt_of_le hlb hbm.size
                    have hub1 := Nat.lt_of_lt_of_le hub hbm.size
                    have hq1 := (hnb.cell (p := ⟨gg, k, none⟩) hgg1).trans ((hbm.cell (p := ⟨gg, k, none⟩) hgl).trans hq1)
                    have hq2 := (hnb.cell (p := ⟨lb, k, none⟩) hlb1).trans ((hbm.cell (p := ⟨lb, k, none⟩) hlb).trans hq2)
                    have hq3 := (hnb.cell (p := ⟨ub, t * 2, none⟩) hub1).trans ((hbm.cell (p := ⟨ub, t * 2, none⟩) hub).trans hq3)
                    have hq3b := (hnb.cell (p := ⟨ub, t * 2 + 1, none⟩) hub1).trans ((hbm.cell (p := ⟨ub, t * 2 + 1, none⟩) hub).trans hq3b)
                    have hgw1 := Nat.lt_of_lt_of_le hgw hbm.size
                    have hq4 := (hnb.cell (p := ⟨g, t * 2, none⟩) hgw1).trans ((hbm.cell (p := ⟨g, t * 2, none⟩) hgw).trans hq4)
                    have hq4b := (hnb.cell (p := ⟨g, t * 2 + 1, none⟩) hgw1).trans ((hbm.cell (p := ⟨g, t * 2 + 1, none⟩) hgw).trans hq4b)
                    have hw0 := cells_new1 w1 (.int .u8 o) (.int .u32 x) 36
                    have H4 := Lib.hid ((H3.out.calm hbm).calm hnb)
                    have hbel1 := (hbel.trans (hbm.mono (by have := HL.out.base; omega))).alloc (by have := HL.out.base; omega) (.cells #[.int .u8 o, .int .u32 x] 36)
                    obtain ⟨hw0, hw1⟩ := hw0
                    clear H3 hbm hbel Hm53 hlb hnb hgg1 hlb1 hub1
                    go_wp2_with fail
                    generalize w1.alloc (.cells #[.int .u8 o, .int .u32 x] 36) = W2 at *
                    go_quiet (fail)
                    go_wp2
                    go_roundw
                    case rel => exact ⟨t + 1, by omega, by go_num, H4.out.calm (below_drewN (Below.refl _ _) _), below_drewN hbel1 _⟩
                    case measure => simp [intOf]; omega
                  · generalize mkC ((k : Int) + 1) t = x at *
                    obtain ⟨o, x⟩ := x
                    simp only at *
                    have Hm53 := Lib.hid hm53
                    have H3 := Lib.hid h3
                    have hd : decide ((t : Int) < (n : Int)) = false := decide_eq_false (by omega)
                    clear hm53 h3 huc hgc
                    go_wp2_with fail
                    refine Hm53.out.mono ?_
                    rintro e w1 ⟨rfl, hbm⟩
                    have hlb := H3.out.lbl
                    have hnb := Bel.new w1 (.cells #[.int .u8 o, .int .u32 x] 36)
                    have hgg1 := Nat.lt_of_lt_of_le hgl hbm.size
                    have hlb1 := Nat.lt_of_lt_of_le hlb hbm.size
                    have hub1 := Nat.lt_of_lt_of_le hub hbm.size
                    have hq1 := (hnb.cell (p := ⟨gg, k, none⟩) hgg1).trans ((hbm.cell (p := ⟨gg, k, none⟩) hgl).trans hq1)
                    have hq2 := (hnb.cell (p := ⟨lb, k, none⟩) hlb1).trans ((hbm.cell (p := ⟨lb, k, none⟩) hlb).trans hq2)
                    have hq3 := (hnb.cell (p := ⟨ub, t * 2, none⟩) hub1).trans ((hbm.cell (p := ⟨ub, t * 2, none⟩) hub).trans hq3)
                    have hq3b := (hnb.cell (p := ⟨ub, t * 2 + 1, none⟩) hub1).trans ((hbm.cell (p := ⟨ub, t * 2 + 1, none⟩) hub).trans hq3b)
                    have hw0 := cells_new1 w1 (.int .u8 o) (.int .u32 x) 36
                    have H4 := Lib.hid ((H3.out.calm hbm).calm hnb)
                    have hbel1 := (hbel.trans (hbm.mono (by have := HL.out.base; omega))).alloc (by have := HL.out.base; omega) (.cells #[.int .u8 o, .int .u32 x] 36)
                    obtain ⟨hw0, hw1⟩ := hw0
                    clear H3 hbm hbel Hm53 hlb hnb hgg1 hlb1 hub1
                    go_wp2_with fail
                    generalize w1.alloc (.cells #[.int .u8 o, .int .u32 x] 36) = W2 at *
                    go_quiet (fail)
                    go_wp2
                    go_roundw
                    case rel => exact ⟨t + 1, by omega, by go_num, H4.out.calm (below_drewN (Below.refl _ _) _), below_drewN hbel1 _⟩
                    case measure => simp [intOf]; omega
                · obtain rfl : t = n + 64 := by omega
                  have H3 := Lib.hid h3
                  clear h3 hgc
                  go_wp2_with fail
                  go_roundw
                  case rel => exact ⟨k + 1, by omega, by go_num, H3.out, hbel⟩
                  case measure => simp [intOf]; omega
            · obtain rfl : m = k := by omega
              clear h3
              go_wp2
              go_ret
              exact ⟨rfl, hbel⟩
end Go.Proofs.Ytdigcbkjlppenaa
