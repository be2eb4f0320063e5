import Derived.Test.YtofkamnmgpkehabApartP
import Derived.Test.YtofkamnmgpkehabWordKs
import Derived.Test.YtofkamnmgpkehabCut
import Derived.Deep.RegionHeld3
import Derived.StillTailTactics
/- Lists that were handed out lie apart: words. -/
namespace Go.Proofs.Ytofkamnmgpkehab
open Go.RowKit
section
variable {P : Program}
/-- append to a row that is not nil: what the row held lies where it lay, too. -/
theorem append_keeps {w : World} (t ty : TypeId) (e : TypeId) (i : TypeInfo) (z : Value) (size bytes : Nat) (ht : P.underlying t = some (.slice e)) (hi : P.info? e = some i) (hz : i.zero = some z)
    (hsize : i.size = size) (hby : i.bytes = bytes) (hzs : z.cells.size = size) (hsz : 0 < size)
    (g n cap : Nat) (xs : List Value) (hown : w.ownsRow 0 e size (.slice (some ⟨g, 0, none⟩) n cap) n xs) (hx0 : 0 < n)
    (ad : Addr) (m c : Nat) (news : List Value) (hl : news.length = m * size) (hnews : ∀ j u, news[j]? = some u → w.cell? (ad.add j) = some u) (h1 : ∀ u ∈ news, u.oneCell' = true)
    (h63 : n + m ≤ maxLen) (hbytes : (n + m) * bytes ≤ 140737488355328) :
    ∃ v' w', (Builtin.append_ #[t, t] ty #[.slice (some ⟨g, 0, none⟩) n cap, .slice (some ad) m c]).run P w = .ok v' w' ∧ w'.ownsRow 0 e size v' (n + m) (xs ++ news) ∧ Grew w w' (.slice (some ⟨g, 0, none⟩) n cap) v' ∧
      (∀ j, j < xs.length → w'.cell? ⟨g, j, none⟩ = w.cell? ⟨g, j, none⟩) := by
  obtain ⟨g', cap', hv, _, _, hgl, hcl⟩ := own_form hown hx0
  cases hv
  by_cases hroom : n + m ≤ cap
  · obtain ⟨w', hr, ho, hg⟩ := run_append_fits (P := P) w 0 t ty e i size ht hi hsize g n cap xs hown ad m c news hl hnews h1 hroom
    obtain ⟨g2, cap2, hv2, _, _, _, hc2⟩ := own_form ho (by omega)
    cases hv2
    refine ⟨_, w', hr, ho, ⟨hg, fun q h => .inl h⟩, fun j hj => ?_⟩
    rw [hc2 j (by rw [List.length_append]; omega), hcl j hj, List.getElem?_append_left hj]
  · obtain ⟨v', w', hr, ho, hg, _, hb⟩ := run_append_own_at (P := P) w 0 t ty e i z size bytes ht hi hz hsize hby hzs hsz _ n xs hown ad m c news hl hnews h1 h63 hbytes (Nat.zero_le _)
    have h63' : n + m ≤ 9223372036854775807 := by unfold maxLen at h63; omega
    subst hsize
    subst hby
    have hr2 := run_append_grow (P := P) w t ty e i z ht hi hz ⟨g, 0, none⟩ n cap xs hown.1 (hown.cells (g := g) rfl) ad m c news hl hnews (by omega) (by omega) (growslice_fits (by omega) hbytes)
    rw [hr] at hr2
    injection hr2 with e1 e2
    refine ⟨v', w', hr, ho, ⟨hg, fun q h => ?_⟩, fun j _ => ?_⟩
    · rcases hb with hb | hb
      · exact .inl (hb ▸ h)
      · rw [hb] at h; cases h; exact .inr (Nat.le_refl _)
    · rw [e2]
      exact World.cell?_of_block (heap_alloc_old w.drew _ hgl)
/-- 'append(s, x)' of one element that has just been laid; what the row held lies where it lay, too. -/
theorem wpList_append1K {w : World} {ops : Array Oper} {rest : List Oper} {o : Oper} {a : Act} {Q : Exit → Act → World → Prop} (hgd : o.guard = none) (s x : Operand) (t : TypeId)
    (ho : o.op = .call { callee := .builtin .append, args := #[s, x], argTypes := #[t, t] })
    (e : TypeId) (i : TypeInfo) (z : Value) (size bytes : Nat) (ht : P.underlying t = some (.slice e)) (hi : P.info? e = some i) (hz : i.zero = some z)
    (hsize : i.size = size) (hby : i.bytes = bytes) (hzs : z.cells.size = size) (hsz : 0 < size)
    (v : Value) (n : Nat) (xs : List Value) (hown : w.ownsRow 0 e size v n xs) (cs : Array Value) (et : TypeId)
    (hs : a.eval s = v) (hx : a.eval x = .slice (some ⟨w.heap.size, 0, none⟩) 1 1) (hcs : cs.toList.length = 1 * size) (h1 : ∀ u ∈ cs.toList, u.oneCell' = true)
    (h63 : n + 1 ≤ maxLen) (hbytes : (n + 1) * bytes ≤ 140737488355328)
    (h : ∀ v' w', w'.ownsRow 0 e size v' (n + 1) (xs ++ cs.toList) → Grew w w' v v' → (∀ g, v.ownBlock = some g → ∀ j, j < xs.length → w'.cell? ⟨g, j, none⟩ = w.cell? ⟨g, j, none⟩) →
      wpList P ops Q rest (a.put o.dst v') w') : wpList P ops Q (o :: rest) a (w.alloc (.cells cs et)) := by
  by_cases hn : n = 0
  · subst hn
    exact wpList_append1 hgd s x t ho e i z size bytes ht hi hz hsize hby hzs hsz v 0 xs hown cs et hs hx hcs h1 h63 hbytes fun g cap w' h2 h3 _ => h _ w' h2 h3 (fun g _ j hj => by have := hown.1; omega)
  · obtain ⟨g, cap, rfl, _, _, hgl, _⟩ := own_form hown (by omega)
    obtain ⟨v', w', hr, h2, h3, h4⟩ := append_keeps (P := P) t o.type e i z size bytes ht hi hz hsize hby hzs hsz g n cap xs (hown.alloc (.cells cs et)) (by omega) ⟨w.heap.size, 0, none⟩ 1 1 cs.toList hcs (news_new w cs et) h1 h63 hbytes
    refine wpList_plain hgd fun K hK => ?_
    unfold Oper.wp execOp
    simp only [ho, resolve, invoke, builtin, Sem.run_bind, Sem.run_pure, Result.andThen_ok, List.map_toArray, List.map_cons, List.map_nil, hs, hx, hr]
    refine hK _ _ (h v' w' h2 (Grew.after (Bel.new w _) h3) (fun g' e j hj => ?_))
    cases e
    exact (h4 j hj).trans ((Bel.new w (.cells cs et)).cell (p := ⟨g, j, none⟩) hgl)
end
theorem own_slice {w : World} {B e sz n : Nat} {v : Value} {xs : List Value} (h : w.ownsRow B e sz v n xs) : ∃ a c, v = .slice a n c ∧ n ≤ c ∧ c ≤ maxLen ∧ (0 < n → ∃ g, a = some ⟨g, 0, none⟩) := by
  rcases h.2 with ⟨rfl, rfl⟩ | ⟨g, cap, cur, rfl, _, _, h1, h2, _⟩
  · exact ⟨none, 0, rfl, Nat.le_refl _, Nat.zero_le _, fun h => absurd h (Nat.lt_irrefl _)⟩
  · exact ⟨_, cap, rfl, h1, h2, fun _ => ⟨g, rfl⟩⟩
theorem run_buildSlice71 (a : Option Addr) (n c : Nat) (w : World) : (Instr.buildSlice 71 1 #[(0, .slice a n c)]).run Try.prog w = .ok (.slice (some ⟨w.heap.size, 0, none⟩) 1 1) (w.alloc (.cells #[.slice a n c] 23)) := by kernel_rfl
theorem markWords_sym (k i : Int) (w : World) : Calls Try.prog 38 #[.int .i64 k, .int .i64 i] w fun e w' => e = .returned (.int .u32 (mkW k i)) ∧ w = w' := (markWords_any k i w).mono fun _ _ h => ⟨h.1, h.2.symm⟩
noncomputable def mkIv (k i : Nat) : List Value := [.int .u32 (mkW ((k : Int) + 1) i : Nat)]
theorem mkIv_len (k i : Nat) : (mkIv k i).length = 1 := rfl
set_option maxRecDepth 100000 in
set_option maxHeartbeats 4000000 in
theorem apartWords_true (lb cap B : Nat) (vs : List Value) (w : World) (hmc : vs.length ≤ cap) (_hcm : cap ≤ maxLen) (hm3 : vs.length ≤ 1000) (hL : Lists B lb vs) (hlen : ∀ (j : Nat) v, vs[j]? = some v → lenV v ≤ 8796093022208)
    (hP : Ph1 w w B 32 1 lb vs mkIv 0 0) : Calls Try.prog 28 #[.slice (some ⟨lb, 0, none⟩) vs.length cap] w fun e w' => e = .returned (.bool true) ∧ Below B w w' := by
  obtain ⟨i5, hi5, z50, z51, z52⟩ := info_parts info32
  obtain ⟨i42, hi42, z410, z411, z412⟩ := info_parts info23
  have hb42 := run_bs23_1
  have hb71 := run_buildSlice71
  have HL := Lib.hid hL
  have Hlen := Lib.hid hlen
  have HP := Lib.hid hP
  obtain ⟨m, hm⟩ : ∃ m, m = vs.length := ⟨_, rfl⟩
  have hmlt : m ≤ 1000 := by omega
  rw [← hm] at hmc ⊢
  have Hm := Lib.hid hm
  clear hL hlen hP hm hm3
  go_enter Try.func28, Try.ntmps28
  go_wp2_with fail
  go_loopw [3] (fun i wr => ∃ k : Nat, k ≤ m ∧ i = .int .i64 k ∧ Ph1 w wr B 32 1 lb vs mkIv k 0) (fun i _ => m - (intOf i).toNat)
  case atStart => exact ⟨0, by omega, rfl, HP.out⟩
  case round =>
    obtain ⟨k, hk, rfl, hp⟩ := hrel
    by_cases hlt : k < m
    · obtain ⟨v, hv⟩ : ∃ v, vs[k]? = some v := ⟨_, List.getElem?_eq_getElem (by rw [← Hm.out]; exact hlt)⟩
      obtain ⟨xs, hown, _⟩ := hp.row k v hv
      have hn := Hlen.out k v hv
      obtain ⟨a, c, hva, hnc, hcm2, hg⟩ := own_slice hown
      generalize lenV v = n at hva hn hnc hg
      subst hva
      have h0 : (0 : Int) ≤ (k : Int) := by omega
      have h1 : (k : Int) < (m : Int) := by omega
      have Hp := Lib.hid hp
      have Hv := Lib.hid hv
      have Hg := Lib.hid hg
      clear hp hv hg hown
      go_wp2_with fail
      go_loopw [4] (fun i wr => ∃ t : Nat, t ≤ n ∧ i = .int .i64 t ∧ Ph1 w wr B 32 1 lb vs mkIv k t) (fun i _ => n - (intOf i).toNat)
      case atStart => exact ⟨0, by omega, rfl, Hp.out⟩
      case round =>
        clear Hp
        obtain ⟨t, ht, rfl, hp⟩ := hrel
        have hq := hp.ls k _ Hv.out
        by_cases hlt2 : t < n
        · obtain ⟨g, rfl⟩ := Hg.out (by omega)
          have hd := hp.calm HL.out (Below.refl _ _).drew
          obtain ⟨xs, hxo, _, hxt⟩ := hd.row k _ Hv.out
          have hgb := hxo.lt g rfl
          have hc1 : wr.drew.cell? ⟨g, t, none⟩ = some (xs.getD t undef) := by
            rw [hxo.cellAt t (by show t < n * 1; omega), List.getD_eq_getElem?_getD, List.getElem?_eq_getElem (by rw [hxo.1]; show t < n * 1; omega)]; rfl
          have hc2 : wr.drew.frozen? ⟨g, t, none⟩ = false := hxo.frozenAt t
          have g0 : (0 : Int) ≤ (t : Int) := by omega
          have g1 : (t : Int) < (n : Int) := by omega
          have hw1 : IntKind.i64.wrap ((k : Int) + 1) = (k : Int) + 1 := IntWalk.i64_in _ (by omega)
          have hm49 := fun W => (markWords_sym ((k : Int) + 1) t W).mono (fun e w' (h : _ ∧ _) => And.intro h.1 h.2.symm)
          have hst := hxo.stored t (.int .u32 (mkW ((k : Int) + 1) t : Nat))
          have hmx : Try.prog.follows .mixedOrders = true := by kernel_rfl
          generalize hmb : mkW ((k : Int) + 1) t = x at hm49 hst
          have Hmb := Lib.hid hmb
          have Hm49 := Lib.hid hm49
          have Hst := Lib.hid hst
          have Hxt := Lib.hid (hxt rfl)
          have Hd := Lib.hid hd
          have Hlx := Lib.hid hxo.1
          clear hmb hm49 hst hxt hp hxo hd
          go_wp2_with fail
          refine wp_region_still_tail 10 hmx (by kernel_rfl) ?_
          simp only [List.take_succ_cons, List.take_zero, List.drop_succ_cons, List.drop_zero]
          repeat still_step
          still_call (Hm49.out _)
          repeat still_step
          refine wpStill_nil ?_
          change wpList _ _ _ _ _ wr.drew
          clear hq hw1
          generalize wr.drew = w2 at *
          go_wp2
          go_roundw
          case rel =>
            refine ⟨t + 1, by omega, by go_num, Hd.out.step HL.out Hv.out rfl Hst.out.2 Hst.out.1 fun q hq => ?_⟩
            have hlx := Hlx.out
            rw [mcells_succ]
            by_cases e : q = t
            · subst e
              rw [List.getElem?_set_self (by rw [hlx]; show q < n * 1; omega), List.getElem?_append_right (by rw [mcells_length mkIv_len]; omega), mcells_length mkIv_len, Nat.mul_one, Nat.sub_self]
              show _ = some (Value.int .u32 (mkW ((k : Int) + 1) q : Nat))
              rw [Hmb.out]
            · rw [List.getElem?_set_ne (fun h => e h.symm), List.getElem?_append_left (by rw [mcells_length mkIv_len]; omega)]
              exact Hxt.out q (by omega)
          case measure => simp [intOf]; omega
        · obtain rfl : t = n := by omega
          go_wp2_with fail
          go_roundw
          case rel => exact ⟨k + 1, by omega, by go_num, hp.next mkIv_len Hv.out⟩
          case measure => simp [intOf]; omega
    · obtain rfl : m = k := by omega
      rw [Hm.out] at hp
      obtain ⟨tag, h2⟩ := hp.done (te := 23) HL.out
      clear hp
      go_wp2_with fail
      go_loopw [5, 6] (fun gs i wr => ∃ (k : Nat) (us : List Value) (tag : Nat → Nat), k ≤ m ∧ i = .int .i64 k ∧ us.length = k ∧ Ph2 w wr B 32 1 23 lb us.length vs us gs mkIv tag) (fun _ i _ => m - (intOf i).toNat)
      case atStart => exact ⟨0, [], tag, by omega, rfl, rfl, h2⟩
      case round =>
        clear h2
        obtain ⟨k, us, tag, hk, rfl, hul, h2⟩ := hrel
        have Hul := Lib.hid hul
        clear hul
        by_cases hlt : k < m
        · obtain ⟨v, hv⟩ : ∃ v, vs[us.length]? = some v := ⟨_, List.getElem?_eq_getElem (by rw [← Hm.out, Hul.out]; exact hlt)⟩
          have hn := Hlen.out _ v hv
          obtain ⟨h3, hc⟩ := h2.start hv
          obtain ⟨a, c, hva, hnc, hcm2, hg⟩ := own_slice (h2.row _ _ hv (Nat.le_refl _))
          obtain ⟨n, hnv⟩ : ∃ n, n = lenV v := ⟨_, rfl⟩
          rw [← hnv] at hn hnc hg hva
          subst hva
          have hq0 := h3.ls _ _ hv
          rw [Hul.out] at hq0
          have h0 : (0 : Int) ≤ (k : Int) := by omega
          have h1 : (k : Int) < (m : Int) := by omega
          have H3 := Lib.hid h3
          have Hc := Lib.hid hc
          have Hv := Lib.hid hv
          have Hg := Lib.hid hg
          clear h2 h3 hc hv hg hnv
          go_wp2_with fail
          go_loopw [7, 8] (fun u i wr => ∃ (t : Nat) (tag : Nat → Nat), t ≤ 64 ∧ i = .int .i64 t ∧ Ph2 w wr B 32 1 23 lb (us.length + 1) vs us u5 mkIv tag ∧ Cur wr B 32 1 (.slice a n c) u mkIv tag us.length t) (fun _ i _ => 64 - (intOf i).toNat)
          case atStart => exact ⟨0, tag, by omega, rfl, H3.out, Hc.out⟩
          case round =>
            clear H3 Hc hq0
            obtain ⟨t, tag, ht, rfl, h3, hc⟩ := hrel
            have hq := h3.ls _ _ Hv.out
            rw [Hul.out] at hq
            by_cases hlt2 : t < 64
            · have hm49 := markWords_sym ((k : Int) + 1) ((n : Int) + (t : Int)) wr
              generalize hmb : mkW ((k : Int) + 1) ((n : Int) + (t : Int)) = x at hm49
              have hown := own_base hc.own
              have Hmb := Lib.hid hmb
              have Hm49 := Lib.hid hm49
              have H3 := Lib.hid h3
              have Hc := Lib.hid hc
              have hn64 : (n : Int) + (t : Int) ≤ 9223372036854775807 := by omega
              clear hmb hm49 h3 hc
              go_wp2_with (first | (go_at_call 38; refine Hm49.out.mono ?_; rintro e w' ⟨rfl, rfl⟩) | ((with_reducible refine wpList_append1K (o := ⟨some 63, .call { callee := .builtin .append, args := #[.tmp 51, .tmp 62], argTypes := #[23, 23] }, _, _, _, none⟩) rfl _ _ 23 rfl 32 i5 (.int .u32 0) 1 4 Try.underlying23 hi5 z50 z51 z52 ?_ ?_ _ _ _ hown _ _ ?_ ?_ ?_ ?_ ?_ ?_ ?_); rfl; decide; rfl; rfl; rfl; (simp [Value.oneCell']); (show n + t + 1 ≤ maxLen; unfold maxLen; omega); (show (n + t + 1) * 4 ≤ 140737488355328; omega); intro u2 w2 o2 g2 k2))
              have hfin : ∃ tag', Ph2 w w2 B 32 1 23 lb (us.length + 1) vs us u5 mkIv tag' ∧ Cur w2 B 32 1 (.slice a n c) u2 mkIv tag' us.length (t + 1) := by
                refine H3.out.grown mkIv_len HL.out.base Hc.out g2 ?_ k2
                have e : mkIv us.length (n + t) = [.int .u32 x] := by
                  show [Value.int .u32 (mkW ((us.length : Int) + 1) ((n + t : Nat) : Int) : Nat)] = _
                  rw [Hul.out, Int.natCast_add, Hmb.out]
                show w2.ownsRow 0 32 1 u2 (n + t + 1) (mcells mkIv us.length (n + t) ++ mkIv us.length (n + t))
                rw [e]; exact o2
              obtain ⟨tag', h4, h5⟩ := hfin
              have H4 := Lib.hid h4
              have H5 := Lib.hid h5
              clear h4 h5 o2 g2 k2 hown hq
              go_roundw
              case rel => exact ⟨t + 1, tag', by omega, by go_num, H4.out, H5.out⟩
              case measure => simp [intOf]; omega
            · obtain rfl : t = 64 := by omega
              obtain ⟨a2, c2, hu2, -, -, -⟩ := own_slice hc.own
              generalize lenV (Value.slice a n c) + 64 = n2 at hu2
              subst hu2
              have hown := own_base h3.grow
              rw [Hul.out] at hown
              have H3 := Lib.hid h3
              have Hc := Lib.hid hc
              clear h3 hc hq
              go_wp2_with ((with_reducible refine wpList_append1 (o := ⟨some 67, .call { callee := .builtin .append, args := #[.tmp 64, .tmp 66], argTypes := #[71, 71] }, _, _, _, none⟩) rfl _ _ 71 rfl 23 i42 (.slice none 0 0) 1 24 Try.underlying71 hi42 z410 z411 z412 ?_ ?_ _ _ _ hown _ _ ?_ ?_ ?_ ?_ ?_ ?_ ?_); rfl; decide; rfl; rfl; rfl; (simp [Value.oneCell']); (unfold maxLen; omega); omega; intro g5 c5 w5 o5 gr5 hl5)
              have hfin : ∃ tag', Ph2 w w5 B 32 1 23 lb (us ++ [Value.slice a2 n2 c2]).length vs (us ++ [Value.slice a2 n2 c2]) (.slice (some ⟨g5, 0, none⟩) (k + 1) c5) mkIv tag' :=
                H3.out.laid HL.out.base Hv.out Hc.out gr5 (by rw [Hul.out]; exact o5)
              obtain ⟨tag', h4⟩ := hfin
              have H4 := Lib.hid h4
              clear h4 o5 gr5 hown
              go_roundw
              case rel => exact ⟨k + 1, us ++ [Value.slice a2 n2 c2], tag', by omega, by go_num, by rw [List.length_append, Hul.out]; rfl, H4.out⟩
              case measure => simp [intOf]; omega
        · obtain rfl : m = k := by omega
          have h3 := h2.read mkIv_len (by rw [Hul.out, Hm.out])
          have hbel := h2.below
          have Hg := Lib.hid (h3.gl)
          clear h2
          go_wp2_with fail
          go_loopw [9] (fun i wr => ∃ k : Nat, k ≤ m ∧ i = .int .i64 k ∧ Ph3 wr B lb 1 vs us u5 mkIv ∧ Below B w wr) (fun i _ => m - (intOf i).toNat)
          case atStart => exact ⟨0, by omega, rfl, h3, hbel⟩
          case round =>
            clear h3 hbel Hg
            obtain ⟨k, hk, rfl, h3, hbel⟩ := hrel
            by_cases hlt : k < m
            · obtain ⟨v, hv⟩ : ∃ v, vs[k]? = some v := ⟨_, List.getElem?_eq_getElem (by rw [← Hm.out]; exact hlt)⟩
              obtain ⟨u, hu⟩ : ∃ u, us[k]? = some u := ⟨_, List.getElem?_eq_getElem (by rw [Hul.out]; exact hlt)⟩
              have hn := Hlen.out _ v hv
              obtain ⟨gg, gc, hge, hgl, hgm, hgc⟩ := h3.gl (by rw [← Hm.out]; omega)
              rw [← Hm.out] at hge
              subst hge
              obtain ⟨ub, uc, rfl, hub, -⟩ := h3.us k u v hu hv
              obtain ⟨xs0, hrow0, -⟩ := HP.out.row k v hv
              obtain ⟨a, c, hva, hnc, hcm2, hga⟩ := own_slice hrow0
              obtain ⟨n, hnv⟩ : ∃ n, n = lenV v := ⟨_, rfl⟩
              rw [← hnv] at hn hnc hga hva hu
              subst hva
              have h0 : (0 : Int) ≤ (k : Int) := by omega
              have h1 : (k : Int) < (m : Int) := by omega
              have hq0 := hgc k _ hu
              have H3 := Lib.hid h3
              have Hv := Lib.hid hv
              have Hu := Lib.hid hu
              have Hga := Lib.hid hga
              have Hgc := Lib.hid hgc
              clear h3 hv hu hga hnv hgc hrow0
              go_wp2_with fail
              go_loopw [10] (fun i wr => ∃ t : Nat, t ≤ n + 64 ∧ i = .int .i64 t ∧ Ph3 wr B lb 1 vs us (.slice (some ⟨gg, 0, none⟩) m gc) mkIv ∧ Below B w wr) (fun i _ => n + 64 - (intOf i).toNat)
              case atStart => exact ⟨0, by omega, rfl, H3.out, hbel⟩
              case round =>
                clear hbel H3 hgl hgm hub Hgc hq0
                obtain ⟨t, ht, rfl, h3, hbel⟩ := hrel
                obtain ⟨gg', gc', hge, hgl, hgm, hgc⟩ := h3.gl (by rw [← Hm.out]; omega)
                cases hge
                have hq1 := hgc k _ Hu.out
                have hq2 := h3.ls k _ Hv.out
                by_cases hlt2 : t < n + 64
                · obtain ⟨ub', uc', hue, hub, huc⟩ := h3.us k _ _ Hu.out Hv.out
                  cases hue
                  have hq3 : wr.cell? ⟨ub, t, none⟩ = some (.int .u32 (mkW ((k : Int) + 1) t : Nat)) := by
                    have := huc t 0 hlt2 Nat.one_pos
                    simpa [mkIv] using this
                  have hm49 := markWords_sym ((k : Int) + 1) t wr
                  have g0 : (0 : Int) ≤ (t : Int) := by omega
                  have g1 : (t : Int) < (n : Int) + 64 := by omega
                  have g2 : (k : Int) < (k : Int) + 1 := by omega
                  by_cases hlt3 : t < n
                  · obtain ⟨g, rfl⟩ := Hga.out (by omega)
                    have hq4 : wr.cell? ⟨g, t, none⟩ = some (.int .u32 (mkW ((k : Int) + 1) t : Nat)) := by
                      have := (h3.vs k _ Hv.out g rfl).2 t 0 hlt3 Nat.one_pos
                      simpa [mkIv] using this
                    generalize mkW ((k : Int) + 1) t = x at *
                    have Hm49 := Lib.hid hm49
                    have H3 := Lib.hid h3
                    have hd : decide ((t : Int) < (n : Int)) = true := decide_eq_true (by omega)
                    clear hm49 h3 huc hgc
                    go_wp2_with (go_at_call 38; refine Hm49.out.mono ?_; rintro e w' ⟨rfl, rfl⟩)
                    go_roundw
                    case rel => exact ⟨t + 1, by omega, by go_num, H3.out, hbel⟩
                    case measure => simp [intOf]; omega
                  · generalize mkW ((k : Int) + 1) t = x at *
                    have Hm49 := Lib.hid hm49
                    have H3 := Lib.hid h3
                    have hd : decide ((t : Int) < (n : Int)) = false := decide_eq_false (by omega)
                    clear hm49 h3 huc hgc
                    go_wp2_with (go_at_call 38; refine Hm49.out.mono ?_; rintro e w' ⟨rfl, rfl⟩)
                    go_roundw
                    case rel => exact ⟨t + 1, by omega, by go_num, H3.out, hbel⟩
                    case measure => simp [intOf]; omega
                · obtain rfl : t = n + 64 := by omega
                  have H3 := Lib.hid h3
                  clear h3 hgc
                  go_wp2_with fail
                  go_roundw
                  case rel => exact ⟨k + 1, by omega, by go_num, H3.out, hbel⟩
                  case measure => simp [intOf]; omega
            · obtain rfl : m = k := by omega
              clear h3
              go_wp2
              go_ret
              exact ⟨rfl, hbel⟩
end Go.Proofs.Ytofkamnmgpkehab
