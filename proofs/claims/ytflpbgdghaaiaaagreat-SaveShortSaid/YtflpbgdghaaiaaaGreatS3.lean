import Derived.Test.YtflpbgdghaaiaaaGreatS2
import Derived.Lib.ConvBytes
import Derived.Lib.SlBytesConst
import Derived.Deep.RegionHeld3
import Derived.Deep.DrawnRows
import Derived.RegionTactic
import Derived.BigRegion
import Derived.StillTailTactics
import Derived.Laws.CopyOwn
import Derived.Laws.MakeOwn
import Derived.Laws.BitsAllLaws
import Derived.Laws.Small
import Derived.Scope
namespace Go.Proofs.YtflpbgdghaaiaaaGreat
open Go.RowKit
set_option linter.unusedVariables false
attribute [local go_sem ↓] Go.wp_at_zero Go.wp_at_succ
theorem bytes_new (l : List Nat) (hl : ∀ i ∈ l, i < 256) (hn : l.length ≤ 1000) (w : World) (n : Nat) (hn2 : n = l.length) (cs : Array Value) (fr : Nat × Nat) (hcs : cs.toList = encN .u8 l) : Bytes (w.alloc (.cells cs 5 fr)) (.slice (some ⟨w.heap.size, 0, none⟩) n n) l := by
  subst hn2
  refine ⟨⟨some ⟨w.heap.size, 0, none⟩, l.length, rfl, by rw [encN_length, Nat.mul_one], Nat.le_refl _, by unfold maxLen; omega, (fun h => by cases h), fun _ => ⟨w.heap.size, 0, rfl, by simp, fun j hj => ?_⟩⟩, hl⟩
  rw [Nat.zero_add, World.cell?_alloc_mark, ← hcs, Array.getElem?_toList]
theorem put_at (l : List Nat) {w : World} {b n : Nat} {cs : Array Value} (hl : ∀ i ∈ l, i < 4294967296) (hn : l.length ≤ 1000) (hb : b = w.heap.size) (hn2 : n = l.length) (hcs : cs.toList = encN .u32 l) :
    Calls Tryz.prog 54 #[.slice (some ⟨b, 0, none⟩) n n] (w.alloc (.cells cs 25)) fun e w' => ∃ v, e = .returned v ∧ w'.ownsRow w.heap.size 5 1 v (4 * l.length) (encN .u8 (le4s l)) ∧ Below w.heap.size w w' := by
  subst hb
  exact put_new l hl hn w n hn2 cs hcs
theorem spansL_lt (N : Nat) : ∀ (l : List Nat) (a : Nat), a + l.sum < N → ∀ s ∈ spansL a l, s.1 < N ∧ s.2 < N
  | [], _, _, s, h => by simp [spansL] at h
  | n :: l, a, h, s, hs => by
    rw [List.sum_cons] at h
    rcases List.mem_cons.1 hs with rfl | hs
    · exact ⟨by show a < N; omega, by show n < N; omega⟩
    · exact spansL_lt N l (a + n) (by omega) s hs
def flatS (l : List (Nat × Nat)) : List Nat := l.flatMap (fun s => le4s [s.1, s.2])
theorem flatS_length (l : List (Nat × Nat)) : (flatS l).length = 8 * l.length := by
  induction l with
  | nil => rfl
  | cons s l ih =>
    have : flatS (s :: l) = le4s [s.1, s.2] ++ flatS l := rfl
    rw [this, List.length_append, ih, le4s_length, List.length_cons]
    simp only [List.length_cons, List.length_nil]
    omega
theorem flatS_take (l : List (Nat × Nat)) (k : Nat) (hk : k < l.length) : flatS (l.take (k + 1)) = flatS (l.take k) ++ le4s [(l.getD k (0, 0)).1, (l.getD k (0, 0)).2] := by
  rw [flatS, flatS, List.take_add_one, List.getElem?_eq_getElem hk, List.flatMap_append, List.getD_eq_getElem?_getD, List.getElem?_eq_getElem hk]
  simp
theorem flatS_lt (l : List (Nat × Nat)) : ∀ x ∈ flatS l, x < 256 := by
  intro x hx
  obtain ⟨i, _, hx⟩ := List.mem_flatMap.1 hx
  exact le4s_lt _ x hx
theorem flat_take (ls : List (List Nat)) (k : Nat) (hk : k < ls.length) : (ls.take (k + 1)).flatten = (ls.take k).flatten ++ ls.getD k [] := by
  rw [List.take_add_one, List.getElem?_eq_getElem hk, List.flatten_append, List.getD_eq_getElem?_getD, List.getElem?_eq_getElem hk]
  simp
def cvS (x : Operand) : Op := Op.convert 9 24 x
attribute [local go_sem] cvS
set_option maxRecDepth 100000 in
set_option maxHeartbeats 4000000 in
theorem imgEncode_any (vc vj vd vn : Value) (m : Img) (hm : checkI m = 0) (w : World) (h : ImgAt w vc vj vd vn m) :
    Calls Tryz.prog 41 #[.agg #[vc, vj, vd, .int .u32 m.zero, .int .u32 m.stack, vn]] w fun e w' => ∃ u, e = .returned (.tuple #[u, .int .i64 0]) ∧ w'.ownsRow w.heap.size 5 1 u (imgB m).length (encN .u8 (imgB m)) ∧ Below w.heap.size w w' := by
  have H := Lib.hid h
  obtain ⟨hc1, hc2, hc3, hc4, hc5, hc6, hc7⟩ := checkI_ok hm
  have hb0 := Bel.new w (.cells #[vc, vj, vd, .int .u32 m.zero, .int .u32 m.stack, vn] 28)
  have HC := Lib.hid (cells_new6 w vc vj vd (.int .u32 m.zero) (.int .u32 m.stack) vn 28)
  obtain ⟨W0, hW0⟩ : ∃ W0, W0 = w.alloc (.cells #[vc, vj, vd, .int .u32 m.zero, .int .u32 m.stack, vn] 28) := ⟨_, rfl⟩
  have HK := Lib.hid (imgCheck_any vc vj vd vn m W0 (by rw [hW0]; exact h.below hb0))
  rw [hm] at HK
  obtain ⟨ac, cc, rfl, -⟩ := h.c.1
  obtain ⟨aj, cj, rfl, -⟩ := h.j.1
  obtain ⟨ad, cd, rfl, -⟩ := h.d.1
  obtain ⟨an, cn, rfl, -⟩ := h.n.1
  clear h
  go_enter Tryz.func41, Tryz.ntmps41
  go_wp2_with fail
  rw [← hW0]
  refine HK.out.mono ?_
  rintro e w1 ⟨rfl, hb1⟩
  have hs0 : w.heap.size < W0.heap.size := by rw [hW0]; simp
  have c0 : w1.cell? ⟨w.heap.size, 0, none⟩ = some (.slice ac m.code.length cc) := (hb1.cell (p := ⟨w.heap.size, 0, none⟩) hs0).trans (by rw [hW0]; exact HC.out.1)
  have c1 : w1.cell? ⟨w.heap.size, 1, none⟩ = some (.slice aj m.js.length cj) := (hb1.cell (p := ⟨w.heap.size, 1, none⟩) hs0).trans (by rw [hW0]; exact HC.out.2.1)
  have c2 : w1.cell? ⟨w.heap.size, 2, none⟩ = some (.slice ad m.data.length cd) := (hb1.cell (p := ⟨w.heap.size, 2, none⟩) hs0).trans (by rw [hW0]; exact HC.out.2.2.1)
  have c3 : w1.cell? ⟨w.heap.size, 3, none⟩ = some (.int .u32 m.zero) := (hb1.cell (p := ⟨w.heap.size, 3, none⟩) hs0).trans (by rw [hW0]; exact HC.out.2.2.2.1)
  have c4 : w1.cell? ⟨w.heap.size, 4, none⟩ = some (.int .u32 m.stack) := (hb1.cell (p := ⟨w.heap.size, 4, none⟩) hs0).trans (by rw [hW0]; exact HC.out.2.2.2.2.1)
  have c5 : w1.cell? ⟨w.heap.size, 5, none⟩ = some (.slice an m.lx.length cn) := (hb1.cell (p := ⟨w.heap.size, 5, none⟩) hs0).trans (by rw [hW0]; exact HC.out.2.2.2.2.2)
  have hbw1 : Below w.heap.size w w1 := Bel.tr (by rw [hW0]; exact hb0) hb1
  have hs1 : w.heap.size < w1.heap.size := Nat.lt_of_lt_of_le hs0 hb1.size
  have H1 := Lib.hid (H.out.below hbw1)
  have HB1 := Lib.hid hbw1
  have HE := Lib.hid (encode_any _ m.code w1 H1.out.c)
  have henc : encRes m.code = (encode m.code, 0, 0) := encRes_ok (by omega) (fun j hj => firstBad_all hc2 j hj)
  have Henc := Lib.hid henc
  clear hb1 hW0 hb0 HC HK H hbw1 henc
  go_wp2_with fail
  refine HE.out.mono ?_
  intro e w2 hE
  unfold EncPost at hE
  rw [Henc.out] at hE
  obtain ⟨uc, rfl, oc, gc, -⟩ := hE
  simp only at oc
  have hb2 := gc.bel
  have hs2 : w.heap.size < w2.heap.size := Nat.lt_of_lt_of_le hs1 hb2.size
  have oc' := own_from oc (B := w1.heap.size) (fun g e => (gc.2 g e).resolve_left (by simp [Value.ownBlock]))
  obtain ⟨auc, cuc, rfl, -⟩ := own_sl oc
  have HOC := Lib.hid oc'
  have HB2 := Lib.hid hb2
  have d0 := (hb2.cell (p := ⟨w.heap.size, 0, none⟩) hs1).trans c0
  have d1 := (hb2.cell (p := ⟨w.heap.size, 1, none⟩) hs1).trans c1
  have d2 := (hb2.cell (p := ⟨w.heap.size, 2, none⟩) hs1).trans c2
  have d3 := (hb2.cell (p := ⟨w.heap.size, 3, none⟩) hs1).trans c3
  have d4 := (hb2.cell (p := ⟨w.heap.size, 4, none⟩) hs1).trans c4
  have d5 := (hb2.cell (p := ⟨w.heap.size, 5, none⟩) hs1).trans c5
  have H2 := Lib.hid (H1.out.below hb2)
  clear hb2 gc oc oc' c0 c1 c2 c3 c4 c5 HE
  have hnl : m.lx.length ≤ 64 := hc6
  have Hnl := Lib.hid (namesB_len m.lx (fun j hj => by
    have := (namesN_iff m.lx).1 hc7 j hj
    unfold nameN at this
    simp only [Bool.and_eq_true, decide_eq_true_eq] at this
    have := this.2.1
    omega))
  go_wp2_with fail
  go_loopw [8, 39] (fun u i wr => ∃ k : Nat, k ≤ m.lx.length ∧ i = .int .i64 k ∧ wr.ownsRow w2.heap.size 5 1 u (namesB (m.lx.take k)).length (encN .u8 (namesB (m.lx.take k))) ∧ Below w2.heap.size w2 wr) (fun _ i _ => m.lx.length - (intOf i).toNat)
  case atStart => exact ⟨0, by omega, rfl, World.ownsRow_nil _ _ _ _, Below.refl _ _⟩
  case round =>
    obtain ⟨k, hk, rfl, ho, hb⟩ := hrel
    have HO := Lib.hid ho
    have HB := Lib.hid hb
    have hwr := hb.size
    by_cases hlt : k < m.lx.length
    · obtain ⟨⟨an', cn', he, hl', hnc, hcm, hnn, hp⟩, hx32⟩ := H2.out.n
      cases he
      obtain ⟨b, off, rfl, hbl, hc⟩ := hp (by omega)
      obtain ⟨x1, x2⟩ := encX_at m.lx k hlt
      have n0 := (hb.cell (p := ⟨b, off + k * 2, none⟩) hbl).trans ((hc (k * 2) (by rw [encX_length]; omega)).trans x1)
      have n1 : wr.cell? ⟨b, off + k * 2 + 1, none⟩ = some (.int .u32 (m.lx.getD k (ByteArray.empty, 0)).2) := (hb.cell (p := ⟨b, off + k * 2 + 1, none⟩) hbl).trans ((by rw [Nat.add_assoc]; exact hc (k * 2 + 1) (by rw [encX_length]; omega) : w2.cell? ⟨b, off + k * 2 + 1, none⟩ = _).trans x2)
      have hx3 := hx32 k
      rw [getD_snd] at hx3
      have Ht := Lib.hid (namesB_take m.lx k hlt)
      have hnm := (namesN_iff m.lx).1 hc7 k hlt
      unfold nameN at hnm
      simp only [Bool.and_eq_true, decide_eq_true_eq] at hnm
      have hn1 := hnm.1
      have hn2 := hnm.2.1
      clear hnm hc x1 x2 hp hnn hl' ho hb
      generalize m.lx.getD k (ByteArray.empty, 0) = nx at *
      obtain ⟨sx, ax⟩ := nx
      simp only at *
      have hki : (k : Int) < (m.lx.length : Int) := by omega
      have hk0 : (0 : Int) ≤ (k : Int) := by omega
      have hbwr : b < wr.heap.size := Nat.lt_of_lt_of_le hbl hwr
      obtain ⟨au, cu, rfl, -⟩ := own_sl HO.out
      go_wp2_with fail
      obtain ⟨q, hq⟩ : ∃ q, q = wr.heap.size := ⟨_, rfl⟩
      obtain ⟨WA, hWA⟩ : ∃ WA, WA = wr.alloc (.cells #[.string sx, .int .u32 ax] 136) := ⟨_, rfl⟩
      have g0 : WA.cell? ⟨q, 0, none⟩ = some (.string sx) := by rw [hWA, hq]; simp [go_sem]
      have g1 : WA.cell? ⟨q, 1, none⟩ = some (.int .u32 ax) := by rw [hWA, hq]; simp [go_sem]
      have hqA : q < WA.heap.size := by rw [hWA, hq]; simp
      have HBA := Lib.hid (show Below w2.heap.size w2 WA from by rw [hWA]; exact Bel.al HB.out _)
      have hcv := fun W : World => Go.Lib.run_convert_string_bytes (P := Tryz.prog) W 9 24 5 sx Tryz.underlying9 Tryz.underlying24 Tryz.underlying5
      have HS0 := Lib.hid (show WA.cell? ⟨q, 0, none⟩ = some (.string sx) ∧ WA.cell? ⟨q, 1, none⟩ = some (.int .u32 ax) ∧ Below WA.heap.size WA WA from ⟨g0, g1, Below.refl _ _⟩)
      have KC := Lib.hid (show ∀ W W' : World, Below W.heap.size W W' → (W.cell? ⟨q, 0, none⟩ = some (.string sx) ∧ W.cell? ⟨q, 1, none⟩ = some (.int .u32 ax) ∧ Below WA.heap.size WA W) → (W'.cell? ⟨q, 0, none⟩ = some (.string sx) ∧ W'.cell? ⟨q, 1, none⟩ = some (.int .u32 ax) ∧ Below WA.heap.size WA W') from
        fun W W' hb ⟨e1, e2, e3⟩ => ⟨(hb.cell (p := ⟨q, 0, none⟩) (Nat.lt_of_lt_of_le hqA e3.size)).trans e1, (hb.cell (p := ⟨q, 1, none⟩) (Nat.lt_of_lt_of_le hqA e3.size)).trans e2, Bel.tr e3 hb⟩)
      rw [← hq, ← hWA]
      have Hq := Lib.hid hq
      have HWA := Lib.hid hWA
      have hsz : (IntKind.u8.wrap (sx.size : Int)) = ((sx.size % 256 : Nat) : Int) := by rw [IntKind.wrap_u8]; omega
      have HS1 := Lib.hid (show WA.drew.cell? ⟨q, 0, none⟩ = some (.string sx) ∧ WA.drew.cell? ⟨q, 1, none⟩ = some (.int .u32 ax) ∧ Below WA.heap.size WA WA.drew from ⟨g0, g1, (Below.refl _ _).drew⟩)
      clear hq hWA n0 n1
      rw [show ∀ x, Op.convert 9 24 x = cvS x from fun _ => rfl]
      have KB0 := Lib.hid (show ∀ W, Below WA.heap.size WA W → Bytes W (.slice au (namesB (m.lx.take k)).length cu) (namesB (m.lx.take k)) from fun W hW => ((own_bytes HO.out (namesB_lt _)).below (by rw [HWA.out]; exact Bel.new _ _)).below hW)
      have Hlen : Hid ((namesB (m.lx.take k)).length + (le4 ax).length + [sx.size % 256].length + (byN sx).length ≤ 100000000) := Lib.hid (by
        have := Hnl.out k (by omega)
        rw [le4_length, byN_length]
        simp only [List.length_cons, List.length_nil]
        omega)
      have Hfin : Hid (∀ (W W2 : World) (v : Value), W.ownsRow W2.heap.size 5 1 v ((namesB (m.lx.take k)).length + (le4 ax).length + [sx.size % 256].length + (byN sx).length) (encN .u8 (namesB (m.lx.take k) ++ le4 ax ++ [sx.size % 256] ++ byN sx)) → Below WA.heap.size WA W2 → W.ownsRow w2.heap.size 5 1 v (namesB (m.lx.take (k + 1))).length (encN .u8 (namesB (m.lx.take (k + 1))))) := Lib.hid (fun W W2 v ho hb => by
        rw [Ht.out, nameB, List.length_append, List.length_append, List.length_append, ← Nat.add_assoc, ← Nat.add_assoc, ← List.append_assoc, ← List.append_assoc]
        exact own_down ho (Bel.tr HBA.out hb).size)
      go_region_held3 (fun w' => w'.cell? ⟨q, 0, none⟩ = some (.string sx) ∧ w'.cell? ⟨q, 1, none⟩ = some (.int .u32 ax) ∧ Below WA.heap.size WA w')
        (first | exact HS1.out | exact HS0.out | assumption | exact KC.out _ _ (Bel.new _ _) (by assumption) | exact KC.out _ _ (below_bytes _ _) (by assumption) | exact KC.out _ _ (by assumption) (by assumption))
        (first
          | ((go_at_call 54; refine (put4_one _ ax hx3 _ ?_).mono ?_; (repeat (first | exact cell1_new _ _ _ (by simp) | (with_reducible refine cell_dr ?_) | (with_reducible refine cell_alE ?_) | (with_reducible refine cell_by ?_) | (with_reducible refine cell_be (by assumption) ?_))); rintro e w' ⟨va, rfl, oa, hba⟩; obtain ⟨aa, ca, rfl, -⟩ := own_sl oa))
          | ((go_at_call 53; refine (concat4 _ _ _ _ _ (namesB (m.lx.take k)) (le4 ax) [sx.size % 256] (byN sx) ?_ ?_ ?_ ?_ ?_).mono ?_; (exact Hlen.out); (refine KB0.out _ ?_; (repeat (first | exact Below.refl _ _ | assumption | (with_reducible refine Bel.al ?_ _) | (with_reducible refine Bel.dr ?_) | (with_reducible refine bel_by ?_) | (with_reducible refine Bel.tr ?_ (by assumption))))); (refine (own_bytes oa (le4_lt _)).below ?_; (repeat (first | exact Below.refl _ _ | assumption | (with_reducible refine Bel.al ?_ _) | (with_reducible refine Bel.dr ?_) | (with_reducible refine bel_by ?_) | (with_reducible refine Bel.tr ?_ (by assumption))))); (refine (own_bytes ob (fun y hy => by rw [List.mem_singleton.1 hy]; omega)).below ?_; (repeat (first | exact Below.refl _ _ | assumption | (with_reducible refine Bel.al ?_ _) | (with_reducible refine Bel.dr ?_) | (with_reducible refine bel_by ?_) | (with_reducible refine Bel.tr ?_ (by assumption))))); (refine (bytes_conv _ sx (by omega) (by simp) rfl).below ?_; (repeat (first | exact Below.refl _ _ | assumption | (with_reducible refine Bel.al ?_ _) | (with_reducible refine Bel.dr ?_) | (with_reducible refine bel_by ?_) | (with_reducible refine Bel.tr ?_ (by assumption))))); rintro e w' ⟨vf, rfl, of, hbf⟩; obtain ⟨af, cf, rfl, -⟩ := own_sl of))
          | ((go_at_call 79; refine (put8_one _ (sx.size % 256) (by omega) _ ?_).mono ?_; (repeat (first | exact cell1_new _ _ _ (by simp) | (with_reducible refine cell_dr ?_) | (with_reducible refine cell_alE ?_) | (with_reducible refine cell_by ?_) | (with_reducible refine cell_be (by assumption) ?_))); rintro e w' ⟨vb, rfl, ob, hbb⟩; obtain ⟨ab, cb, rfl, -⟩ := own_sl ob))
)
      all_goals (
        have HF := Lib.hid (Hfin.out _ _ _ of (by (repeat (first | exact Below.refl _ _ | assumption | (with_reducible refine Bel.al ?_ _) | (with_reducible refine Bel.dr ?_) | (with_reducible refine bel_by ?_) | (with_reducible refine Bel.tr ?_ (by assumption))))))
        have HFB : Hid (Below WA.heap.size WA w') := Lib.hid (by (repeat (first | exact Below.refl _ _ | assumption | (with_reducible refine Bel.al ?_ _) | (with_reducible refine Bel.dr ?_) | (with_reducible refine bel_by ?_) | (with_reducible refine Bel.tr ?_ (by assumption)))))
        go_wp2_with fail
        go_roundw
        case rel => exact ⟨k + 1, by omega, by go_num, HF.out, Bel.tr HBA.out HFB.out⟩
        case measure => simp [intOf]; omega)
    · obtain rfl : k = m.lx.length := by omega
      have HOn := Lib.hid (show wr.ownsRow w2.heap.size 5 1 u8 (namesB m.lx).length (encN .u8 (namesB m.lx)) from by
        have := HO.out
        rwa [List.take_length] at this)
      obtain ⟨au, cu, rfl, -⟩ := own_sl HOn.out
      have e0 := (HB.out.cell (p := ⟨w.heap.size, 0, none⟩) hs2).trans d0
      have e1 := (HB.out.cell (p := ⟨w.heap.size, 1, none⟩) hs2).trans d1
      have e2 := (HB.out.cell (p := ⟨w.heap.size, 2, none⟩) hs2).trans d2
      have e3 := (HB.out.cell (p := ⟨w.heap.size, 3, none⟩) hs2).trans d3
      have e4 := (HB.out.cell (p := ⟨w.heap.size, 4, none⟩) hs2).trans d4
      have hs3 : w.heap.size < wr.heap.size := Nat.lt_of_lt_of_le hs2 hwr
      have H3 := Lib.hid (H2.out.below HB.out)
      have P0 := Lib.hid ((own_bytes HOC.out (encode_lt _ H2.out.c.2)).below HB.out)
      have P3 := Lib.hid (own_bytes HOn.out (namesB_lt _))
      have HJ := Lib.hid (show ∀ W, Below wr.heap.size wr W → Calls Tryz.prog 54 #[.slice aj m.js.length cj] W fun e w' => ∃ v, e = .returned v ∧ w'.ownsRow W.heap.size 5 1 v (4 * m.js.length) (encN .u8 (le4s m.js)) ∧ Below W.heap.size W w' from fun W hW => by
        refine (put_any aj cj m.js (words_lt H3.out.j) W (H3.out.j.1.below hW) (by omega)).mono ?_
        rintro e w' ⟨v', rfl, hown, hg⟩
        exact ⟨v', rfl, own_from hown (fun g e => (hg.2 g e).resolve_left (by simp [Value.ownBlock])), hg.bel⟩)
      have HS1 := Lib.hid (show wr.drew.cell? ⟨w.heap.size, 1, none⟩ = some (.slice aj m.js.length cj) ∧ wr.drew.cell? ⟨w.heap.size, 2, none⟩ = some (.slice ad m.data.length cd) ∧ Below wr.heap.size wr wr.drew from ⟨e1, e2, Bel.dr (Below.refl _ _)⟩)
      have KC := Lib.hid (show ∀ W W' : World, Below W.heap.size W W' → (W.cell? ⟨w.heap.size, 1, none⟩ = some (.slice aj m.js.length cj) ∧ W.cell? ⟨w.heap.size, 2, none⟩ = some (.slice ad m.data.length cd) ∧ Below wr.heap.size wr W) → (W'.cell? ⟨w.heap.size, 1, none⟩ = some (.slice aj m.js.length cj) ∧ W'.cell? ⟨w.heap.size, 2, none⟩ = some (.slice ad m.data.length cd) ∧ Below wr.heap.size wr W') from
        fun W W' hb ⟨x1, x2, x3⟩ => ⟨(hb.cell (p := ⟨w.heap.size, 1, none⟩) (Nat.lt_of_lt_of_le hs3 x3.size)).trans x1, (hb.cell (p := ⟨w.heap.size, 2, none⟩) (Nat.lt_of_lt_of_le hs3 x3.size)).trans x2, Bel.tr x3 hb⟩)
      have HOC0 := Lib.hid HB.out
      clear d0 d1 d2 d3 d4 d5
      go_wp2_with fail
      go_region_held3 (fun w' => w'.cell? ⟨w.heap.size, 1, none⟩ = some (.slice aj m.js.length cj) ∧ w'.cell? ⟨w.heap.size, 2, none⟩ = some (.slice ad m.data.length cd) ∧ Below wr.heap.size wr w')
        (first | exact HS1.out | assumption | exact KC.out _ _ (Bel.new _ _) (by assumption) | exact KC.out _ _ (by assumption) (by assumption))
        ((go_at_call 54; refine (HJ.out _ ?_).mono ?_; (repeat (first | exact Below.refl _ _ | assumption | (with_reducible refine Bel.al ?_ _) | (with_reducible refine Bel.dr ?_) | (with_reducible refine bel_by ?_) | (with_reducible refine Bel.tr ?_ (by assumption)))); rintro e w3 ⟨vj, rfl, oj, hbj⟩; obtain ⟨aj', cj', rfl, -⟩ := own_sl oj))
      have HBJ := Lib.hid (show Below wr.heap.size wr w3 from by (repeat (first | exact Below.refl _ _ | assumption | (with_reducible refine Bel.al ?_ _) | (with_reducible refine Bel.dr ?_) | (with_reducible refine bel_by ?_) | (with_reducible refine Bel.tr ?_ (by assumption)))))
      have PJ := Lib.hid (own_bytes oj (le4s_lt _))
      have HL := Lib.hid (lists4 w3 _ _ _ _ _ _ _ _ (P0.out.below HBJ.out) PJ.out (H3.out.d.below HBJ.out) (P3.out.below HBJ.out))
      obtain ⟨q4, hq4⟩ : ∃ q4, q4 = w3.heap.size := ⟨_, rfl⟩
      obtain ⟨W4, hW4⟩ : ∃ W4, W4 = w3.alloc (.cells #[.slice auc (encode m.code).length cuc, .slice aj' (4 * m.js.length) cj', .slice ad m.data.length cd, .slice au (namesB m.lx).length cu] 24) := ⟨_, rfl⟩
      have HB4 : Hid (Below w.heap.size w W4) := Lib.hid (by rw [hW4]; exact Bel.al (Bel.tr (Bel.tr (Bel.tr (HB1.out) HB2.out) HB.out) HBJ.out) _)
      have HB34 : Hid (Below wr.heap.size wr W4) := Lib.hid (by rw [hW4]; exact Bel.al HBJ.out _)
      have f0 := (HB34.out.cell (p := ⟨w.heap.size, 0, none⟩) hs3).trans e0
      have f3 := (HB34.out.cell (p := ⟨w.heap.size, 3, none⟩) hs3).trans e3
      have f4 := (HB34.out.cell (p := ⟨w.heap.size, 4, none⟩) hs3).trans e4
      have hs4 : w.heap.size < W4.heap.size := Nat.lt_of_lt_of_le hs3 HB34.out.size
      have HL4 : Hid (ListsB W4 q4 [.slice auc (encode m.code).length cuc, .slice aj' (4 * m.js.length) cj', .slice ad m.data.length cd, .slice au (namesB m.lx).length cu] (partsI m)) := Lib.hid (by rw [hW4, hq4]; exact HL.out)
      have L0 := encode_len m.code
      have L1 := le4s_length m.js
      have L3 := Hnl.out m.lx.length (Nat.le_refl _)
      rw [List.take_length] at L3
      unfold roomN at hc5
      have HLs : Hid (∀ k, ((partsI m).getD k []).length ≤ 200000) := Lib.hid (fun k => by
        unfold partsI
        match k with
        | 0 => simp; omega
        | 1 => simp; omega
        | 2 => simp; omega
        | 3 => simp; omega
        | k + 4 => simp)
      have HLsum : Hid (((partsI m).map List.length).sum ≤ 800000) := Lib.hid (by
        unfold partsI
        simp only [List.map_cons, List.map_nil, List.sum_cons, List.sum_nil]
        omega)
      have Hz := H3.out.z
      have Hst := H3.out.s
      rw [← hW4, ← hq4]
      clear hW4 hq4 HL P0 PJ P3 H3 HJ KC HS1 e0 e1 e2 e3 e4 HOn HOC HB1 HB2 HB HBJ HB34 oj HO HOC0 H2 H1 Henc Hnl hc2 hc4 hc7 L0 L1 L3
      obtain ⟨j0, hj, hy0, hy1, hy2⟩ := info_parts info32
      have hqlt := HL4.out.hq
      go_wp2_with fail
      go_loopw [12, 70] (fun u i wx => ∃ k : Nat, k ≤ 4 ∧ i = .int .i64 k ∧ wx.ownsRow W4.heap.size 25 1 u k (encN .u32 (((partsI m).map List.length).take k)) ∧ Below W4.heap.size W4 wx) (fun _ i _ => 4 - (intOf i).toNat)
      case atStart => exact ⟨0, by omega, rfl, World.ownsRow_nil _ _ _ _, Below.refl _ _⟩
      case round =>
        obtain ⟨k, hk, rfl, ho, hb⟩ := hrel
        have HO := Lib.hid ho
        have HB := Lib.hid hb
        have HOo := Lib.hid (own_base ho)
        clear ho hb
        by_cases hlt : k < 4
        · obtain ⟨ak, ck, hcell, -⟩ := HL4.out.at k hlt
          have hcell' := (HB.out.cell (p := ⟨q4, k, none⟩) hqlt).trans hcell
          have Ht : Hid (((partsI m).map List.length).take (k + 1) = ((partsI m).map List.length).take k ++ [((partsI m).getD k []).length]) := Lib.hid (by
            have hk4 : k < (partsI m).length := hlt
            rw [List.take_add_one, List.getElem?_map, List.getElem?_eq_getElem hk4, List.getD_eq_getElem?_getD, List.getElem?_eq_getElem hk4]
            rfl)
          have hle := HLs.out k
          clear hcell
          generalize (partsI m).getD k [] = pk at *
          have hw : IntKind.u32.wrap ((pk.length : Nat) : Int) = ((pk.length : Nat) : Int) := u32_wrap _ (by omega)
          have hki : (k : Int) < 4 := by omega
          have hk0 : (0 : Int) ≤ (k : Int) := by omega
          go_wp2_with ((with_reducible refine wpList_append1B (o := ⟨some 79, .call { callee := .builtin .append, args := #[.tmp 74, .tmp 78], argTypes := #[23, 23] }, _, _, _, none⟩) rfl _ _ 23 rfl 25 j0 (.int .u32 0) 1 4 Tryz.underlying23 hj hy0 hy1 hy2 ?_ ?_ _ _ _ HOo.out _ _ wr.heap.size ?_ ?_ ?_ ?_ ?_ ?_ ?_ ?_); rfl; decide; rfl; rfl; rfl; rfl; (simp [Value.oneCell']); (unfold maxLen; omega); omega; intro g c w5 hr1 hg1 hl1)
          go_roundw
          case rel => exact ⟨k + 1, by omega, by go_num, by
              rw [Ht.out, encN_append]
              exact own_from hr1 (fun g' e => by
                rcases hg1.2 g' e with h' | h'
                · exact (HO.out.lt g' h').1
                · have := HB.out.size; omega), HB.out.grown hg1.1 HB.out.size (fun g' e => (HO.out.lt g' e).1)⟩
          case measure => simp [intOf]; omega
        · obtain rfl : k = 4 := by omega
          have hl4 : ((partsI m).map List.length).length = 4 := rfl
          have HW := Lib.hid (show Words wr (u12) ((partsI m).map List.length) from by
            have h := HO.out
            rw [List.take_of_length_le (Nat.le_of_eq hl4)] at h
            exact ⟨Reads.own (own_base h) (by decide), fun j => by
              have := HLs.out j
              have e : ((partsI m).map List.length).getD j 0 = ((partsI m).getD j []).length := by
                simp only [List.getD_eq_getElem?_getD, List.getElem?_map]
                cases (partsI m)[j]? <;> rfl
              omega⟩)
          have HY := Lib.hid (laySpans_any _ 64 ((partsI m).map List.length) (by rw [hl4]; decide) (by have := HLsum.out; omega) wr HW.out)
          have g0 := (HB.out.cell (p := ⟨w.heap.size, 0, none⟩) hs4).trans f0
          have g3 := (HB.out.cell (p := ⟨w.heap.size, 3, none⟩) hs4).trans f3
          have g4 := (HB.out.cell (p := ⟨w.heap.size, 4, none⟩) hs4).trans f4
          have hs5 : w.heap.size < wr.heap.size := Nat.lt_of_lt_of_le hs4 HB.out.size
          clear f0 f3 f4 HW HO HOo
          go_wp2_with fail
          refine HY.out.mono ?_
          rintro e w5 ⟨us, rfl, os, hb5⟩
          have HOS := Lib.hid os
          have HB5 := Lib.hid hb5
          obtain ⟨sa, sc, rfl, -⟩ := own_sl os
          have h0 := (hb5.cell (p := ⟨w.heap.size, 0, none⟩) hs5).trans g0
          have h3 := (hb5.cell (p := ⟨w.heap.size, 3, none⟩) hs5).trans g3
          have h4 := (hb5.cell (p := ⟨w.heap.size, 4, none⟩) hs5).trans g4
          have hs6 : w.heap.size < w5.heap.size := Nat.lt_of_lt_of_le hs5 hb5.size
          clear g0 g3 g4 os hb5 HY
          have hwc : IntKind.u32.wrap ((m.code.length : Nat) : Int) = ((m.code.length : Nat) : Int) := u32_wrap _ (by omega)
          have hcc := Go.Lib.run_convert_bytes_const (P := Tryz.prog) w5 24 5 #[.int .u8 80, .int .u8 69, .int .u8 78, .int .u8 33] 4 4 Tryz.underlying24 Tryz.underlying5
          go_wp2_with fail
          refine (put_at [1, 0, m.code.length] ?_ ?_ ?_ ?_ ?_).mono ?_
          · simp; omega
          · simp
          · simp
          · rfl
          · rfl
          rintro e w6 ⟨uh, rfl, oh, hb6⟩
          obtain ⟨ha, hcp, rfl, -⟩ := own_sl oh
          have PH := Lib.hid (own_bytes oh (le4s_lt _))
          have P4 := Lib.hid ((bytes_new [80, 69, 78, 33] (by decide) (by decide) w5 4 rfl _ _ rfl).below hb6)
          have HB6 := Lib.hid (Bel.tr (Bel.new _ _) hb6)
          have HL6 := Lib.hid (HL4.out.below (Bel.tr (Bel.tr HB.out HB5.out) HB6.out))
          have HBw6 := Lib.hid (Bel.tr (Bel.tr (Bel.tr HB4.out HB.out) HB5.out) HB6.out)
          clear oh hb6
          go_wp2_with fail
          refine (concat2 w6 _ _ [80, 69, 78, 33] (le4s [1, 0, m.code.length]) (by rw [List.length_append, le4s_length]; simp) P4.out PH.out).mono ?_
          rintro e w7 ⟨ux, rfl, ox, hb7⟩
          obtain ⟨sp, hsp⟩ : ∃ sp, sp = spansL 64 ((partsI m).map List.length) := ⟨_, rfl⟩
          have Hspl : sp.length = 4 := by rw [hsp, spansL_length]; exact hl4
          have Hspb := Lib.hid (spansL_lt 4294967296 ((partsI m).map List.length) 64 (by have := HLsum.out; omega))
          rw [← hsp] at HOS Hspb
          have Hsp := Lib.hid hsp
          have HX := Lib.hid (show w7.ownsRow w6.heap.size 5 1 ux (16 + 8 * 0) (encN .u8 (headI m ++ flatS (sp.take 0))) from by
            rw [show (([80, 69, 78, 33] : List Nat) ++ le4s [1, 0, m.code.length]).length = 16 + 8 * 0 from by rw [List.length_append, le4s_length]; rfl] at ox
            rw [List.take_zero, show flatS [] = [] from rfl, List.append_nil]
            exact ox)
          have HHl : Hid ((headI m).length = 16) := Lib.hid (by unfold headI; rw [List.length_append, le4s_length]; rfl)
          have HB7 := Lib.hid hb7
          have PS := Lib.hid (Reads.own (own_base HOS.out) (by decide) : Reads w5 2 (.slice sa ((partsI m).map List.length).length sc) _ _)
          clear hsp ox hb7 P4 PH
          rw [hl4] at PS
          obtain ⟨i0, hi, hz0, hz1, hz2⟩ := info_parts info5
          obtain ⟨a', c', he, -, -, -, -, hp⟩ := PS.out
          cases he
          obtain ⟨b5, o5, rfl, hbl5, hc⟩ := hp (by decide)
          have HC5 := Lib.hid hc
          have hb56 : b5 < w6.heap.size := Nat.lt_of_lt_of_le hbl5 HB6.out.size
          have hs7 : w.heap.size < w6.heap.size := Nat.lt_of_lt_of_le hs6 HB6.out.size
          clear hp hc PS HOS
          go_wp2_with fail
          go_loopw [16, 101] (fun u i wr => ∃ k : Nat, k ≤ 4 ∧ i = .int .i64 k ∧ wr.ownsRow w6.heap.size 5 1 u (16 + 8 * k) (encN .u8 (headI m ++ flatS (sp.take k))) ∧ Below w6.heap.size w6 wr) (fun _ i _ => 4 - (intOf i).toNat)
          case atStart => exact ⟨0, by omega, rfl, HX.out, HB7.out⟩
          case round =>
            obtain ⟨k, hk, rfl, ho, hb⟩ := hrel
            have HO := Lib.hid ho
            have HB := Lib.hid hb
            clear ho hb
            by_cases hlt : k < 4
            · obtain ⟨x1, x2⟩ := encS_at sp k (by omega)
              have n0 := (HB.out.cell (p := ⟨b5, o5 + k * 2, none⟩) hb56).trans ((HB6.out.cell (p := ⟨b5, o5 + k * 2, none⟩) hbl5).trans ((HC5.out (k * 2) (by rw [encS_length]; omega)).trans x1))
              have n1 : wr.cell? ⟨b5, o5 + k * 2 + 1, none⟩ = some (.int .u32 (sp.getD k (0, 0)).2) := (HB.out.cell (p := ⟨b5, o5 + k * 2 + 1, none⟩) hb56).trans ((HB6.out.cell (p := ⟨b5, o5 + k * 2 + 1, none⟩) hbl5).trans ((by rw [Nat.add_assoc]; exact HC5.out (k * 2 + 1) (by rw [encS_length]; omega) : w5.cell? ⟨b5, o5 + k * 2 + 1, none⟩ = _).trans x2))
              have Ht := Lib.hid (flatS_take sp k (by omega))
              have hlt1 : (sp.getD k (0, 0)).1 < 4294967296 ∧ (sp.getD k (0, 0)).2 < 4294967296 := by
                have hks : k < sp.length := by omega
                rw [List.getD_eq_getElem?_getD, List.getElem?_eq_getElem hks]
                exact Hspb.out _ (List.getElem_mem hks)
              clear x1 x2
              generalize sp.getD k (0, 0) = sk at *
              obtain ⟨s1, s2⟩ := sk
              simp only at *
              have hki : (k : Int) < 4 := by omega
              have hk0 : (0 : Int) ≤ (k : Int) := by omega
              obtain ⟨au2, cu2, rfl, -⟩ := own_sl HO.out
              go_wp2_with fail
              refine (put_at [s1, s2] ?_ ?_ ?_ ?_ ?_).mono ?_
              · simp; omega
              · simp
              · simp
              · rfl
              · rfl
              rintro e w8 ⟨up, rfl, op, hb8⟩
              have HBc := Lib.hid (Bel.of hb8)
              have HOc := Lib.hid (own_below (own_base HO.out) HBc.out)
              have Hop : Hid (Reads w8 1 up 8 (encN .u8 (le4s [s1, s2]))) := Lib.hid (Reads.own (own_base op) (by decide))
              have Hone := Lib.hid (encN_one .u8 (le4s [s1, s2]))
              clear op hb8
              go_wp2_with ((with_reducible refine wpList_append_reads (o := ⟨some 112, .call { callee := .builtin .append, args := #[.tmp 105, .tmp 111], argTypes := #[24, 24] }, _, _, _, none⟩) rfl _ _ 24 rfl 5 i0 (.int .u8 0) 1 1 Tryz.underlying24 hi hz0 hz1 hz2 ?_ ?_ _ _ _ ?_ HOc.out _ _ _ ?_ Hop.out Hone.out ?_ ?_ ?_); rfl; decide; rfl; rfl; (unfold maxLen; omega); omega; intro v3 w9 o3 g3)
              have HB9 := Lib.hid (Bel.tr HB.out HBc.out)
              go_roundw
              case rel => exact ⟨k + 1, by omega, by go_num, by
                  rw [Ht.out, ← List.append_assoc, encN_append, show 16 + 8 * (k + 1) = 16 + 8 * k + 8 from by omega]
                  exact own_from o3 (fun g e => by
                    rcases g3.2 g e with h' | h'
                    · exact (HO.out.lt g h').1
                    · have := HB9.out.size; omega), HB9.out.grown g3.1 HB9.out.size (fun g e => (HO.out.lt g e).1)⟩
              case measure => simp [intOf]; omega
            · obtain rfl : k = 4 := by omega
              have htk : sp.take 4 = sp := List.take_of_length_le (by omega)
              have HO2 := Lib.hid (show wr.ownsRow w6.heap.size 5 1 u16 48 (encN .u8 (headI m ++ flatS sp)) from by
                have := HO.out
                rwa [htk] at this)
              have i3 := (HB.out.cell (p := ⟨w.heap.size, 3, none⟩) hs7).trans ((HB6.out.cell (p := ⟨w.heap.size, 3, none⟩) hs6).trans h3)
              have i4 := (HB.out.cell (p := ⟨w.heap.size, 4, none⟩) hs7).trans ((HB6.out.cell (p := ⟨w.heap.size, 4, none⟩) hs6).trans h4)
              clear HO htk h3 h4 HX HC5 h0
              obtain ⟨au2, cu2, rfl, -⟩ := own_sl HO2.out
              go_wp2_with fail
              refine (put_at [m.zero, m.stack, 0, 0] ?_ ?_ ?_ ?_ ?_).mono ?_
              · simp; omega
              · simp
              · rfl
              · rfl
              · rfl
              rintro e w8 ⟨up, rfl, op, hb8⟩
              have HBc := Lib.hid (hb8)
              have HOc := Lib.hid (own_below (own_base HO2.out) HBc.out)
              have Hop : Hid (Reads w8 1 up 16 (encN .u8 (le4s [m.zero, m.stack, 0, 0]))) := Lib.hid (Reads.own (own_base op) (by decide))
              have Hone := Lib.hid (encN_one .u8 (le4s [m.zero, m.stack, 0, 0]))
              clear op hb8
              go_wp2_with ((with_reducible refine wpList_append_reads (o := ⟨some 121, .call { callee := .builtin .append, args := #[.tmp 114, .tmp 120], argTypes := #[24, 24] }, _, _, _, none⟩) rfl _ _ 24 rfl 5 i0 (.int .u8 0) 1 1 Tryz.underlying24 hi hz0 hz1 hz2 ?_ ?_ _ _ _ ?_ HOc.out _ _ _ ?_ Hop.out Hone.out ?_ ?_ ?_); rfl; decide; rfl; rfl; (unfold maxLen; omega); omega; intro v3 w9 o3 g3)
              have HB9 := Lib.hid ((Bel.tr HB.out HBc.out).grown g3.1 (Bel.tr HB.out HBc.out).size (fun g e => (HO2.out.lt g e).1))
              have HX9 := Lib.hid (show w9.ownsRow w6.heap.size 5 1 v3 64 (encN .u8 (headI m ++ flatS sp ++ le4s [m.zero, m.stack, 0, 0])) from by
                rw [encN_append]
                exact own_from o3 (fun g e => by
                  rcases g3.2 g e with h' | h'
                  · exact (HO2.out.lt g h').1
                  · have := (Bel.tr HB.out HBc.out).size; omega))
              have HHr : Hid (headI m ++ flatS sp ++ le4s [m.zero, m.stack, 0, 0] ++ (partsI m).flatten = rawI m) := Lib.hid (by
                rw [rawI, Hsp.out, flatS, List.flatMap_id, List.append_assoc, List.append_assoc])
              have HLl : Hid ((headI m ++ flatS sp ++ le4s [m.zero, m.stack, 0, 0]).length = 64 ∧ ∀ x ∈ headI m ++ flatS sp ++ le4s [m.zero, m.stack, 0, 0], x < 256) := Lib.hid ⟨by
                rw [List.length_append, List.length_append, le4s_length, flatS_length, HHl.out, Hspl]; rfl, fun x hx => by
                rcases List.mem_append.1 hx with hx | hx
                · rcases List.mem_append.1 hx with hx | hx
                  · unfold headI at hx
                    rcases List.mem_append.1 hx with hx | hx
                    · have : ∀ y ∈ ([80, 69, 78, 33] : List Nat), y < 256 := by decide
                      exact this x hx
                    · exact le4s_lt _ x hx
                  · exact flatS_lt _ x hx
                · exact le4s_lt _ x hx⟩
              clear HO2 i3 i4 HB HBc HOc Hop Hone o3 g3
              generalize headI m ++ flatS sp ++ le4s [m.zero, m.stack, 0, 0] = Lp at *
              have HPt : Hid ((partsI m).flatten.length ≤ 800000) := Lib.hid (by rw [List.length_flatten]; exact HLsum.out)
              go_loopw [16, 124] (fun u i wr => ∃ k N : Nat, k ≤ 4 ∧ i = .int .i64 k ∧ N = ((partsI m).take k).flatten.length ∧ wr.ownsRow w6.heap.size 5 1 u (64 + N) (encN .u8 (Lp ++ ((partsI m).take k).flatten)) ∧ Below w6.heap.size w6 wr) (fun _ i _ => 4 - (intOf i).toNat)
              case atStart => exact ⟨0, 0, by omega, rfl, rfl, by rw [List.take_zero, List.flatten_nil, List.append_nil]; exact HX9.out, HB9.out⟩
              case round =>
                obtain ⟨k, N, hk, rfl, hN, ho, hb⟩ := hrel
                have HO := Lib.hid ho
                have HB := Lib.hid hb
                have HN := Lib.hid hN
                clear ho hb hN
                by_cases hlt : k < 4
                · have hkl : k < (partsI m).length := hlt
                  obtain ⟨ak, ck, hcell, hbs⟩ := HL6.out.at k hkl
                  have hcell' := (HB.out.cell (p := ⟨q4, k, none⟩) HL6.out.hq).trans hcell
                  have Hbs := Lib.hid ((hbs.below HB.out).1)
                  have Ht := Lib.hid (flat_take (partsI m) k hkl)
                  have hle := flat_le (partsI m) (k + 1)
                  rw [Ht.out, List.length_append, ← HN.out] at hle
                  have hle2 : N + ((partsI m).getD k []).length ≤ 800000 := Nat.le_trans hle HPt.out
                  clear hcell hbs hle hkl
                  generalize (partsI m).getD k [] = pk at *
                  have Hone := Lib.hid (encN_one .u8 pk)
                  have HOo := Lib.hid (own_base HO.out)
                  have hki : (k : Int) < 4 := by omega
                  have hk0 : (0 : Int) ≤ (k : Int) := by omega
                  obtain ⟨au2, cu2, rfl, -⟩ := own_sl HO.out
                  go_wp2_with ((with_reducible refine wpList_append_reads (o := ⟨some 130, .call { callee := .builtin .append, args := #[.tmp 128, .tmp 129], argTypes := #[24, 24] }, _, _, _, none⟩) rfl _ _ 24 rfl 5 i0 (.int .u8 0) 1 1 Tryz.underlying24 hi hz0 hz1 hz2 ?_ ?_ _ _ _ ?_ HOo.out _ _ _ ?_ Hbs.out Hone.out ?_ ?_ ?_); rfl; decide; rfl; rfl; (unfold maxLen; omega); omega; intro v4 w10 o4 g4)
                  go_roundw
                  case rel => exact ⟨k + 1, N + pk.length, by omega, by go_num, by rw [Ht.out, List.length_append, ← HN.out], by
                      rw [Ht.out, ← List.append_assoc, encN_append, ← Nat.add_assoc]
                      exact own_from o4 (fun g e => by
                        rcases g4.2 g e with h' | h'
                        · exact (HO.out.lt g h').1
                        · have := HB.out.size; omega), HB.out.grown g4.1 HB.out.size (fun g e => (HO.out.lt g e).1)⟩
                  case measure => simp [intOf]; omega
                · obtain rfl : k = 4 := by omega
                  have htk : (partsI m).take 4 = partsI m := List.take_of_length_le (Nat.le_refl 4)
                  have hO := HO.out
                  have hn := HN.out
                  have hLl := HLl.out
                  rw [htk] at hO hn
                  have hplt : ∀ x ∈ (partsI m).flatten, x < 256 := by
                    intro x hx
                    obtain ⟨l, hl, hx⟩ := List.mem_flatten.1 hx
                    obtain ⟨j, hj, rfl⟩ := List.getElem_of_mem hl
                    obtain ⟨_, _, _, hbs⟩ := HL6.out.at j hj
                    have := hbs.2
                    rw [List.getD_eq_getElem?_getD, List.getElem?_eq_getElem hj] at this
                    exact this x hx
                  have HS := Lib.hid (sealed_any u16 (Lp ++ (partsI m).flatten) (by rw [List.length_append]; omega) (by have := HPt.out; rw [List.length_append]; omega) wr (own_bytes hO (fun x hx => (List.mem_append.1 hx).elim (hLl.2 x) (hplt x))))
                  rw [HHr.out] at HS
                  clear hO hn hLl htk hplt
                  go_wp2_with fail
                  refine HS.out.mono ?_
                  rintro e w11 ⟨uz, rfl, oz, hbz⟩
                  go_wp2_with fail
                  go_ret2
                  exact ⟨_, rfl, own_down oz (Bel.tr HBw6.out HB.out).size, Bel.tr (Bel.tr HBw6.out HB.out) hbz⟩
end Go.Proofs.YtflpbgdghaaiaaaGreat
namespace Go.Proofs.YtflpbgdghaaiaaaGreat
open Go.RowKit
set_option linter.unusedVariables false
def bitsFrom (n : Nat) : Nat → Nat → Nat
  | 0, k => k
  | f + 1, k => if 2 ^ k < n then bitsFrom n f (k + 1) else k
def bitsI (m : Img) : Nat := bitsFrom (roomN m) 8 8
theorem bitsFrom_spec (n : Nat) : ∀ (f k : Nat), n ≤ 2 ^ (k + f) → k ≤ bitsFrom n f k ∧ bitsFrom n f k ≤ k + f ∧ n ≤ 2 ^ bitsFrom n f k
  | 0, k, h => ⟨Nat.le_refl _, Nat.le_refl _, h⟩
  | f + 1, k, h => by
    unfold bitsFrom
    split
    · obtain ⟨h1, h2, h3⟩ := bitsFrom_spec n f (k + 1) (by rw [show k + 1 + f = k + (f + 1) from by omega]; exact h)
      exact ⟨by omega, by omega, h3⟩
    · exact ⟨Nat.le_refl _, by omega, by omega⟩
theorem bitsI_spec {m : Img} (h : roomN m ≤ 65536) : 8 ≤ bitsI m ∧ bitsI m ≤ 16 ∧ roomN m ≤ 2 ^ bitsI m := bitsFrom_spec (roomN m) 8 8 (by simpa using h)
set_option maxRecDepth 100000 in
set_option maxHeartbeats 2000000 in
theorem bits_any (vc vj vd vn : Value) (m : Img) (hm : checkI m = 0) (hr : roomN m ≤ 65536) (w : World) (h : ImgAt w vc vj vd vn m) :
    Calls Tryz.prog 40 #[.agg #[vc, vj, vd, .int .u32 m.zero, .int .u32 m.stack, vn]] w fun e w' => e = .returned (.tuple #[.int .i64 (bitsI m), .int .i64 0]) ∧ Below w.heap.size w w' := by
  have hb0 := Bel.new w (.cells #[vc, vj, vd, .int .u32 m.zero, .int .u32 m.stack, vn] 28)
  obtain ⟨W0, hW0⟩ : ∃ W0, W0 = w.alloc (.cells #[vc, vj, vd, .int .u32 m.zero, .int .u32 m.stack, vn] 28) := ⟨_, rfl⟩
  have HK := Lib.hid (imgCheck_any vc vj vd vn m W0 (by rw [hW0]; exact h.below hb0))
  rw [hm] at HK
  have HC := Lib.hid (cells_new6 w vc vj vd (.int .u32 m.zero) (.int .u32 m.stack) vn 28)
  have HB0 := Lib.hid (show Below w.heap.size w W0 from by rw [hW0]; exact hb0)
  have hs0 : w.heap.size < W0.heap.size := by rw [hW0]; simp
  obtain ⟨ac, cc, rfl, -⟩ := h.c.1
  obtain ⟨aj, cj, rfl, -⟩ := h.j.1
  obtain ⟨ad, cd, rfl, -, -, hdm, -, -⟩ := h.d.1
  obtain ⟨an, cn, rfl, -⟩ := h.n.1
  have hz := h.z
  have hst := h.s
  have hdl : m.data.length ≤ 9223372036854775807 := by unfold roomN at hr; omega
  have Hr := Lib.hid hr
  have HR := Lib.hid (fun W => room_any m.data.length m.zero m.stack hdl hz hst W)
  have Hrn := Lib.hid (show m.data.length + m.zero + m.stack = roomN m from rfl)
  obtain ⟨r, hrr⟩ : ∃ r, r = bitsI m := ⟨_, rfl⟩
  rw [← hrr]
  have Hrr := Lib.hid (show r = bitsFrom (roomN m) 8 8 from hrr)
  clear h hb0 hr
  go_enter Tryz.func40, Tryz.ntmps40
  go_wp2_with fail
  rw [← hW0]
  refine HK.out.mono ?_
  rintro e w1 ⟨rfl, hb1⟩
  have c2 : w1.cell? ⟨w.heap.size, 2, none⟩ = some (.slice ad m.data.length cd) := (hb1.cell (p := ⟨w.heap.size, 2, none⟩) hs0).trans (by rw [hW0]; exact HC.out.2.2.1)
  have c3 : w1.cell? ⟨w.heap.size, 3, none⟩ = some (.int .u32 m.zero) := (hb1.cell (p := ⟨w.heap.size, 3, none⟩) hs0).trans (by rw [hW0]; exact HC.out.2.2.2.1)
  have c4 : w1.cell? ⟨w.heap.size, 4, none⟩ = some (.int .u32 m.stack) := (hb1.cell (p := ⟨w.heap.size, 4, none⟩) hs0).trans (by rw [hW0]; exact HC.out.2.2.2.2.1)
  have HB1 := Lib.hid (Bel.tr HB0.out hb1)
  rw [Hrn.out] at HR
  clear hb1 hW0 HC HK hrr
  go_wp2_with fail
  have hle : roomN m ≤ 65536 := Hr.out
  generalize roomN m = N at *
  go_loopw [5] (fun k wr => ∃ (j : Nat), k = .int .i64 j ∧ 8 ≤ j ∧ j ≤ 16 ∧ wr.cell? ⟨w.heap.size, 2, none⟩ = some (.slice ad m.data.length cd) ∧ wr.cell? ⟨w.heap.size, 3, none⟩ = some (.int .u32 m.zero) ∧ wr.cell? ⟨w.heap.size, 4, none⟩ = some (.int .u32 m.stack) ∧ Below w.heap.size w wr ∧ bitsFrom N (16 - j) j = r) (fun k _ => 17 - (intOf k).toNat)
  case atStart => exact ⟨8, rfl, by omega, by omega, c2, c3, c4, HB1.out, Hrr.out.symm⟩
  case round =>
    obtain ⟨j, rfl, hj1, hj2, d2, d3, d4, hbw, hbj⟩ := hrel
    have Hbj := Lib.hid hbj
    have Hbw := Lib.hid hbw
    clear hbj c2 c3 c4 hbw
    have hj : j = 8 ∨ j = 9 ∨ j = 10 ∨ j = 11 ∨ j = 12 ∨ j = 13 ∨ j = 14 ∨ j = 15 ∨ j = 16 := by omega
    have HS := Lib.hid (show wr.cell? ⟨w.heap.size, 2, none⟩ = some (.slice ad m.data.length cd) ∧ wr.cell? ⟨w.heap.size, 3, none⟩ = some (.int .u32 m.zero) ∧ wr.cell? ⟨w.heap.size, 4, none⟩ = some (.int .u32 m.stack) from ⟨d2, d3, d4⟩)
    have w8 : IntKind.u64.wrap 256 = 256 := by decide
    have w9 : IntKind.u64.wrap 512 = 512 := by decide
    have w10 : IntKind.u64.wrap 1024 = 1024 := by decide
    have w11 : IntKind.u64.wrap 2048 = 2048 := by decide
    have w12 : IntKind.u64.wrap 4096 = 4096 := by decide
    have w13 : IntKind.u64.wrap 8192 = 8192 := by decide
    have w14 : IntKind.u64.wrap 16384 = 16384 := by decide
    have w15 : IntKind.u64.wrap 32768 = 32768 := by decide
    have w16 : IntKind.u64.wrap 65536 = 65536 := by decide
    have hb := Hbj.out
    obtain ⟨M, hM⟩ : ∃ M : Nat, M = 2 ^ j := ⟨_, rfl⟩
    have HM := Lib.hid hM
    by_cases hlt : 2 ^ j < N
    · have hj16 : j < 16 := by
        by_cases e : j = 16
        · subst e; simp at hlt; omega
        · omega
      have hbn : bitsFrom N (16 - (j + 1)) (j + 1) = r := by
        rw [← hb, show 16 - j = (16 - (j + 1)) + 1 from by omega, bitsFrom, if_pos hlt]
      have Hbn := Lib.hid hbn
      have hN : M < N := by rw [hM]; exact hlt
      have hI : (M : Int) < (N : Int) := by omega
      have hdl : decide ((M : Int) < (N : Int)) = true := decide_eq_true hI
      clear hb hbn hlt hj1 hj2
      rcases hj with rfl | rfl | rfl | rfl | rfl | rfl | rfl | rfl | rfl
      all_goals first
        | omega
        | (simp only [Nat.reducePow] at hM
           subst hM
           go_wp2
           go_region_held3 (fun w' => w'.cell? ⟨w.heap.size, 2, none⟩ = some (.slice ad m.data.length cd) ∧ w'.cell? ⟨w.heap.size, 3, none⟩ = some (.int .u32 m.zero) ∧ w'.cell? ⟨w.heap.size, 4, none⟩ = some (.int .u32 m.stack))
             (first | exact HS.out | assumption) ((go_at_call 66; refine (HR.out _).mono ?_; rintro e w' ⟨rfl, rfl⟩))
           go_wp2
           go_roundw
           case rel => exact ⟨_, by go_num, by omega, by omega, d2, d3, d4, Hbw.out.drew, Hbn.out⟩
           case measure => simp [intOf])
    · have hbr : r = j := by
        rw [← hb]
        cases hf : 16 - j with
        | zero => rfl
        | succ f => rw [bitsFrom, if_neg hlt]
      have Hbr := Lib.hid hbr
      have hN : ¬ M < N := by rw [hM]; exact hlt
      have hI : ¬ (M : Int) < (N : Int) := by omega
      have hdl : decide ((M : Int) < (N : Int)) = false := decide_eq_false hI
      clear hb hbr hlt hj1 hj2
      rcases hj with rfl | rfl | rfl | rfl | rfl | rfl | rfl | rfl | rfl
      all_goals
        simp only [Nat.reducePow] at hM
        subst hM
        go_wp2
        go_region_held3 (fun w' => w'.cell? ⟨w.heap.size, 2, none⟩ = some (.slice ad m.data.length cd) ∧ w'.cell? ⟨w.heap.size, 3, none⟩ = some (.int .u32 m.zero) ∧ w'.cell? ⟨w.heap.size, 4, none⟩ = some (.int .u32 m.stack))
          (first | exact HS.out | assumption) ((go_at_call 66; refine (HR.out _).mono ?_; rintro e w' ⟨rfl, rfl⟩))
        go_wp2
        go_ret2
        exact ⟨by rw [Hbr.out]; rfl, Hbw.out.drew⟩
theorem FindBad.ne {code : List (Nat × Nat)} {js ats : List Nat} {i c : Nat} (h : FindBad code js ats i c) : c ≠ 0 := by
  cases h with
  | enc h => exact h
  | first _ _ => decide
  | fault _ _ i _ _ hf => exact hf
  | jump _ _ _ _ _ _ _ => decide
  | name _ _ _ _ _ _ _ _ => decide
theorem FindBad.not_ok {code : List (Nat × Nat)} {js ats ats' : List Nat} {i c : Nat} (h : FindBad code js ats i c) (k : FindOk code js ats') (ha : ats = [] ∨ ats = ats') : False := by
  cases h with
  | enc h => exact h k.he
  | first _ h => exact h k.h3
  | fault _ _ i hi _ hf => exact hf (k.hall i hi)
  | jump _ _ _ i hi _ hb => have := k.hg i hi; rw [hb] at this; cases this
  | name _ _ _ _ i hi _ hb =>
    rcases ha with rfl | rfl
    · simp at hi
    · have := k.hn i hi; rw [hb] at this; cases this
def FoundAt (code : List (Nat × Nat)) (js : List Nat) (W : World) (B b : Nat) : Prop :=
  ∃ vp vo vt us, PAt W B b vp vo vt (psTo code code.length) (ofTo code code.length) us (aimTo (ofTo code code.length) js (psTo code code.length).length js.length)
theorem FoundAt.below {code : List (Nat × Nat)} {js : List Nat} {W W' : World} {B b : Nat} (h : FoundAt code js W B b) (hb : Below W.heap.size W W') : FoundAt code js W' B b := by
  obtain ⟨vp, vo, vt, us, hA⟩ := h
  exact ⟨vp, vo, vt, us, hA.below hb⟩
theorem find_ok {w : World} (vc vj vn : Value) (code : List (Nat × Nat)) (js ats : List Nat) (hok : FindOk code js ats) (hc : Instrs w vc code) (hj : RowU w w.heap.size vj js) (hn : NamesU w w.heap.size vn ats) :
    Calls Tryz.prog 38 #[vc, vj, vn] w fun e w' => ∃ b B, e = .returned (.tuple #[.pointer (some ⟨b, 0, none⟩), .int .i64 0, .int .i64 0]) ∧ Below w.heap.size w w' ∧ w.heap.size ≤ B ∧ B ≤ w'.heap.size ∧ FoundAt code js w' B b := by
  refine (find_any vc vj vn code js ats hc hj hn).mono ?_
  rintro e w' ⟨hb, ⟨i, c, rfl, hbad⟩ | ⟨b, B, rfl, -, h1, h2, vp, vo, vt, us, tag, hA⟩⟩
  · exact (hbad.not_ok hok (.inr rfl)).elim
  · exact ⟨b, B, rfl, hb, h1, h2, vp, vo, vt, us, hA.at_⟩
theorem namesU_nil (w : World) (B : Nat) : NamesU w B (.slice none 0 0) [] := ⟨none, 0, rfl, Nat.le_refl _, Nat.zero_le _, fun k => by simp, fun h => absurd h (Nat.lt_irrefl _)⟩
structure GraphAt (W : World) (B g b : Nat) (uc uj : Value) (code : List (Nat × Nat)) (js : List Nat) : Prop where
  c0 : W.cell? ⟨g, 0, none⟩ = some uc
  c1 : W.cell? ⟨g, 1, none⟩ = some uj
  c2 : W.cell? ⟨g, 2, none⟩ = some (.pointer (some ⟨b, 0, none⟩))
  hB : B ≤ g
  oc : W.ownsRow B 62 2 uc code.length (encI code)
  oj : W.ownsRow B 25 1 uj js.length (encN .u32 js)
  p : ∃ B', B ≤ B' ∧ FoundAt code js W B' b
theorem GraphAt.below {W W' : World} {B g b : Nat} {uc uj : Value} {code : List (Nat × Nat)} {js : List Nat} (h : GraphAt W B g b uc uj code js) (hb : Below W.heap.size W W') : GraphAt W' B g b uc uj code js := by
  have hl := World.block_lt_of_cell? _ _ h.c0
  obtain ⟨B', h1, h2⟩ := h.p
  exact ⟨(hb.cell (p := ⟨g, 0, none⟩) hl).trans h.c0, (hb.cell (p := ⟨g, 1, none⟩) hl).trans h.c1, (hb.cell (p := ⟨g, 2, none⟩) hl).trans h.c2, h.hB, own_below h.oc hb, own_below h.oj hb, B', h1, h2.below hb⟩
theorem run_b504 (a a' : Option Addr) (n c n' c' : Nat) (p : Option Addr) (w : World) : (Instr.build 196 #[(0, .slice a n c), (1, .slice a' n' c'), (2, .pointer p)]).run Tryz.prog w = .ok (.agg #[.slice a n c, .slice a' n' c', .pointer p]) w := by kernel_rfl
theorem cells_new3 (w : World) (a b c : Value) (t : TypeId) : (w.alloc (.cells #[a, b, c] t)).cell? ⟨w.heap.size, 0, none⟩ = some a ∧ (w.alloc (.cells #[a, b, c] t)).cell? ⟨w.heap.size, 1, none⟩ = some b ∧ (w.alloc (.cells #[a, b, c] t)).cell? ⟨w.heap.size, 2, none⟩ = some c := ⟨by simp [go_sem], by simp [go_sem], by simp [go_sem]⟩
set_option maxRecDepth 100000 in
set_option maxHeartbeats 2000000 in
theorem found_any {w : World} (vc vj : Value) (code : List (Nat × Nat)) (js : List Nat) (hok : FindOk code js []) (hl : code.length ≤ 16384) (hjl : js.length ≤ 16384) (hc : Instrs w vc code) (hj : Words w vj js) :
    Calls Tryz.prog 77 #[vc, vj] w fun e w' => ∃ g b uc uj, e = .returned (.tuple #[.pointer (some ⟨g, 0, none⟩), .int .i64 0, .int .i64 0]) ∧ Below w.heap.size w w' ∧ GraphAt w' w.heap.size g b uc uj code js := by
  have hb504 := run_b504
  have HF := Lib.hid (find_ok vc vj (.slice none 0 0) code js [] hok hc hj.rowu (namesU_nil _ _))
  have HC := Lib.hid hc
  have HJ := Lib.hid hj
  clear hc hj
  go_enter Tryz.func77, Tryz.ntmps77
  go_wp2_with fail
  refine HF.out.mono ?_
  rintro e w1 ⟨b, B, rfl, hb1, hB1, hB2, hA⟩
  have Hb1 := Lib.hid hb1
  have HA := Lib.hid hA
  have HcI := Lib.hid (cloneI_any vc code.length (encI code) (by omega) (encI_one _) w1 (HC.out.below hb1).1)
  clear hb1 hA HF
  go_wp2_with fail
  refine HcI.out.mono ?_
  rintro e w2 ⟨uc, rfl, oc, hb2⟩
  obtain ⟨ac, cc, rfl, -, -, -⟩ := own_sl oc
  have Hb2 := Lib.hid (Bel.tr Hb1.out hb2)
  have HA2 := Lib.hid (HA.out.below hb2)
  have OC := Lib.hid oc
  have hs1 := Hb1.out.size
  have hs2 := hb2.size
  have HcW := Lib.hid (cloneW_any vj js.length (encN .u32 js) (by omega) (encN_one _ _) w2 (HJ.out.below Hb2.out).1)
  clear oc hb2 HcI
  go_wp2_with fail
  refine HcW.out.mono ?_
  rintro e w3 ⟨uj, rfl, oj, hb3⟩
  obtain ⟨aj, cj, rfl, -, -, -⟩ := own_sl oj
  have Hb3 := Lib.hid (Bel.tr Hb2.out hb3)
  have HA3 := Lib.hid (HA2.out.below hb3)
  have OC3 := Lib.hid (own_below OC.out hb3)
  have OJ := Lib.hid oj
  have hs3 := hb3.size
  clear oj hb3 HcW
  go_wp2_with fail
  have hbn := Bel.new w3 (.cells #[.slice ac code.length cc, .slice aj js.length cj, .pointer (some ⟨b, 0, none⟩)] 196)
  have hcn := cells_new3 w3 (.slice ac code.length cc) (.slice aj js.length cj) (.pointer (some ⟨b, 0, none⟩)) 196
  exact bodyPost_ret (v := .tuple #[.pointer (some ⟨w3.heap.size, 0, none⟩), .int .i64 0, .int .i64 0]) (by simp [results, Tryz.results77, go_sem]) rfl
    ⟨_, b, _, _, rfl, Bel.tr Hb3.out hbn, hcn.1, hcn.2.1, hcn.2.2, by omega, own_below (own_from (own_base OC3.out) (fun g e => by have := (OC.out.lt g e).1; omega)) hbn, own_below (own_from (own_base OJ.out) (fun g e => by have := (OJ.out.lt g e).1; omega)) hbn, B, hB1, HA3.out.below hbn⟩
def opAt (code : List (Nat × Nat)) (i : Nat) : Nat := (code.getD i (0, 0)).1
def argAt (code : List (Nat × Nat)) (i : Nat) : Nat := (code.getD i (0, 0)).2
theorem GraphAt.code {W : World} {B g b : Nat} {uc uj : Value} {code : List (Nat × Nat)} {js : List Nat} (h : GraphAt W B g b uc uj code js) {i : Nat} (hi : i < code.length) :
    ∃ q c, uc = .slice (some ⟨q, 0, none⟩) code.length c ∧ q < W.heap.size ∧ W.cell? ⟨q, i * 2, none⟩ = some (.int .u8 (opAt code i)) ∧ W.cell? ⟨q, i * 2 + 1, none⟩ = some (.int .u32 (argAt code i)) := by
  obtain ⟨q, c, rfl, -, hq⟩ := own_start h.oc (by omega)
  have hl := encI_length code
  refine ⟨q, c, rfl, hq, ?_, ?_⟩
  · rw [h.oc.cellAt _ (by omega)]; exact encI_op code i hi
  · rw [h.oc.cellAt _ (by omega)]; exact encI_arg code i hi
set_option maxRecDepth 100000 in
set_option maxHeartbeats 2000000 in
theorem ginfo_any {w : World} {B g b : Nat} {uc uj : Value} {code : List (Nat × Nat)} {js : List Nat} (h : GraphAt w B g b uc uj code js) (i : Nat) (hi : i < code.length) (ho : opAt code i < 256) :
    Calls Tryz.prog 133 #[.pointer (some ⟨g, 0, none⟩), .int .i64 i] w fun e w' => e = .returned (rowVal (opAt code i)) ∧ Below w.heap.size w w' := by
  obtain ⟨q, c, rfl, hq, h1, -⟩ := h.code hi
  have hz := zero26
  unfold zeroRow at hz
  have hc0 := h.c0
  have hgl : g < w.heap.size := World.block_lt_of_cell? _ _ hc0
  have hI := fun W => info_any (opAt code i) ho W
  unfold rowVal rowCells at hI ⊢
  generalize opAt code i = o at *
  have HI := Lib.hid hI
  have hb0 := Lib.hid (Bel.new w (.cells #[.string ⟨#[]⟩, .int .i64 0, .int .u32 0, .int .i64 0, .int .i64 0, .int .u8 0] 189))
  have hii : (i : Int) < (code.length : Int) := by omega
  have hi0 : (0 : Int) ≤ (i : Int) := by omega
  have hne1 : w.heap.size ≠ g := by omega
  have hne2 : w.heap.size ≠ q := by omega
  generalize kindOf o = K at *
  generalize isOp o = bb at *
  generalize wordOf o = wd at *
  generalize widthOf o = wi at *
  generalize mostOf o = mo at *
  generalize takesOf o = ta at *
  generalize givesOf o = gi at *
  clear h hI
  go_enter Tryz.func133, Tryz.ntmps133
  go_wp2_with fail
  refine (HI.out _).mono ?_
  rintro e w1 ⟨rfl, hb1⟩
  have HB := Lib.hid (Bel.tr hb0.out hb1)
  have hs1 := hb1.size
  simp only [World.size_alloc] at hs1
  have hB0 := (hb1.block w.heap.size (by simp)).trans (heap_alloc_new w _)
  have hlt : w.heap.size < w1.heap.size := by omega
  obtain ⟨R, hR⟩ : ∃ R : Array Value, R = #[.string ⟨wd.toArray⟩, .int .i64 wi, .int .u32 mo, .int .i64 ta, .int .i64 gi, .int .u8 K] := ⟨_, rfl⟩
  have HB1 := Lib.hid (show (w1.alloc (.cells #[.string ⟨wd.toArray⟩, .int .i64 wi, .int .u32 mo, .int .i64 ta, .int .i64 gi, .int .u8 K] 189)).heap[w.heap.size]? = _ from (Below.heap_alloc _ _ _ hlt).trans hB0)
  clear hb1 hc0 h1 hB0 hR
  go_wp2_with (((with_reducible refine wpList_store_row (o := ⟨none, .store 189 (.tmp 4) (.tmp 19), _, _, _, none⟩) rfl 189 _ _ rfl w.heap.size #[.string ⟨wd.toArray⟩, .int .i64 wi, .int .u32 mo, .int .i64 ta, .int .i64 gi, .int .u8 K] ?_ ?_ 189 _ HB1.out ?_ ?_ ?_ ?_); rfl; rfl; exact info26; rfl; (simp [Value.oneCell'])))
  exact bodyPost_ret (v := .agg #[.string ⟨wd.toArray⟩, .int .i64 wi, .int .u32 mo, .int .i64 ta, .int .i64 gi, .int .u8 K]) (results_cell_row Tryz.results133 _ _ w.heap.size 189 _ (0, 0) _ rfl (setRow_heap _ _ _ _ _ _ HB1.out) Tryz.underlying189 rfl info26) rfl ⟨rfl, (Bel.al HB.out _).trans (below_setRowB _ _ _ (Nat.le_refl _))⟩
def nextN (code : List (Nat × Nat)) (js : List Nat) (i : Nat) : List Nat :=
  if kindOf (opAt code i) = 1 ∨ kindOf (opAt code i) = 6 ∨ kindOf (opAt code i) = 5 then [i + 1]
  else if kindOf (opAt code i) = 2 then (if i + 1 = argAt code i then [i + 1] else [min (i + 1) (argAt code i), max (i + 1) (argAt code i)])
  else if kindOf (opAt code i) = 3 then [argAt code i]
  else if kindOf (opAt code i) = 4 then tgtsAt (psTo code code.length).length (aimTo (ofTo code code.length) js (psTo code code.length).length js.length) (ofN (ofTo code code.length) i)
  else []
theorem run_bs23_2 (x y : Int) (w : World) : (Instr.buildSlice 23 2 #[(0, .int .u32 x), (1, .int .u32 y)]).run Tryz.prog w = .ok (.slice (some ⟨w.heap.size, 0, none⟩) 2 2) (w.alloc (.cells #[.int .u32 x, .int .u32 y] 25)) := by kernel_rfl
theorem run_bs23_1 (x : Int) (w : World) : (Instr.buildSlice 23 1 #[(0, .int .u32 x)]).run Tryz.prog w = .ok (.slice (some ⟨w.heap.size, 0, none⟩) 1 1) (w.alloc (.cells #[.int .u32 x] 25)) := by kernel_rfl
set_option maxRecDepth 100000 in
set_option maxHeartbeats 2000000 in
theorem compact2_ne (g c : Nat) (x y : Int) (hxy : x ≠ y) (w : World) (h0 : w.cell? ⟨g, 0, none⟩ = some (.int .u32 x)) (h1 : w.cell? ⟨g, 1, none⟩ = some (.int .u32 y)) :
    Calls Tryz.prog 146 #[.slice (some ⟨g, 0, none⟩) 2 c] w fun e w' => e = .returned (.slice (some ⟨g, 0, none⟩) 2 c) ∧ ∃ n, w' = w.drewN n := by
  have hd : (y == x) = false := by simp; omega
  have H0 := Lib.hid h0
  have H1 := Lib.hid h1
  clear h0 h1
  go_enter Tryz.func146, Tryz.ntmps146
  go_wp2_with fail
  go_loopw [3] (fun i wr => ∃ k : Nat, 1 ≤ k ∧ k ≤ 2 ∧ i = .int .i64 k ∧ ∃ n, wr = w.drewN n) (fun i _ => 2 - (intOf i).toNat)
  case atStart => exact ⟨1, by omega, by omega, rfl, 0, rfl⟩
  case round =>
    obtain ⟨k, hk1, hk2, rfl, n, rfl⟩ := hrel
    rcases (by omega : k = 1 ∨ k = 2) with rfl | rfl
    · have h0 := H0.out
      have h1 := H1.out
      go_wp2_with fail
      go_quiet (fail)
      go_wp2
      go_roundw
      case rel => exact ⟨2, by omega, by omega, rfl, _, rfl⟩
      case measure => simp [intOf]
    · go_wp2
      go_ret
      exact ⟨rfl, n, rfl⟩
set_option maxRecDepth 100000 in
set_option maxHeartbeats 2000000 in
theorem compact2_eq (g c : Nat) (x : Int) (hc : 2 ≤ c) (w : World) (h0 : w.cell? ⟨g, 0, none⟩ = some (.int .u32 x)) (h1 : w.cell? ⟨g, 1, none⟩ = some (.int .u32 x)) (hf : w.frozen? ⟨g, 1, none⟩ = false) :
    Calls Tryz.prog 146 #[.slice (some ⟨g, 0, none⟩) 2 c] w fun e w' => e = .returned (.slice (some ⟨g, 0, none⟩) 1 c) ∧ ∃ n, w' = (w.drewN n).setCell ⟨g, 1, none⟩ (.int .u32 0) := by
  have hci : (2 : Int) ≤ (c : Int) := by omega
  have hci1 : (1 : Int) ≤ (c : Int) := by omega
  have hc1 : c ≠ 1 := by omega
  have hcl : ∀ n, (Builtin.clear_ #[23] 0 #[.slice (some ⟨g, 1, none⟩) 1 (c - 1)]).run Tryz.prog (w.drewN n) = .ok (.tuple #[]) ((w.drewN n).setCell ⟨g, 1, none⟩ (.int .u32 0)) := by
    intro n
    have hq1 : ∀ j, j < 1 → ((w.drewN n).cell? ⟨g, 1 + j, none⟩).isSome = true := by
      intro j hj
      obtain rfl : j = 0 := by omega
      show (w.cell? ⟨g, 1, none⟩).isSome = true
      rw [h1]; rfl
    have hq2 : ∀ j, j < 1 → (w.drewN n).frozen? ⟨g, 1 + j, none⟩ = false := by
      intro j hj
      obtain rfl : j = 0 := by omega
      exact hf
    exact Lib.run_clear_slice (w.drewN n) 23 25 0 (.int .u32 0) Tryz.underlying23 (fun _ => by kernel_rfl) rfl rfl g 1 1 (c - 1) (by omega) hq1 hq2
  have h01 := h1
  go_enter Tryz.func146, Tryz.ntmps146
  go_wp2_with fail
  refine wp_loop_rounds 1 ?_
  rw [rounds_succ]
  go_wp2_with fail
  go_quiet (fail)
  go_wp2_with fail
  refine wp_loop_rounds 1 ?_
  rw [rounds_succ]
  go_wp2_with fail
  go_ret
  exact ⟨rfl, _, rfl⟩
theorem own_new1 (w : World) (x : Nat) (y : Int) (h : y = (x : Int)) : (w.alloc (.cells #[.int .u32 y] 25)).ownsRow w.heap.size 25 1 (.slice (some ⟨w.heap.size, 0, none⟩) 1 1) 1 (encN .u32 [x]) := by
  subst h
  exact ⟨rfl, .inr ⟨w.heap.size, 1, _, rfl, Nat.le_refl _, World.alloc_heap_new w _, Nat.le_refl _, by decide, rfl, rfl⟩⟩
theorem own_new2 (w : World) (x y : Nat) (c : Nat) (hc : c = 2) : (w.alloc (.cells #[.int .u32 (x : Int), .int .u32 (y : Int)] 25)).ownsRow w.heap.size 25 1 (.slice (some ⟨w.heap.size, 0, none⟩) 2 2) 2 (encN .u32 [x, y]) := by
  exact ⟨rfl, .inr ⟨w.heap.size, 2, _, rfl, Nat.le_refl _, World.alloc_heap_new w _, Nat.le_refl _, by decide, rfl, rfl⟩⟩
theorem own_drewN {W : World} {B e sz n : Nat} {v : Value} {xs : List Value} (h : W.ownsRow B e sz v n xs) (k : Nat) : (W.drewN k).ownsRow B e sz v n xs := h
theorem own_cut1 {W : World} {B e g c : Nat} {x y : Value} (h : W.ownsRow B e 1 (.slice (some ⟨g, 0, none⟩) 2 c) 2 [x, y]) : W.ownsRow B e 1 (.slice (some ⟨g, 0, none⟩) 1 c) 1 [x] := by
  obtain ⟨hl, h⟩ := h
  rcases h with ⟨hv, _⟩ | ⟨g', c', cur, hv, hb, hg, hn, hm, hcs, ht⟩
  · cases hv
  · cases hv
    refine ⟨rfl, .inr ⟨g, c, cur, rfl, hb, hg, by omega, hm, hcs, ?_⟩⟩
    have := congrArg (List.take 1) ht
    rw [List.take_take] at this
    simpa using this
theorem FindOk.jl {code : List (Nat × Nat)} {js : List Nat} (h : FindOk code js []) : js.length ≤ 16384 := by
  have h2 := h.hg.le
  rw [(tiles (code := code) h.h3.2 code.length).ol] at h2
  have := encRes_short h.he
  omega
theorem FindOk.rows {code : List (Nat × Nat)} {js : List Nat} (h : FindOk code js []) (j : Nat) : ((aimTo (ofTo code code.length) js (psTo code code.length).length js.length).getD j []).length ≤ 16384 := by
  have h1 := aimTo_row_le (ofTo code code.length) js (psTo code code.length).length js.length j
  have := h.jl
  omega
theorem field421 (s : ByteArray) (a b c d K : Int) (w : World) : (Instr.field 189 (.agg #[.string s, .int .i64 a, .int .u32 b, .int .i64 c, .int .i64 d, .int .u8 K]) 5).run Tryz.prog w = .ok (.int .u8 K) w := by kernel_rfl
set_option maxRecDepth 100000 in
set_option maxHeartbeats 4000000 in
theorem next_any {w : World} {B g b : Nat} {uc uj : Value} {code : List (Nat × Nat)} {js : List Nat} (h : GraphAt w B g b uc uj code js) (hok : FindOk code js []) (i : Nat) (hi : i < code.length) (hlt : ∀ k, (code.getD k (0, 0)).1 < 256 ∧ (code.getD k (0, 0)).2 < 4294967296) :
    Calls Tryz.prog 134 #[.pointer (some ⟨g, 0, none⟩), .int .i64 i] w fun e w' => ∃ v, e = .returned v ∧ w'.ownsRow w.heap.size 25 1 v (nextN code js i).length (encN .u32 (nextN code js i)) ∧ Below w.heap.size w w' := by
  have hfd := field421
  have hbs1 := run_bs23_1
  have hbs2 := run_bs23_2
  obtain ⟨q, c, rfl, hq, h1, h2⟩ := h.code hi
  have hcl := encRes_short hok.he
  have hc0 := h.c0
  have hgl : g < w.heap.size := World.block_lt_of_cell? _ _ hc0
  have HG := Lib.hid h
  have HI := Lib.hid (ginfo_any h i hi (hlt i).1)
  have hk := kind_lt (opAt code i)
  have hai : argAt code i < 4294967296 := (hlt i).2
  obtain ⟨L, hL⟩ : ∃ L, L = nextN code js i := ⟨_, rfl⟩
  rw [← hL]
  have HL := Lib.hid hL
  clear hL
  unfold nextN at HL
  unfold rowVal rowCells at HI
  have hii : (i : Int) < (code.length : Int) := by omega
  have hi0 : (0 : Int) ≤ (i : Int) := by omega
  have hi14 : (i : Int) < 16384 := by omega
  generalize kindOf (opAt code i) = K at *
  generalize argAt code i = a at *
  generalize opAt code i = o at *
  generalize wordOf o = wd at *
  generalize widthOf o = wi at *
  generalize mostOf o = mo at *
  generalize takesOf o = ta at *
  generalize givesOf o = gi at *
  clear h
  go_enter Tryz.func134, Tryz.ntmps134
  go_wp2_with fail
  refine HI.out.mono ?_
  rintro e w1 ⟨rfl, hb1⟩
  have Hb1 := Lib.hid hb1
  clear hb1 HI hc0 h1 h2
  rcases (by omega : K = 1 ∨ K = 6 ∨ K = 5 ∨ K = 2 ∨ K = 3 ∨ K = 4 ∨ (K = 0 ∨ K = 7 ∨ K = 8)) with rfl | rfl | rfl | rfl | rfl | rfl | hK
  case inr.inr.inr.inl =>
    by_cases he : i + 1 = a
    · subst he
      have HL2 := Lib.hid (show L = [i + 1] from by rw [HL.out, if_neg (by decide), if_pos rfl, if_pos rfl])
      have hbn := Bel.new w1 (.cells #[.int .u32 ((i : Int) + 1), .int .u32 ((i : Int) + 1)] 25)
      have hcn := cells_new2 w1 (.int .u32 ((i : Int) + 1)) (.int .u32 ((i : Int) + 1)) 25
      have Hcp := Lib.hid (compact2_eq w1.heap.size 2 ((i : Int) + 1) (Nat.le_refl _) _ hcn.1 hcn.2 (by simp [go_sem]))
      have Hbn := Lib.hid (Bel.tr Hb1.out hbn)
      have Hown := Lib.hid (own_new2 w1 (i + 1) (i + 1) 2 rfl)
      clear hbn hcn
      go_wp2_with fail
      refine Hcp.out.mono ?_
      rintro e w2 ⟨rfl, n, rfl⟩
      go_wp2
      go_ret
      refine ⟨_, rfl, ?_, (below_drewN Hbn.out n).setCell (p := ⟨w1.heap.size, 1, none⟩) Hb1.out.size _⟩
      rw [HL2.out]
      exact own_from (own_base (own_cut1 (y := .int .u32 0) (own_drewN Hown.out n |>.stored 1 (.int .u32 0)).1)) (fun g e => by cases e; exact Hb1.out.size)
    · have hne : ((i : Int) + 1) ≠ (a : Int) := by omega
      obtain ⟨x, y, hxy, hL3, hmin, hmax⟩ : ∃ x y : Nat, x ≠ y ∧ L = [x, y] ∧ min ((i : Int) + 1) (a : Int) = (x : Int) ∧ max ((i : Int) + 1) (a : Int) = (y : Int) := by
        refine ⟨min (i + 1) a, max (i + 1) a, by omega, ?_, by omega, by omega⟩
        rw [HL.out, if_neg (by decide), if_pos rfl, if_neg he]
      have HL3 := Lib.hid hL3
      have Hmin := Lib.hid hmin
      have Hmax := Lib.hid hmax
      have hbn := Bel.new w1 (.cells #[.int .u32 (x : Int), .int .u32 (y : Int)] 25)
      have hcn := cells_new2 w1 (.int .u32 (x : Int)) (.int .u32 (y : Int)) 25
      have Hcp := Lib.hid (compact2_ne w1.heap.size 2 (x : Int) (y : Int) (by omega) _ hcn.1 hcn.2)
      have Hbn := Lib.hid (Bel.tr Hb1.out hbn)
      have Hown := Lib.hid (own_new2 w1 x y 2 rfl)
      clear hbn hcn hmin hmax hL3 hne
      go_wp2_with fail
      rw [Hmin.out, Hmax.out]
      refine Hcp.out.mono ?_
      rintro e w2 ⟨rfl, n, rfl⟩
      go_wp2
      go_ret
      refine ⟨_, rfl, ?_, below_drewN Hbn.out n⟩
      rw [HL3.out]
      exact own_from (own_base (own_drewN Hown.out n)) (fun g e => by cases e; exact Hb1.out.size)
  case inr.inr.inr.inr.inr.inl =>
    have HG1 := Lib.hid (HG.out.below Hb1.out)
    have hS0 := Lib.hid (show w1.drew.cell? ⟨g, 2, none⟩ = some (.pointer (some ⟨b, 0, none⟩)) ∧ Below w1.heap.size w1 w1.drew from ⟨HG1.out.c2, (Below.refl _ _).drew⟩)
    have H1 := Lib.hid (fun (W : World) (hS : W.cell? ⟨g, 2, none⟩ = some (.pointer (some ⟨b, 0, none⟩)) ∧ Below w1.heap.size w1 W) => (show Calls Tryz.prog 91 #[.pointer (some ⟨b, 0, none⟩), .int .u32 (i : Int)] W fun e w' => e = .returned (.int .i64 (ofN (ofTo code code.length) i)) ∧ w' = W from by
      obtain ⟨B', -, vp, vo, vt, us, hA⟩ := HG1.out.p
      exact (of_any (hA.below hS.2) i (by omega)).mono fun _ _ h => ⟨h.1, h.2.symm⟩))
    have H2 := Lib.hid (fun (W : World) (hS : W.cell? ⟨g, 2, none⟩ = some (.pointer (some ⟨b, 0, none⟩)) ∧ Below w1.heap.size w1 W) => (show Calls Tryz.prog 147 #[.pointer (some ⟨b, 0, none⟩), .int .i64 (ofN (ofTo code code.length) i)] W fun e w' => ∃ v, e = .returned v ∧ w'.ownsRow W.heap.size 25 1 v L.length (encN .u32 L) ∧ (w'.cell? ⟨g, 2, none⟩ = some (.pointer (some ⟨b, 0, none⟩)) ∧ Below w1.heap.size w1 w') ∧ w1.heap.size ≤ W.heap.size from by
      obtain ⟨B', -, vp, vo, vt, us, hA⟩ := HG1.out.p
      refine (targets_any (hA.below hS.2) (aimTo_length _ _ _ _) hok.rows (ofN (ofTo code code.length) i)).mono ?_
      rintro e w' ⟨v, rfl, ho, hb⟩
      have hLe : L = _ := HL.out
      rw [if_neg (by decide), if_neg (by decide), if_neg (by decide), if_pos rfl] at hLe
      rw [← hLe] at ho
      exact ⟨v, rfl, ho, ⟨(hb.cell (p := ⟨g, 2, none⟩) (World.block_lt_of_cell? _ _ hS.1)).trans hS.1, Bel.tr hS.2 hb⟩, hS.2.size⟩))
    generalize ofN (ofTo code code.length) i = z at *
    have hc2 := HG1.out.c2
    go_wp2_with fail
    clear hc2
    have hwk : IntKind.u32.wrap (i : Int) = (i : Int) := u32_wrap i (by omega)
    go_region_held3 (fun w' => w'.cell? ⟨g, 2, none⟩ = some (.pointer (some ⟨b, 0, none⟩)) ∧ Below w1.heap.size w1 w')
      (first | assumption | exact hS0.out)
      (first | (go_at_call 91; refine (H1.out _ ?_).mono ?_; assumption; rintro e w5 ⟨rfl, hw5⟩; subst hw5) | (go_at_call 147; refine (H2.out _ ?_).mono ?_; assumption; rintro e w5 ⟨v, rfl, ho5, hS5, hsz5⟩) | fail)
    have HX := Lib.hid (And.intro ho5 (And.intro hS5.2 hsz5))
    clear ho5 hS5 hsz5
    go_wp2
    go_ret
    exact ⟨v, rfl, own_from (own_base HX.out.1) (fun g e => by have := (HX.out.1.lt g e).1; have := HX.out.2.2; have := Hb1.out.size; simp at *; omega), Bel.tr Hb1.out HX.out.2.1⟩
  case inr.inr.inr.inr.inr.inr =>
    have HL2 := Lib.hid (show L = [] from by rcases hK with rfl | rfl | rfl <;> (rw [HL.out]; rfl))
    rcases hK with rfl | rfl | rfl
    all_goals
      go_wp2_with fail
      go_ret
      exact ⟨_, rfl, by rw [HL2.out]; exact World.ownsRow_nil _ _ _ _, Hb1.out⟩
  case inr.inr.inr.inr.inl =>
    have HL2 := Lib.hid (show L = [a] from by rw [HL.out]; rfl)
    go_wp2_with fail
    go_ret
    exact ⟨_, rfl, by rw [HL2.out]; exact own_from (own_base (own_new1 w1 a _ rfl)) (fun g e => by cases e; exact Hb1.out.size), Bel.al Hb1.out _⟩
  all_goals
    have HL2 := Lib.hid (show L = [i + 1] from by rw [HL.out]; rfl)
    go_wp2_with fail
    go_ret
    exact ⟨_, rfl, by rw [HL2.out]; exact own_from (own_base (own_new1 w1 (i + 1) _ (by omega))) (fun g e => by cases e; exact Hb1.out.size), Bel.al Hb1.out _⟩
theorem meth_pop (a : Addr) (w : World) : (method 354 216 (.pointer (some a)) "Pop").run Tryz.prog w = .ok (172, .pointer (some a)) w := by kernel_rfl
theorem meth_push (a : Addr) (w : World) : (method 354 216 (.pointer (some a)) "Push").run Tryz.prog w = .ok (173, .pointer (some a)) w := by kernel_rfl
theorem meth_len0 (a : Addr) (w : World) : (method 354 216 (.pointer (some a)) "Len").run Tryz.prog w = ((do let r ← loadVar 217 a; pure (131, r)) : Sem (FuncId × Value)).run Tryz.prog w := by kernel_rfl
theorem meth_less0 (a : Addr) (w : World) : (method 354 216 (.pointer (some a)) "Less").run Tryz.prog w = ((do let r ← loadVar 217 a; pure (171, r)) : Sem (FuncId × Value)).run Tryz.prog w := by kernel_rfl
theorem meth_swap0 (a : Addr) (w : World) : (method 354 216 (.pointer (some a)) "Swap").run Tryz.prog w = ((do let r ← loadVar 217 a; pure (174, r)) : Sem (FuncId × Value)).run Tryz.prog w := by kernel_rfl
theorem load567 (a : Addr) (v : Value) (w : World) (h : w.cell? a = some v) : (loadVar 217 a).run Tryz.prog w = .ok v w := by
  simp [go_sem, h]
theorem meth_len (a : Addr) (v : Value) (w : World) (h : w.cell? a = some v) : (method 354 216 (.pointer (some a)) "Len").run Tryz.prog w = .ok (131, v) w := by
  rw [meth_len0, Sem.run_bind, load567 a v w h]; rfl
theorem meth_less (a : Addr) (v : Value) (w : World) (h : w.cell? a = some v) : (method 354 216 (.pointer (some a)) "Less").run Tryz.prog w = .ok (171, v) w := by
  rw [meth_less0, Sem.run_bind, load567 a v w h]; rfl
theorem meth_swap (a : Addr) (v : Value) (w : World) (h : w.cell? a = some v) : (method 354 216 (.pointer (some a)) "Swap").run Tryz.prog w = .ok (174, v) w := by
  rw [meth_swap0, Sem.run_bind, load567 a v w h]; rfl
def swapL (l : List Nat) (i j : Nat) : List Nat := (l.set i (l.getD j 0)).set j (l.getD i 0)
theorem swapL_length (l : List Nat) (i j : Nat) : (swapL l i j).length = l.length := by simp [swapL]
theorem getD_set_eq (l : List Nat) (i k v : Nat) (hi : i < l.length) : (l.set i v).getD k 0 = if k = i then v else l.getD k 0 := by
  rw [List.getD_eq_getElem?_getD, List.getD_eq_getElem?_getD, List.getElem?_set]
  by_cases h : i = k
  · subst h; simp [hi]
  · rw [if_neg h, if_neg (by omega)]
theorem swapL_getD (l : List Nat) (i j k : Nat) (hi : i < l.length) (hj : j < l.length) : (swapL l i j).getD k 0 = if k = j then l.getD i 0 else if k = i then l.getD j 0 else l.getD k 0 := by
  unfold swapL
  rw [getD_set_eq _ _ _ _ (by simpa using hj), getD_set_eq _ _ _ _ hi]
theorem swapL_perm (l : List Nat) (i j : Nat) (hi : i < l.length) (hj : j < l.length) : (swapL l i j).Perm l := by
  unfold swapL
  have e1 : l.getD j 0 = l[j] := by rw [List.getD_eq_getElem?_getD, List.getElem?_eq_getElem hj]; rfl
  have e2 : l.getD i 0 = l[i] := by rw [List.getD_eq_getElem?_getD, List.getElem?_eq_getElem hi]; rfl
  rw [e1, e2]
  exact List.set_set_perm hi hj
def par (k : Nat) : Nat := (k - 1) / 2
theorem par_lt {k : Nat} (h : 0 < k) : par k < k := by unfold par; omega
def IsHeap (l : List Nat) : Prop := ∀ k, 0 < k → k < l.length → l.getD (par k) 0 ≤ l.getD k 0
theorem IsHeap.min {l : List Nat} (h : IsHeap l) (k : Nat) (hk : k < l.length) : l.getD 0 0 ≤ l.getD k 0 := by
  induction k using Nat.strongRecOn with
  | _ k ih =>
    by_cases h0 : k = 0
    · subst h0; exact Nat.le_refl _
    · have hp := par_lt (k := k) (by omega)
      exact Nat.le_trans (ih (par k) hp (by omega)) (h k (by omega) hk)
def upL (l : List Nat) (j : Nat) : List Nat :=
  if h : 0 < j then (if l.getD j 0 < l.getD (par j) 0 then upL (swapL l (par j) j) (par j) else l) else l
termination_by j
decreasing_by exact par_lt h
theorem upL_perm (l : List Nat) (j : Nat) (hj : j < l.length) : (upL l j).Perm l := by
  induction j using Nat.strongRecOn generalizing l with
  | _ j ih =>
    rw [upL]
    split
    · rename_i h
      have hp := par_lt h
      split
      · exact (ih _ hp _ (by rw [swapL_length]; omega)).trans (swapL_perm l _ _ (by omega) hj)
      · exact List.Perm.refl _
    · exact List.Perm.refl _
theorem upL_heap (l : List Nat) (j : Nat) (hj : j < l.length) (ha : ∀ k, 0 < k → k < l.length → k ≠ j → l.getD (par k) 0 ≤ l.getD k 0)
    (hb : ∀ k, 0 < k → k < l.length → par k = j → 0 < j → l.getD (par j) 0 ≤ l.getD k 0) : IsHeap (upL l j) := by
  induction j using Nat.strongRecOn generalizing l with
  | _ j ih =>
    rw [upL]
    split
    · rename_i h
      have hp := par_lt h
      split
      · rename_i hlt
        have hg := fun k => swapL_getD l (par j) j k (by omega) hj
        refine ih _ hp _ (by rw [swapL_length]; omega) ?_ ?_
        · intro k hk0 hk hkp
          rw [swapL_length] at hk
          have hpk := par_lt hk0
          rw [hg, hg]
          by_cases e : k = j
          · subst e
            rw [if_neg (by omega), if_pos rfl, if_pos rfl]; omega
          · rw [if_neg (by omega : ¬ k = j), if_neg hkp]
            by_cases e1 : par k = j
            · rw [if_pos e1]; exact hb k hk0 hk e1 h
            · rw [if_neg e1]
              by_cases e2 : par k = par j
              · rw [if_pos e2]
                have := ha k hk0 hk e
                rw [e2] at this; omega
              · rw [if_neg e2]; exact ha k hk0 hk e
        · intro k hk0 hk hkp h0
          rw [swapL_length] at hk
          have hpp := par_lt h0
          have hpk := par_lt hk0
          rw [hg, hg, if_neg (by omega), if_neg (by omega)]
          have h1 := ha (par j) h0 (by omega) (by omega)
          by_cases e : k = j
          · rw [if_pos e]; exact h1
          · rw [if_neg e, if_neg (by omega)]
            have := ha k hk0 hk e
            rw [hkp] at this; omega
      · rename_i hlt
        intro k hk0 hk
        by_cases e : k = j
        · subst e; omega
        · exact ha k hk0 hk e
    · rename_i h
      intro k hk0 hk
      exact ha k hk0 hk (by omega)
def childL (l : List Nat) (i n : Nat) : Nat := if 2 * i + 2 < n ∧ l.getD (2 * i + 2) 0 < l.getD (2 * i + 1) 0 then 2 * i + 2 else 2 * i + 1
theorem childL_gt (l : List Nat) (i n : Nat) : i < childL l i n := by unfold childL; split <;> omega
theorem childL_lt {l : List Nat} {i n : Nat} (h : 2 * i + 1 < n) : childL l i n < n := by unfold childL; split <;> omega
def downL (l : List Nat) (i n : Nat) : List Nat :=
  if h : 2 * i + 1 < n then (if l.getD (childL l i n) 0 < l.getD i 0 then downL (swapL l i (childL l i n)) (childL l i n) n else l) else l
termination_by n - i
decreasing_by have := childL_gt l i n; have := childL_lt (l := l) h; omega
theorem downL_length (l : List Nat) (i n : Nat) : (downL l i n).length = l.length := by
  fun_induction downL l i n with
  | case1 l i h hlt ih => rw [ih, swapL_length]
  | case2 => rfl
  | case3 => rfl
theorem downL_perm (l : List Nat) (i n : Nat) (hn : n ≤ l.length) : (downL l i n).Perm l := by
  fun_induction downL l i n with
  | case1 l i h hlt ih =>
    have h1 := childL_gt l i n
    have h2 := childL_lt (l := l) h
    exact (ih (by rw [swapL_length]; exact hn)).trans (swapL_perm l _ _ (by omega) (by omega))
  | case2 => exact List.Perm.refl _
  | case3 => exact List.Perm.refl _
theorem downL_above (l : List Nat) (i n : Nat) (hn : n ≤ l.length) (k : Nat) (hk : n ≤ k) : (downL l i n).getD k 0 = l.getD k 0 := by
  fun_induction downL l i n with
  | case1 l i h hlt ih =>
    have h1 := childL_gt l i n
    have h2 := childL_lt (l := l) h
    rw [ih (by rw [swapL_length]; exact hn), swapL_getD _ _ _ _ (by omega) (by omega), if_neg (by omega), if_neg (by omega)]
  | case2 => rfl
  | case3 => rfl
theorem downL_heap (l : List Nat) (i n : Nat) (hn : n ≤ l.length) (ha : ∀ k, 0 < k → k < n → par k ≠ i → l.getD (par k) 0 ≤ l.getD k 0)
    (hb : ∀ k, 0 < k → k < n → par k = i → 0 < i → l.getD (par i) 0 ≤ l.getD k 0) : ∀ k, 0 < k → k < n → (downL l i n).getD (par k) 0 ≤ (downL l i n).getD k 0 := by
  fun_induction downL l i n with
  | case1 l i h hlt ih =>
    have h1 := childL_gt l i n
    have h2 := childL_lt (l := l) h
    have hpc : par (childL l i n) = i := by unfold childL par; split <;> omega
    have hmin : ∀ k, 0 < k → k < n → par k = i → l.getD (childL l i n) 0 ≤ l.getD k 0 := by
      intro k hk0 hk hp
      have : k = 2 * i + 1 ∨ k = 2 * i + 2 := by unfold par at hp; omega
      unfold childL
      split <;> rcases this with rfl | rfl <;> omega
    generalize childL l i n = c at *
    have hg := fun k => swapL_getD l i c k (by omega) (by omega)
    refine ih (by rw [swapL_length]; exact hn) ?_ ?_
    · intro k hk0 hk hkp
      have hpk := par_lt hk0
      rw [hg, hg]
      rw [if_neg hkp]
      by_cases e : k = c
      · subst e
        rw [if_pos rfl, hpc, if_pos rfl]; omega
      · rw [if_neg e]
        by_cases e1 : k = i
        · subst e1
          rw [if_pos rfl, if_neg (by omega)]
          exact hb c (by omega) h2 hpc (by omega)
        · rw [if_neg e1]
          by_cases e2 : par k = i
          · rw [if_pos e2]
            have := hmin k hk0 hk e2; omega
          · rw [if_neg e2]; exact ha k hk0 hk e2
    · intro k hk0 hk hkp h0
      have hpk := par_lt hk0
      rw [hg, hg, hpc, if_neg (by omega), if_pos rfl, if_neg (by omega), if_neg (by omega)]
      have := ha k hk0 hk (by omega)
      rw [hkp] at this; exact this
  | case2 l i h hlt =>
    intro k hk0 hk
    by_cases e : par k = i
    · have : k = 2 * i + 1 ∨ k = 2 * i + 2 := by unfold par at e; omega
      rw [e]
      unfold childL at hlt
      split at hlt <;> rcases this with rfl | rfl <;> omega
    · exact ha k hk0 hk e
  | case3 l i h =>
    intro k hk0 hk
    refine ha k hk0 hk ?_
    unfold par; omega
def pushL (l : List Nat) (x : Nat) : List Nat := upL (l ++ [x]) l.length
theorem pushL_perm (l : List Nat) (x : Nat) : (pushL l x).Perm (x :: l) :=
  (upL_perm _ _ (by simp)).trans (List.perm_append_singleton x l)
theorem pushL_heap {l : List Nat} (h : IsHeap l) (x : Nat) : IsHeap (pushL l x) := by
  refine upL_heap _ _ (by simp) ?_ ?_
  · intro k hk0 hk hne
    have hk' : k < l.length := by simp at hk; omega
    have hp := par_lt hk0
    rw [List.getD_eq_getElem?_getD, List.getD_eq_getElem?_getD, List.getElem?_append_left (by omega), List.getElem?_append_left hk', ← List.getD_eq_getElem?_getD, ← List.getD_eq_getElem?_getD]
    exact h k hk0 hk'
  · intro k hk0 hk hp _
    have := par_lt hk0
    simp at hk; omega
def popL (l : List Nat) : List Nat := (downL (swapL l 0 (l.length - 1)) 0 (l.length - 1)).take (l.length - 1)
theorem popL_length (l : List Nat) : (popL l).length = l.length - 1 := by
  unfold popL; rw [List.length_take, downL_length, swapL_length]; omega
theorem popL_last {l : List Nat} (h : 0 < l.length) : (downL (swapL l 0 (l.length - 1)) 0 (l.length - 1)).getD (l.length - 1) 0 = l.getD 0 0 := by
  rw [downL_above _ _ _ (by rw [swapL_length]; omega) _ (Nat.le_refl _), swapL_getD _ _ _ _ h (by omega), if_pos rfl]
theorem popL_perm {l : List Nat} (h : 0 < l.length) : (l.getD 0 0 :: popL l).Perm l := by
  have h1 : (downL (swapL l 0 (l.length - 1)) 0 (l.length - 1)).Perm l := (downL_perm _ _ _ (by rw [swapL_length]; omega)).trans (swapL_perm l _ _ h (by omega))
  have hlen : (downL (swapL l 0 (l.length - 1)) 0 (l.length - 1)).length = l.length := by rw [downL_length, swapL_length]
  have hlast := popL_last h
  unfold popL
  generalize downL (swapL l 0 (l.length - 1)) 0 (l.length - 1) = m at *
  have e : m = m.take (l.length - 1) ++ [l.getD 0 0] := by
    have h2 := List.take_append_drop (l.length - 1) m
    have h3 : m.drop (l.length - 1) = [l.getD 0 0] := by
      rw [List.drop_eq_getElem_cons (by omega), List.drop_of_length_le (by omega)]
      rw [List.getD_eq_getElem?_getD, List.getElem?_eq_getElem (by omega)] at hlast
      simp only [Option.getD_some] at hlast
      rw [hlast]
    rw [h3] at h2; exact h2.symm
  have h4 : (l.getD 0 0 :: m.take (l.length - 1)).Perm m := by
    have := (List.perm_append_singleton (l.getD 0 0) (m.take (l.length - 1))).symm
    rwa [← e] at this
  exact h4.trans h1
theorem popL_heap {l : List Nat} (hh : IsHeap l) (h : 0 < l.length) : IsHeap (popL l) := by
  have hs := fun k => swapL_getD l 0 (l.length - 1) k h (by omega)
  have hd := downL_heap (swapL l 0 (l.length - 1)) 0 (l.length - 1) (by rw [swapL_length]; omega) (by
    intro k hk0 hk hp
    have := par_lt hk0
    rw [hs, hs, if_neg (by omega), if_neg hp, if_neg (by omega), if_neg (by omega)]
    exact hh k hk0 (by omega)) (fun k _ _ _ h0 => absurd h0 (Nat.lt_irrefl _))
  intro k hk0 hk
  rw [popL_length] at hk
  have hp := par_lt hk0
  unfold popL
  rw [List.getD_eq_getElem?_getD, List.getD_eq_getElem?_getD, List.getElem?_take_of_lt (by omega), List.getElem?_take_of_lt hk, ← List.getD_eq_getElem?_getD, ← List.getD_eq_getElem?_getD]
  exact hd k hk0 hk
theorem popL_least {l : List Nat} (hh : IsHeap l) {x : Nat} (hx : x ∈ l) : l.getD 0 0 ≤ x := by
  obtain ⟨k, hk, rfl⟩ := List.mem_iff_getElem.1 hx
  have e : l.getD k 0 = l[k] := by rw [List.getD_eq_getElem?_getD, List.getElem?_eq_getElem hk]; rfl
  rw [← e]
  exact hh.min k hk
theorem own_num {W : World} {B e g n c : Nat} {k : IntKind} {l : List Nat} (h : W.ownsRow B e 1 (.slice (some ⟨g, 0, none⟩) n c) n (encN k l)) {i : Nat} (hi : i < l.length) : W.cell? ⟨g, i, none⟩ = some (.int k (l.getD i 0 : Nat)) := by
  rw [h.cellAt i (by have := h.1; rw [encN_length] at this; omega)]; exact encN_at k l i hi
theorem encN_set (k : IntKind) (l : List Nat) (i v : Nat) : (encN k l).set i (.int k (v : Nat)) = encN k (l.set i v) := by simp [encN, List.map_set]
theorem grown_drewN (W : World) (n : Nat) (r : Option Nat) : W.grownBy (W.drewN n) r := ⟨rfl, rfl, rfl, Nat.le_refl _, fun _ _ _ => rfl⟩
set_option maxRecDepth 100000 in
set_option maxHeartbeats 2000000 in
theorem len_any (a : Option Addr) (n c : Nat) (w : World) : Calls Tryz.prog 131 #[.slice a n c] w fun e w' => e = .returned (.int .i64 n) ∧ w = w' := by
  go_enter Tryz.func131, Tryz.ntmps131
  go_wp2
  go_ret
  exact ⟨rfl, rfl⟩
set_option maxRecDepth 100000 in
set_option maxHeartbeats 2000000 in
theorem less_h {w : World} {B g c : Nat} {l : List Nat} (h : w.ownsRow B 3 1 (.slice (some ⟨g, 0, none⟩) l.length c) l.length (encN .i64 l)) (i j : Nat) (hi : i < l.length) (hj : j < l.length) :
    Calls Tryz.prog 171 #[.slice (some ⟨g, 0, none⟩) l.length c, .int .i64 i, .int .i64 j] w fun e w' => e = .returned (.bool (decide (l.getD i 0 < l.getD j 0))) ∧ ∃ n, w' = w.drewN n := by
  have h1 := own_num h hi
  have h2 := own_num h hj
  generalize l.getD i 0 = x at *
  generalize l.getD j 0 = y at *
  have hii : (i : Int) < (l.length : Int) := by omega
  have hi0 : (0 : Int) ≤ (i : Int) := by omega
  have hjj : (j : Int) < (l.length : Int) := by omega
  have hj0 : (0 : Int) ≤ (j : Int) := by omega
  clear h
  go_enter Tryz.func171, Tryz.ntmps171
  go_wp2_with fail
  go_quiet (fail)
  go_wp2
  go_ret
  exact ⟨ret_boolE (by simp), _, rfl⟩
set_option maxRecDepth 100000 in
set_option maxHeartbeats 2000000 in
theorem swap_h {w : World} {B g c : Nat} {l : List Nat} (h : w.ownsRow B 3 1 (.slice (some ⟨g, 0, none⟩) l.length c) l.length (encN .i64 l)) (i j : Nat) (hi : i < l.length) (hj : j < l.length) (hij : i ≠ j) :
    Calls Tryz.prog 174 #[.slice (some ⟨g, 0, none⟩) l.length c, .int .i64 i, .int .i64 j] w fun e w' => (∃ v, e = .returned v) ∧ w'.ownsRow B 3 1 (.slice (some ⟨g, 0, none⟩) l.length c) l.length (encN .i64 (swapL l i j)) ∧ w.grownBy w' (some g) := by
  have h1 := own_num h hi
  have h2 := own_num h hj
  have f1 := h.frozenAt i
  have f2 := h.frozenAt j
  have H := Lib.hid h
  have hii : (i : Int) < (l.length : Int) := by omega
  have hi0 : (0 : Int) ≤ (i : Int) := by omega
  have hjj : (j : Int) < (l.length : Int) := by omega
  have hj0 : (0 : Int) ≤ (j : Int) := by omega
  obtain ⟨x, hx⟩ : ∃ x, x = l.getD i 0 := ⟨_, rfl⟩
  obtain ⟨y, hy⟩ : ∃ y, y = l.getD j 0 := ⟨_, rfl⟩
  rw [← hx] at h1
  rw [← hy] at h2
  have HX := Lib.hid hx
  have HY := Lib.hid hy
  clear h hx hy
  go_enter Tryz.func174, Tryz.ntmps174
  go_wp2_with fail
  go_region
  go_end0
  have s1 := H.out.stored i (.int .i64 y)
  have s2 := s1.1.stored j (.int .i64 x)
  refine ⟨⟨_, rfl⟩, ?_, grownBy_trans (grownBy_trans s1.2 s2.2 (fun q e => .inl e)) (grown_drewN _ 1 (some g)) (fun q e => .inl e)⟩
  have h := own_drewN s2.1 1
  rw [encN_set, encN_set] at h
  have e : (l.set i y).set j x = swapL l i j := by rw [HX.out, HY.out]; rfl
  rw [e] at h
  exact h
structure HpAt (W : World) (B p : Nat) (v : Value) (l : List Nat) : Prop where
  c : W.cell? ⟨p, 0, none⟩ = some v
  f : W.frozen? ⟨p, 0, none⟩ = false
  o : W.ownsRow B 3 1 v l.length (encN .i64 l)
  ne : v.ownBlock ≠ some p
  hp : B ≤ p
structure HpTo (w w' : World) (p : Nat) (v v' : Value) : Prop where
  os : w'.os = w.os
  tape : w'.tape = w.tape
  output : w'.output = w.output
  size : w.heap.size ≤ w'.heap.size
  block : ∀ k, k < w.heap.size → k ≠ p → v.ownBlock ≠ some k → w'.heap[k]? = w.heap[k]?
  fresh : ∀ g, v'.ownBlock = some g → v.ownBlock = some g ∨ w.heap.size ≤ g
theorem HpTo.refl (w : World) (p : Nat) (v : Value) : HpTo w w p v v := ⟨rfl, rfl, rfl, Nat.le_refl _, fun _ _ _ _ => rfl, fun g h => .inl h⟩
theorem HpTo.drewN (w : World) (p : Nat) (v : Value) (n : Nat) : HpTo w (w.drewN n) p v v := ⟨rfl, rfl, rfl, Nat.le_refl _, fun _ _ _ _ => rfl, fun g h => .inl h⟩
theorem HpTo.trans {w w' w'' : World} {p : Nat} {v v' v'' : Value} (h : HpTo w w' p v v') (k : HpTo w' w'' p v' v'') : HpTo w w'' p v v'' :=
  ⟨k.os.trans h.os, k.tape.trans h.tape, k.output.trans h.output, Nat.le_trans h.size k.size, fun i hi hp hv => (k.block i (Nat.lt_of_lt_of_le hi h.size) hp (fun e => by
    rcases h.fresh i e with h1 | h1
    · exact hv h1
    · omega)).trans (h.block i hi hp hv), fun g e => by
    rcases k.fresh g e with h1 | h1
    · exact h.fresh g h1
    · exact .inr (Nat.le_trans h.size h1)⟩
theorem HpTo.below {w w' : World} {p B : Nat} {v v' : Value} (h : HpTo w w' p v v') (hB : B ≤ w.heap.size) (hp : B ≤ p) (hv : ∀ g, v.ownBlock = some g → B ≤ g) : Below B w w' :=
  ⟨h.os, h.tape, h.output, h.size, fun i hi => h.block i (by omega) (by omega) (fun e => by have := hv i e; omega)⟩
theorem HpTo.of_grown {w w' : World} {p g : Nat} {v : Value} (hg : w.grownBy w' (some g)) (hv : v.ownBlock = some g) : HpTo w w' p v v :=
  ⟨hg.os, hg.tape, hg.output, hg.size, fun k hk _ hne => hg.block k hk (fun e => hne (hv.trans e.symm)), fun _ h => .inl h⟩
theorem HpTo.set (w : World) (p : Nat) (v v' : Value) (u : Value) (hf : ∀ g, v'.ownBlock = some g → v.ownBlock = some g ∨ w.heap.size ≤ g) : HpTo w (w.setCell ⟨p, 0, none⟩ u) p v v' :=
  ⟨rfl, rfl, rfl, by rw [World.size_setCell]; exact Nat.le_refl _, fun k _ hp _ => Below.heap_setCell _ _ _ _ hp, hf⟩
theorem mk3 (x : Int) (w : World) : (Instr.makeInterface 3 (.int .i64 x)).run Tryz.prog w = .ok (.iface 3 (.int .i64 x)) w := by kernel_rfl
set_option maxRecDepth 100000 in
set_option maxHeartbeats 2000000 in
theorem popM_h {w : World} {B p g c : Nat} {l : List Nat} (h : HpAt w B p (.slice (some ⟨g, 0, none⟩) l.length c) l) (h0 : 0 < l.length) :
    Calls Tryz.prog 172 #[.pointer (some ⟨p, 0, none⟩)] w fun e w' => e = .returned (.iface 3 (.int .i64 (l.getD (l.length - 1) 0 : Nat))) ∧ ∃ n, w' = (w.drewN n).setCell ⟨p, 0, none⟩ (.slice (some ⟨g, 0, none⟩) (l.length - 1) c) := by
  have hmx : Tryz.prog.follows .mixedOrders = true := by kernel_rfl
  have hmk := mk3
  have hx := own_num h.o (i := l.length - 1) (by omega)
  have hcap := (own_sl h.o)
  obtain ⟨a', c', hv, hnc, hcm, -⟩ := hcap
  cases hv
  have hc := h.c
  have hf := h.f
  have hm : l.length ≤ 9223372036854775807 := by unfold maxLen at hcm; omega
  generalize l.getD (l.length - 1) 0 = x at *
  obtain ⟨n, hn⟩ : ∃ n, l.length = n + 1 := ⟨l.length - 1, by omega⟩
  rw [hn] at hc hx hnc hm ⊢
  simp only [Nat.add_sub_cancel] at hx ⊢
  have hi1 : IntKind.i64.wrap (((n + 1 : Nat) : Int) - 1) = (n : Int) := by rw [show (((n + 1 : Nat) : Int) - 1) = (n : Int) from by omega]; exact IntWalk.i64_in _ (by omega)
  have hi2 : (n : Int) < ((n + 1 : Nat) : Int) := by omega
  have hi0 : (0 : Int) ≤ (n : Int) := by omega
  have hi3 : (n : Int) ≤ (c : Int) := by omega
  clear h hn h0 hcm
  go_enter Tryz.func172, Tryz.ntmps172
  go_wp2_with fail
  refine wp_region_quiet_lit hmx (by kernel_rfl) ?_
  repeat (go_big_quiet_step (fail))
  refine wpQuiet_nil ?_
  intro _ hw'
  obtain ⟨nq, hw''⟩ := hw'
  subst hw''
  have hc2 : (w.drewN nq).cell? ⟨p, 0, none⟩ = some (.slice (some ⟨g, 0, none⟩) (n + 1) c) := hc
  have hf2 : (w.drewN nq).frozen? ⟨p, 0, none⟩ = false := hf
  obtain ⟨W, hW⟩ : ∃ W, W = w.drewN nq := ⟨_, rfl⟩
  rw [← hW] at hc2 hf2 ⊢
  have HW := Lib.hid hW
  clear hW hc hf hx
  go_wp2_with fail
  have hi4 : IntKind.i64.wrap (n : Int) = (n : Int) := IntWalk.i64_in _ (by omega)
  refine wp_region_still_tail 11 hmx (by kernel_rfl) ?_
  simp only [List.take_succ_cons, List.take_zero, List.drop_succ_cons, List.drop_zero]
  repeat still_step
  refine wpStill_nil ?_
  change wpList _ _ _ _ _ W.drew
  clear hi1 hi4
  go_wp2
  go_ret
  exact ⟨rfl, nq + 1, by rw [HW.out]; rfl⟩
theorem bs567 (x : Int) (w : World) : (Instr.buildSlice 217 1 #[(0, .int .i64 x)]).run Tryz.prog w = .ok (.slice (some ⟨w.heap.size, 0, none⟩) 1 1) (w.alloc (.cells #[.int .i64 x] 3)) := by kernel_rfl
theorem ta3 (x : Int) (w : World) : (Instr.typeAssert (.iface 3 (.int .i64 x)) 20 3 false).run Tryz.prog w = .ok (.int .i64 x) w := by kernel_rfl
set_option maxRecDepth 100000 in
set_option maxHeartbeats 2000000 in
theorem pushM_h {w : World} {B p : Nat} {v : Value} {l : List Nat} (h : HpAt w B p v l) (x : Nat) (hl : l.length ≤ 20000) :
    Calls Tryz.prog 173 #[.pointer (some ⟨p, 0, none⟩), .iface 3 (.int .i64 x)] w fun e w' => (∃ u, e = .returned u) ∧ ∃ v', HpAt w' B p v' (l ++ [x]) ∧ HpTo w w' p v v' := by
  obtain ⟨i0, hi, hz0, hz1, hz2⟩ := info_parts info3'
  have hmk := bs567
  have hta := ta3
  have H := Lib.hid h
  have hc := h.c
  have hf := h.f
  have hpl : p < w.heap.size := World.block_lt_of_cell? _ _ hc
  have hne1 : w.heap.size ≠ p := by omega
  have hb63 : l.length + 1 ≤ maxLen := by unfold maxLen; omega
  have hb47 : (l.length + 1) * 8 ≤ 140737488355328 := by omega
  clear h
  go_enter Tryz.func173, Tryz.ntmps173
  go_wp2_with fail
  go_region_law ((refine step_append_grew rfl (.tmp 7) (.tmp 10) 217 rfl 3 i0 (.int .i64 0) 1 8 Tryz.underlying217 hi hz0 hz1 hz2 rfl (by decide) v l.length (encN .i64 l) rfl (own_below (own_base (own_drewN H.out.o 1)) (Bel.new _ _)) ⟨_, 0, none⟩ 1 1 [_] rfl rfl (news_new _ #[_] 3) ?_ hb63 hb47 ?_; (intro u hu; rw [List.mem_singleton.1 hu]; rfl); intro v3 w3 hr3 hg3 hn3; obtain ⟨g3, c3, hv3, hb3, hl3⟩ := own_start hr3 (Nat.succ_pos _); have hbn := Bel.new w.drew (.cells #[.int .i64 x] 3); have hcx := grown_cell hg3.1 ((hbn.cell (p := ⟨p, 0, none⟩) hpl).trans hc) (by simp; omega) H.out.ne; have hfx : w3.frozen? ⟨p, 0, none⟩ = false := (World.frozen?_of_block (hg3.1.block p (by simp; omega) (fun e => H.out.ne e.symm))).trans ((hbn.frozen (p := ⟨p, 0, none⟩) hpl).trans hf); have HR3 := Lib.hid hr3; have HG3 := Lib.hid hg3; subst hv3; clear hr3 hg3 hn3 hbn hb3))
  all_goals
    go_end0
    have hfr : ∀ q, (Value.slice (some ⟨g3, 0, none⟩) (l.length + 1) c3).ownBlock = some q → v.ownBlock = some q ∨ w.heap.size ≤ q := fun q e => by
      rcases HG3.out.2 q e with h | h
      · exact .inl h
      · exact .inr (by simp at h; omega)
    have hBw := H.out.hp
    refine ⟨⟨_, rfl⟩, _, ⟨World.cell?_setCell_same' _ _ _ (by rw [hcx]; rfl), by rw [World.frozen?_setCell]; exact hfx, ?_, ?_, hBw⟩, ?_⟩
    · rw [List.length_append, encN_append]
      refine ownsRow_setCell_other (own_from HR3.out (fun q e => ?_)) (fun e => ?_) _
      · rcases hfr q e with h | h
        · exact (H.out.o.lt q h).1
        · omega
      · rcases hfr p e with h | h
        · exact H.out.ne h
        · omega
    · intro e
      rcases hfr p e with h | h
      · exact H.out.ne h
      · omega
    · have hg := HG3.out.1
      refine ⟨hg.os, hg.tape, hg.output, ?_, fun k hk hkp hkv => ?_, hfr⟩
      · have := hg.size
        rw [World.size_setCell]; simp at this; omega
      · refine (heap_setCell_other _ _ _ _ hkp).trans ((hg.block k (by simp; omega) (fun e => hkv e.symm)).trans ?_)
        exact Below.heap_alloc _ _ _ hk
theorem HpAt.drewN {W : World} {B p : Nat} {v : Value} {l : List Nat} (h : HpAt W B p v l) (n : Nat) : HpAt (W.drewN n) B p v l := ⟨h.c, h.f, own_drewN h.o n, h.ne, h.hp⟩
theorem HpAt.grown {W W' : World} {B p g n c : Nat} {l l' : List Nat} (h : HpAt W B p (.slice (some ⟨g, 0, none⟩) n c) l) (hg : W.grownBy W' (some g)) (ho : W'.ownsRow B 3 1 (.slice (some ⟨g, 0, none⟩) n c) l'.length (encN .i64 l')) : HpAt W' B p (.slice (some ⟨g, 0, none⟩) n c) l' := by
  have hl := World.block_lt_of_cell? _ _ h.c
  have hne : (some g : Option Nat) ≠ some p := h.ne
  exact ⟨grown_cell hg h.c hl hne, (World.frozen?_of_block (hg.block p hl (fun e => hne e.symm))).trans h.f, ho, h.ne, h.hp⟩
set_option maxRecDepth 100000 in
set_option maxHeartbeats 4000000 in
theorem up_h {w : World} {B p : Nat} {v : Value} {l : List Nat} (h : HpAt w B p v l) (j : Nat) (hj : j < l.length) (hl : l.length ≤ 20000) :
    Calls Tryz.prog 148 #[.iface 216 (.pointer (some ⟨p, 0, none⟩)), .int .i64 j] w fun e w' => (∃ u, e = .returned u) ∧ HpAt w' B p v (upL l j) ∧ HpTo w w' p v v := by
  obtain ⟨g, c, rfl, -, -⟩ := own_start h.o (by omega)
  have H := Lib.hid h
  clear h
  go_enter Tryz.func148, Tryz.ntmps148
  go_wp2_with fail
  go_loopw [1] (fun i wr => ∃ (m : Nat) (lm : List Nat), i = .int .i64 m ∧ m < l.length ∧ lm.length = l.length ∧ HpAt wr B p (.slice (some ⟨g, 0, none⟩) l.length c) lm ∧ HpTo w wr p (.slice (some ⟨g, 0, none⟩) l.length c) (.slice (some ⟨g, 0, none⟩) l.length c) ∧ upL lm m = upL l j) (fun i _ => (intOf i).toNat)
  case atStart => exact ⟨j, l, rfl, hj, rfl, H.out, HpTo.refl _ _ _, rfl⟩
  case round =>
    obtain ⟨m, lm, rfl, hm, hlm, hI, hT, hu⟩ := hrel
    rw [upL] at hu
    by_cases h0 : 0 < m
    · have hp := par_lt h0
      rw [dif_pos h0] at hu
      have hdiv := Lib.hid (show ((m : Int) - 1) / 2 = ((par m : Nat) : Int) from by unfold par; omega)
      have hb1 : (1 : Int) ≤ (m : Int) := by omega
      have hb2 : (m : Int) ≤ 20000 := by omega
      have HI := Lib.hid hI
      have HT := Lib.hid hT
      have hml := meth_less ⟨p, 0, none⟩ _ wr hI.c
      have hle := less_h (l := lm) (c := c) (by rw [hlm]; have := hI.o; rwa [hlm] at this) m (par m) (by omega) (by omega)
      rw [hlm] at hle
      by_cases hlt : lm.getD m 0 < lm.getD (par m) 0
      · rw [decide_eq_true hlt] at hle
        rw [if_pos hlt] at hu
        have HLE := Lib.hid hle
        have HU := Lib.hid hu
        have hsw := fun n => swap_h (w := wr.drewN n) (l := lm) (c := c) (own_drewN (by rw [hlm]; have := hI.o; rwa [hlm] at this) n) (par m) m (by omega) (by omega) (by omega)
        rw [hlm] at hsw
        have HSW := Lib.hid hsw
        have hms : ∀ n, (method 354 216 (.pointer (some ⟨p, 0, none⟩)) "Swap").run Tryz.prog (wr.drewN n) = .ok (174, .slice (some ⟨g, 0, none⟩) l.length c) (wr.drewN n) := fun n => meth_swap ⟨p, 0, none⟩ _ (wr.drewN n) hI.c
        have hne : ((par m : Int) == (m : Int)) = false := by simp; omega
        clear hI hT hle hu hsw hlt
        go_wp2_with fail
        rw [hdiv.out]
        refine HLE.out.mono ?_
        rintro e w1 ⟨rfl, n, rfl⟩
        go_wp2_with fail
        refine (HSW.out n).mono ?_
        rintro e w2 ⟨⟨u, rfl⟩, ho, hg⟩
        have HI2 := Lib.hid ((HI.out.drewN n).grown hg (by rw [swapL_length, hlm]; exact ho))
        have HT2 := Lib.hid (HT.out.trans ((HpTo.drewN wr p _ n).trans (HpTo.of_grown hg rfl)))
        clear ho hg hms
        go_wp2
        go_roundw
        case rel => exact ⟨par m, swapL lm (par m) m, rfl, by omega, by rw [swapL_length]; exact hlm, HI2.out, HT2.out, HU.out⟩
        case measure => simp [intOf]; omega
      · rw [decide_eq_false hlt] at hle
        rw [if_neg hlt] at hu
        subst hu
        have HLE := Lib.hid hle
        have hne : ((par m : Int) == (m : Int)) = false := by simp; omega
        clear hI hT hle hlt
        go_wp2_with fail
        rw [hdiv.out]
        refine HLE.out.mono ?_
        rintro e w1 ⟨rfl, n, rfl⟩
        go_wp2
        go_end0
        exact ⟨⟨_, rfl⟩, HI.out.drewN n, HT.out.trans (HpTo.drewN wr p _ n)⟩
    · obtain rfl : m = 0 := by omega
      rw [dif_neg h0] at hu
      subst hu
      have HI := Lib.hid hI
      have HT := Lib.hid hT
      clear hI hT
      go_wp2
      go_end0
      exact ⟨⟨_, rfl⟩, HI.out, HT.out⟩
theorem childL_a {l : List Nat} {i n : Nat} (h : 2 * i + 2 < n) (h2 : l.getD (2 * i + 2) 0 < l.getD (2 * i + 1) 0) : childL l i n = 2 * i + 2 := by unfold childL; rw [if_pos ⟨h, h2⟩]
theorem childL_b {l : List Nat} {i n : Nat} (h2 : ¬ (2 * i + 2 < n ∧ l.getD (2 * i + 2) 0 < l.getD (2 * i + 1) 0)) : childL l i n = 2 * i + 1 := by unfold childL; rw [if_neg h2]
theorem less_i {w : World} {B g c n : Nat} {l : List Nat} (h : w.ownsRow B 3 1 (.slice (some ⟨g, 0, none⟩) n c) n (encN .i64 l)) (hn : l.length = n) (i j : Nat) (x y : Int) (hx : x = (i : Int)) (hy : y = (j : Int)) (hi : i < n) (hj : j < n) (b : Bool) (hb : decide (l.getD i 0 < l.getD j 0) = b) :
    Calls Tryz.prog 171 #[.slice (some ⟨g, 0, none⟩) n c, .int .i64 x, .int .i64 y] w fun e w' => e = .returned (.bool b) ∧ ∃ n, w' = w.drewN n := by
  subst hn hx hy hb
  exact less_h h i j hi hj
theorem swap_i {w : World} {B g c n : Nat} {l : List Nat} (h : w.ownsRow B 3 1 (.slice (some ⟨g, 0, none⟩) n c) n (encN .i64 l)) (hn : l.length = n) (i j : Nat) (x y : Int) (hx : x = (i : Int)) (hy : y = (j : Int)) (hi : i < n) (hj : j < n) (hij : i ≠ j) :
    Calls Tryz.prog 174 #[.slice (some ⟨g, 0, none⟩) n c, .int .i64 x, .int .i64 y] w fun e w' => (∃ v, e = .returned v) ∧ w'.ownsRow B 3 1 (.slice (some ⟨g, 0, none⟩) n c) n (encN .i64 (swapL l i j)) ∧ w.grownBy w' (some g) := by
  subst hn hx hy
  exact swap_h h i j hi hj hij
set_option maxRecDepth 100000 in
set_option maxHeartbeats 8000000 in
theorem down_h {w : World} {B p : Nat} {v : Value} {l : List Nat} (h : HpAt w B p v l) (i n : Nat) (hn : n ≤ l.length) (h0 : 0 < l.length) (hi : i ≤ 20000) (hl : l.length ≤ 20000) :
    Calls Tryz.prog 145 #[.iface 216 (.pointer (some ⟨p, 0, none⟩)), .int .i64 i, .int .i64 n] w fun e w' => (∃ u, e = .returned u) ∧ HpAt w' B p v (downL l i n) ∧ HpTo w w' p v v := by
  obtain ⟨g, c, rfl, -, -⟩ := own_start h.o (by omega)
  have H := Lib.hid h
  have hl2 : l.length ≤ 9223372036854775807 := by omega
  have hni : (n : Int) ≤ 20000 := by omega
  clear h
  go_enter Tryz.func145, Tryz.ntmps145
  go_wp2_with fail
  go_loopw [7] (fun x wr => ∃ (m : Nat) (lm : List Nat), x = .int .i64 m ∧ m ≤ 20000 ∧ lm.length = l.length ∧ HpAt wr B p (.slice (some ⟨g, 0, none⟩) l.length c) lm ∧ HpTo w wr p (.slice (some ⟨g, 0, none⟩) l.length c) (.slice (some ⟨g, 0, none⟩) l.length c) ∧ downL lm m n = downL l i n) (fun x _ => n - (intOf x).toNat)
  case atStart => exact ⟨i, l, rfl, hi, rfl, H.out, HpTo.refl _ _ _, rfl⟩
  case round =>
    obtain ⟨m, lm, rfl, hm, hlm, hI, hT, hu⟩ := hrel
    rw [downL] at hu
    have hb0 : (0 : Int) ≤ (m : Int) := by omega
    have hb2 : (m : Int) ≤ 20000 := by omega
    have HI := Lib.hid hI
    have HT := Lib.hid hT
    by_cases h1 : 2 * m + 1 < n
    · rw [dif_pos h1] at hu
      have ho := hI.o
      rw [hlm] at ho
      have HO := Lib.hid ho
      have hk1 : (2 * (m : Int) + 1) < (n : Int) := by omega
      have hml := fun k => meth_less ⟨p, 0, none⟩ (.slice (some ⟨g, 0, none⟩) l.length c) (wr.drewN k) hI.c
      have hml0 := meth_less ⟨p, 0, none⟩ (.slice (some ⟨g, 0, none⟩) l.length c) wr hI.c
      have hms := fun k => meth_swap ⟨p, 0, none⟩ (.slice (some ⟨g, 0, none⟩) l.length c) (wr.drewN k) hI.c
      clear hI hT ho
      by_cases h2 : 2 * m + 2 < n
      · have hk2 : (2 * (m : Int) + 1 + 1) < (n : Int) := by omega
        by_cases h3 : lm.getD (2 * m + 2) 0 < lm.getD (2 * m + 1) 0
        · rw [childL_a h2 h3] at hu
          by_cases hc : lm.getD (2 * m + 2) 0 < lm.getD m 0
          · rw [if_pos hc] at hu
            have HU := Lib.hid hu
            clear hu
            have HL1 := Lib.hid (less_i HO.out hlm (2 * m + 2) (2 * m + 1) (2 * (m : Int) + 1 + 1) (2 * (m : Int) + 1) (by omega) (by omega) (by omega) (by omega) true (decide_eq_true h3))
            have HL2 := Lib.hid (fun k1 => less_i (own_drewN HO.out k1) hlm (2 * m + 2) m (2 * (m : Int) + 1 + 1) (m : Int) (by omega) rfl (by omega) (by omega) true (decide_eq_true hc))
            have HS := Lib.hid (fun k2 => swap_i (own_drewN HO.out k2) hlm m (2 * m + 2) (m : Int) (2 * (m : Int) + 1 + 1) rfl (by omega) (by omega) (by omega) (by omega))
            clear hc h3
            go_wp2_with fail
            refine HL1.out.mono ?_
            rintro e w1 ⟨rfl, k1, rfl⟩
            go_wp2_with fail
            refine (HL2.out k1).mono ?_
            rintro e w2 ⟨rfl, k2, rfl⟩
            go_wp2_with fail
            refine (HS.out (k1 + k2)).mono ?_
            rintro e w3 ⟨⟨u, rfl⟩, ho3, hg3⟩
            have HI3 := Lib.hid ((HI.out.drewN (k1 + k2)).grown hg3 (by rw [swapL_length, hlm]; exact ho3))
            have HT3 := Lib.hid (HT.out.trans ((HpTo.drewN wr p _ (k1 + k2)).trans (HpTo.of_grown hg3 rfl)))
            clear ho3 hg3 hms hml hml0
            go_wp2
            go_roundw
            case rel => exact ⟨2 * m + 2, swapL lm m (2 * m + 2), congrArg _ (by omega), by omega, by rw [swapL_length]; exact hlm, HI3.out, HT3.out, HU.out⟩
            case measure => simp [intOf]; omega
          · rw [if_neg hc] at hu
            subst hu
            have HL1 := Lib.hid (less_i HO.out hlm (2 * m + 2) (2 * m + 1) (2 * (m : Int) + 1 + 1) (2 * (m : Int) + 1) (by omega) (by omega) (by omega) (by omega) true (decide_eq_true h3))
            have HL2 := Lib.hid (fun k1 => less_i (own_drewN HO.out k1) hlm (2 * m + 2) m (2 * (m : Int) + 1 + 1) (m : Int) (by omega) rfl (by omega) (by omega) false (decide_eq_false hc))
            clear hc h3
            go_wp2_with fail
            refine HL1.out.mono ?_
            rintro e w1 ⟨rfl, k1, rfl⟩
            go_wp2_with fail
            refine (HL2.out k1).mono ?_
            rintro e w2 ⟨rfl, k2, rfl⟩
            clear hms hml hml0
            go_wp2
            go_ret
            exact ⟨⟨_, rfl⟩, (HI.out.drewN (k1 + k2)), HT.out.trans (HpTo.drewN wr p _ (k1 + k2))⟩
        · rw [childL_b (fun h => h3 h.2)] at hu
          by_cases hc : lm.getD (2 * m + 1) 0 < lm.getD m 0
          · rw [if_pos hc] at hu
            have HU := Lib.hid hu
            clear hu
            have HL1 := Lib.hid (less_i HO.out hlm (2 * m + 2) (2 * m + 1) (2 * (m : Int) + 1 + 1) (2 * (m : Int) + 1) (by omega) (by omega) (by omega) (by omega) false (decide_eq_false h3))
            have HL2 := Lib.hid (fun k1 => less_i (own_drewN HO.out k1) hlm (2 * m + 1) m (2 * (m : Int) + 1) (m : Int) (by omega) rfl (by omega) (by omega) true (decide_eq_true hc))
            have HS := Lib.hid (fun k2 => swap_i (own_drewN HO.out k2) hlm m (2 * m + 1) (m : Int) (2 * (m : Int) + 1) rfl (by omega) (by omega) (by omega) (by omega))
            clear hc h3
            go_wp2_with fail
            refine HL1.out.mono ?_
            rintro e w1 ⟨rfl, k1, rfl⟩
            go_wp2_with fail
            refine (HL2.out k1).mono ?_
            rintro e w2 ⟨rfl, k2, rfl⟩
            go_wp2_with fail
            refine (HS.out (k1 + k2)).mono ?_
            rintro e w3 ⟨⟨u, rfl⟩, ho3, hg3⟩
            have HI3 := Lib.hid ((HI.out.drewN (k1 + k2)).grown hg3 (by rw [swapL_length, hlm]; exact ho3))
            have HT3 := Lib.hid (HT.out.trans ((HpTo.drewN wr p _ (k1 + k2)).trans (HpTo.of_grown hg3 rfl)))
            clear ho3 hg3 hms hml hml0
            go_wp2
            go_roundw
            case rel => exact ⟨2 * m + 1, swapL lm m (2 * m + 1), congrArg _ (by omega), by omega, by rw [swapL_length]; exact hlm, HI3.out, HT3.out, HU.out⟩
            case measure => simp [intOf]; omega
          · rw [if_neg hc] at hu
            subst hu
            have HL1 := Lib.hid (less_i HO.out hlm (2 * m + 2) (2 * m + 1) (2 * (m : Int) + 1 + 1) (2 * (m : Int) + 1) (by omega) (by omega) (by omega) (by omega) false (decide_eq_false h3))
            have HL2 := Lib.hid (fun k1 => less_i (own_drewN HO.out k1) hlm (2 * m + 1) m (2 * (m : Int) + 1) (m : Int) (by omega) rfl (by omega) (by omega) false (decide_eq_false hc))
            clear hc h3
            go_wp2_with fail
            refine HL1.out.mono ?_
            rintro e w1 ⟨rfl, k1, rfl⟩
            go_wp2_with fail
            refine (HL2.out k1).mono ?_
            rintro e w2 ⟨rfl, k2, rfl⟩
            clear hms hml hml0
            go_wp2
            go_ret
            exact ⟨⟨_, rfl⟩, (HI.out.drewN (k1 + k2)), HT.out.trans (HpTo.drewN wr p _ (k1 + k2))⟩
      · have hk2 : ¬ (2 * (m : Int) + 1 + 1) < (n : Int) := by omega
        rw [childL_b (fun h => h2 h.1)] at hu
        by_cases hc : lm.getD (2 * m + 1) 0 < lm.getD m 0
        · rw [if_pos hc] at hu
          have HU := Lib.hid hu
          clear hu
          have HL2 := Lib.hid (less_i HO.out hlm (2 * m + 1) m (2 * (m : Int) + 1) (m : Int) (by omega) rfl (by omega) (by omega) true (decide_eq_true hc))
          have HS := Lib.hid (fun k2 => swap_i (own_drewN HO.out k2) hlm m (2 * m + 1) (m : Int) (2 * (m : Int) + 1) rfl (by omega) (by omega) (by omega) (by omega))
          clear hc
          go_wp2_with fail
          refine HL2.out.mono ?_
          rintro e w2 ⟨rfl, k2, rfl⟩
          go_wp2_with fail
          refine (HS.out k2).mono ?_
          rintro e w3 ⟨⟨u, rfl⟩, ho3, hg3⟩
          have HI3 := Lib.hid ((HI.out.drewN k2).grown hg3 (by rw [swapL_length, hlm]; exact ho3))
          have HT3 := Lib.hid (HT.out.trans ((HpTo.drewN wr p _ k2).trans (HpTo.of_grown hg3 rfl)))
          clear ho3 hg3 hms hml hml0
          go_wp2
          go_roundw
          case rel => exact ⟨2 * m + 1, swapL lm m (2 * m + 1), congrArg _ (by omega), by omega, by rw [swapL_length]; exact hlm, HI3.out, HT3.out, HU.out⟩
          case measure => simp [intOf]; omega
        · rw [if_neg hc] at hu
          subst hu
          have HL2 := Lib.hid (less_i HO.out hlm (2 * m + 1) m (2 * (m : Int) + 1) (m : Int) (by omega) rfl (by omega) (by omega) false (decide_eq_false hc))
          clear hc
          go_wp2_with fail
          refine HL2.out.mono ?_
          rintro e w2 ⟨rfl, k2, rfl⟩
          clear hms hml hml0
          go_wp2
          go_ret
          exact ⟨⟨_, rfl⟩, (HI.out.drewN k2), HT.out.trans (HpTo.drewN wr p _ k2)⟩
    · rw [dif_neg h1] at hu
      subst hu
      have hk1 : ¬ (2 * (m : Int) + 1) < (n : Int) := by omega
      clear hI hT
      go_wp2
      go_ret
      exact ⟨⟨_, rfl⟩, HI.out, HT.out⟩
theorem swapL_self (l : List Nat) (i : Nat) : swapL l i i = l := by
  unfold swapL
  by_cases h : i < l.length
  · have e : l.getD i 0 = l[i] := by rw [List.getD_eq_getElem?_getD, List.getElem?_eq_getElem h]; rfl
    rw [e, List.set_set, List.set_getElem_self]
  · rw [List.set_eq_of_length_le (by simp; omega), List.set_eq_of_length_le (by omega)]
set_option maxRecDepth 100000 in
set_option maxHeartbeats 2000000 in
theorem swap_same {w : World} {B g c : Nat} {l : List Nat} (h : w.ownsRow B 3 1 (.slice (some ⟨g, 0, none⟩) l.length c) l.length (encN .i64 l)) (i : Nat) (hi : i < l.length) :
    Calls Tryz.prog 174 #[.slice (some ⟨g, 0, none⟩) l.length c, .int .i64 i, .int .i64 i] w fun e w' => (∃ v, e = .returned v) ∧ w'.ownsRow B 3 1 (.slice (some ⟨g, 0, none⟩) l.length c) l.length (encN .i64 l) ∧ w.grownBy w' (some g) := by
  have h1 := own_num h hi
  have f1 := h.frozenAt i
  have H := Lib.hid h
  have hii : (i : Int) < (l.length : Int) := by omega
  have hi0 : (0 : Int) ≤ (i : Int) := by omega
  obtain ⟨x, hx⟩ : ∃ x, x = l.getD i 0 := ⟨_, rfl⟩
  rw [← hx] at h1
  have HX := Lib.hid hx
  clear h hx
  go_enter Tryz.func174, Tryz.ntmps174
  go_wp2_with fail
  go_region
  go_end0
  have s1 := H.out.stored i (.int .i64 x)
  have s2 := s1.1.stored i (.int .i64 x)
  refine ⟨⟨_, rfl⟩, ?_, grownBy_trans (grownBy_trans s1.2 s2.2 (fun q e => .inl e)) (grown_drewN _ 1 (some g)) (fun q e => .inl e)⟩
  have h := own_drewN s2.1 1
  rw [encN_set, encN_set] at h
  have e : (l.set i x).set i x = l := by
    have := swapL_self l i
    unfold swapL at this
    rw [← HX.out] at this; exact this
  rw [e] at h
  exact h
theorem own_takeN {W : World} {B e g n c : Nat} {xs : List Value} (h : W.ownsRow B e 1 (.slice (some ⟨g, 0, none⟩) (n + 1) c) (n + 1) xs) : W.ownsRow B e 1 (.slice (some ⟨g, 0, none⟩) n c) n (xs.take n) := by
  obtain ⟨hl, h⟩ := h
  rcases h with ⟨hv, _⟩ | ⟨g', c', cur, hv, hb, hg, hn, hm, hcs, ht⟩
  · cases hv
  · cases hv
    refine ⟨by rw [List.length_take, hl]; omega, .inr ⟨g, c, cur, rfl, hb, hg, by omega, hm, hcs, ?_⟩⟩
    rw [← ht, List.take_take]
    congr 1
    omega
theorem encN_take (k : IntKind) (l : List Nat) (n : Nat) : (encN k l).take n = encN k (l.take n) := by simp [encN, List.map_take]
set_option maxRecDepth 100000 in
set_option maxHeartbeats 4000000 in
theorem pop_h {w : World} {B p : Nat} {v : Value} {l : List Nat} (h : HpAt w B p v l) (h0 : 0 < l.length) (hl : l.length ≤ 20000) :
    Calls Tryz.prog 132 #[.iface 216 (.pointer (some ⟨p, 0, none⟩))] w fun e w' => e = .returned (.iface 3 (.int .i64 (l.getD 0 0 : Nat))) ∧ ∃ v', HpAt w' B p v' (popL l) ∧ HpTo w w' p v v' := by
  obtain ⟨g, c, rfl, -, -⟩ := own_start h.o (by omega)
  obtain ⟨n, hn⟩ : ∃ n, l.length = n + 1 := ⟨l.length - 1, by omega⟩
  have H := Lib.hid h
  have hml := meth_len ⟨p, 0, none⟩ _ w h.c
  have hms := meth_swap ⟨p, 0, none⟩ _ w h.c
  have hmp := fun W => meth_pop ⟨p, 0, none⟩ W
  have hsw : Calls Tryz.prog 174 #[.slice (some ⟨g, 0, none⟩) l.length c, .int .i64 0, .int .i64 n] w fun e w' => (∃ v, e = .returned v) ∧ w'.ownsRow B 3 1 (.slice (some ⟨g, 0, none⟩) l.length c) l.length (encN .i64 (swapL l 0 n)) ∧ w.grownBy w' (some g) := by
    by_cases hz : n = 0
    · subst hz
      have := swap_same h.o 0 (by omega)
      rw [swapL_self]; exact this
    · exact swap_h h.o 0 n (by omega) (by omega) (by omega)
  obtain ⟨x, hx⟩ : ∃ x, x = l.getD 0 0 := ⟨_, rfl⟩
  rw [← hx]
  have hpl : popL l = (downL (swapL l 0 n) 0 n).take n := by unfold popL; rw [hn]; rfl
  have hla := popL_last h0
  rw [← hx] at hla
  clear hx
  have hD : (downL (swapL l 0 n) 0 n).length = n + 1 := by rw [downL_length, swapL_length, hn]
  rw [hn] at hml hms hsw hla
  simp only [Nat.add_sub_cancel] at hla
  have HSW := Lib.hid hsw
  have hnn : (n : Int) ≤ 20000 := by omega
  have Hn := Lib.hid hn
  have HPL := Lib.hid hpl
  have HLA := Lib.hid hla
  have HD := Lib.hid hD
  clear h hsw hn hpl hla hD
  go_enter Tryz.func132, Tryz.ntmps132
  go_wp2_with (go_at_call 131; refine (len_any _ _ _ _).mono ?_; rintro e w' ⟨rfl, rfl⟩)
  refine HSW.out.mono ?_
  rintro e w1 ⟨⟨u, rfl⟩, ho, hg⟩
  have h1 : HpAt w1 B p (.slice (some ⟨g, 0, none⟩) (n + 1) c) (swapL l 0 n) := by
    refine HpAt.grown (l := l) (by have := H.out; rwa [Hn.out] at this) hg ?_
    rw [swapL_length, Hn.out]
    exact ho
  have t1 : HpTo w w1 p (.slice (some ⟨g, 0, none⟩) (n + 1) c) (.slice (some ⟨g, 0, none⟩) (n + 1) c) := HpTo.of_grown hg rfl
  have H1 := Lib.hid h1
  have T1 := Lib.hid t1
  clear ho hg h1 t1 hms hml
  go_wp2_with fail
  go_at_call 145
  refine (down_h (i := 0) H1.out n (by rw [swapL_length, Hn.out]; omega) (by rw [swapL_length, Hn.out]; omega) (by omega) (by rw [swapL_length]; exact hl)).mono ?_
  rintro e w2 ⟨⟨u, rfl⟩, h2, t2⟩
  have HP := popM_h (l := downL (swapL l 0 n) 0 n) (c := c) (g := g) (p := p) (B := B) (w := w2) (by rw [HD.out]; exact h2) (by rw [HD.out]; omega)
  rw [HD.out] at HP
  simp only [Nat.add_sub_cancel] at HP
  rw [HLA.out] at HP
  have H2 := Lib.hid h2
  have T2 := Lib.hid t2
  have HPP := Lib.hid HP
  clear h2 t2 HP
  go_wp2_with fail
  refine HPP.out.mono ?_
  rintro e w3 ⟨rfl, k, rfl⟩
  go_wp2
  go_ret
  refine ⟨rfl, _, ⟨World.cell?_setCell_same' _ _ _ (by rw [show (w2.drewN k).cell? ⟨p, 0, none⟩ = _ from H2.out.c]; rfl), by rw [World.frozen?_setCell]; exact H2.out.f, ?_, H2.out.ne, H2.out.hp⟩, ?_⟩
  · have ho := H2.out.o
    rw [HD.out] at ho
    have h5 := own_takeN (own_drewN ho k)
    rw [encN_take, ← HPL.out] at h5
    have e5 : (popL l).length = n := by rw [popL_length, Hn.out]; rfl
    rw [e5]
    exact ownsRow_setCell_other (a := ⟨p, 0, none⟩) h5 (show (some g : Option Nat) ≠ some p from H2.out.ne) _
  · rw [Hn.out]
    exact T1.out.trans (T2.out.trans ((HpTo.drewN _ _ _ k).trans (HpTo.set _ _ _ _ _ (fun g h => .inl h))))
set_option maxRecDepth 100000 in
set_option maxHeartbeats 4000000 in
theorem push_h {w : World} {B p : Nat} {v : Value} {l : List Nat} (h : HpAt w B p v l) (x : Nat) (hl : l.length ≤ 19000) :
    Calls Tryz.prog 135 #[.iface 216 (.pointer (some ⟨p, 0, none⟩)), .iface 3 (.int .i64 x)] w fun e w' => (∃ u, e = .returned u) ∧ ∃ v', HpAt w' B p v' (pushL l x) ∧ HpTo w w' p v v' := by
  have H := Lib.hid h
  have hmp := meth_push ⟨p, 0, none⟩ w
  have HPU := Lib.hid (pushM_h h x (by omega))
  have hnn : (l.length : Int) ≤ 20000 := by omega
  clear h
  go_enter Tryz.func135, Tryz.ntmps135
  go_wp2_with fail
  refine HPU.out.mono ?_
  rintro e w1 ⟨⟨u, rfl⟩, v1, h1, t1⟩
  obtain ⟨g, c, hv1, -, -⟩ := own_start h1.o (by simp)
  rw [List.length_append, List.length_singleton] at hv1
  subst hv1
  have hml := meth_len ⟨p, 0, none⟩ _ w1 h1.c
  have H1 := Lib.hid h1
  have T1 := Lib.hid t1
  clear h1 t1
  go_wp2_with (go_at_call 131; refine (len_any _ _ _ _).mono ?_; rintro e w' ⟨rfl, rfl⟩)
  refine (up_h H1.out l.length (by simp) (by simp; omega)).mono ?_
  rintro e w2 ⟨⟨u, rfl⟩, h2, t2⟩
  have H2 := Lib.hid h2
  have T2 := Lib.hid t2
  clear h2 t2
  go_wp2
  go_end0
  exact ⟨⟨_, rfl⟩, _, H2.out, T1.out.trans T2.out⟩
set_option maxRecDepth 100000 in
set_option maxHeartbeats 2000000 in
theorem mul64_one (n : Nat) (w : World) (hn : n < 4294967296) : Calls Tryz.prog 144 #[.int .u64 1, .int .u64 n] w fun e w' => e = .returned (.tuple #[.int .u64 0, .int .u64 n]) ∧ w = w' := by
  have b1 : bits BinOp.and IntKind.u64 1 4294967295 = 1 := by decide +kernel
  have b0 : bits BinOp.and IntKind.u64 0 4294967295 = 0 := by decide +kernel
  have bn : bits BinOp.and IntKind.u64 (n : Int) 4294967295 = (n : Int) := by
    have h := u64_and_nat n 4294967295 (by omega) (by omega)
    have e : n &&& 4294967295 = n := by
      have : (4294967295 : Nat) = 2 ^ 32 - 1 := by decide
      rw [this, Nat.and_two_pow_sub_one_eq_mod]
      exact Nat.mod_eq_of_lt (by omega)
    rw [e] at h
    exact h
  have w0 : IntKind.u64.wrap 0 = 0 := by decide +kernel
  have wn : IntKind.u64.wrap (n : Int) = (n : Int) := IntWalk.u64_in _ (by omega)
  have d0 : (n : Int) / 4294967296 = 0 := by omega
  go_enter Tryz.func144, Tryz.ntmps144
  go_wp2
  go_ret2
  simp
set_option maxRecDepth 100000 in
set_option maxHeartbeats 2000000 in
theorem mul_one_any (n : Nat) (w : World) (hn : n < 4294967296) : Calls Tryz.prog 129 #[.int .u64 1, .int .u64 n] w fun e w' => e = .returned (.tuple #[.int .u64 0, .int .u64 n]) ∧ w = w' := by
  have H := mul64_one n w hn
  have HH := Lib.hid H
  clear H
  go_enter Tryz.func129, Tryz.ntmps129
  go_wp2_with fail
  refine HH.out.mono ?_
  rintro e w' ⟨rfl, rfl⟩
  go_wp2
  go_ret2
  exact ⟨rfl, rfl⟩
def negs (m n : Nat) : List Value := List.replicate m (.int .i64 (-1)) ++ List.replicate (n - m) (.int .i64 0)
theorem negs_length {m n : Nat} (h : m ≤ n) : (negs m n).length = n := by simp [negs]; omega
theorem negs_splice {m k n : Nat} (h : m + k ≤ n) : splice (negs m n) m (List.replicate k (.int .i64 (-1))) = negs (m + k) n := by
  unfold splice negs
  rw [List.take_append_of_le_length (by simp), List.take_of_length_le (by simp), List.length_replicate, List.drop_append, List.drop_of_length_le (by simp), List.length_replicate, List.drop_replicate, List.nil_append, ← List.append_assoc, List.replicate_append_replicate]
  congr 2; omega
set_option maxRecDepth 100000 in
set_option maxHeartbeats 1000000 in
theorem repeat_any {w : World} {s : Nat} (h : w.cell? ⟨s, 0, none⟩ = some (.int .i64 (-1))) (n : Nat) (hn : n ≤ 16384) :
    Calls Tryz.prog 111 #[.slice (some ⟨s, 0, none⟩) 1 1, .int .i64 n] w fun e w' => ∃ v, e = .returned v ∧ w'.ownsRow w.heap.size 3 1 v n (List.replicate n (.int .i64 (-1))) ∧ Below w.heap.size w w' := by
  have wu : IntKind.u64.wrap (n : Int) = (n : Int) := IntWalk.u64_in _ (by omega)
  have wi : IntKind.i64.wrap (n : Int) = (n : Int) := IntWalk.i64_in _ (by omega)
  have hm := mul_one_any n w (by omega)
  have HM := Lib.hid hm
  have n1 : ¬ (n : Int) < 0 := by omega
  have n2 : ¬ (9223372036854775807 : Int) < (n : Int) := by omega
  clear hm
  go_enter Tryz.func111, Tryz.ntmps111
  go_wp2_with fail
  refine HM.out.mono ?_
  rintro e w' ⟨rfl, rfl⟩
  obtain ⟨i0, hi, hz0, hz1, hz2⟩ := info_parts info3'
  have hmk := fun w => run_make (P := Tryz.prog) w 90 3 i0 (.int .i64 0) Tryz.underlying90 hi hz0 .i64 .i64 n n (by omega) (by omega) (by rw [hz2]; omega) (by omega)
  simp only [hz1, Nat.mul_one, Int.toNat_natCast] at hmk
  have hsz3 : (Tryz.prog.info? 3).map (·.size) = some 1 := by kernel_rfl
  have hmc : madeCells (Value.int IntKind.i64 0).cells n = (negs 0 n).toArray := by
    unfold madeCells negs
    apply Array.ext
    · simp
    · intro i h1 h2
      simp at h1 h2 ⊢
      simp [Value.cells, Nat.mod_one]
  simp only [hmc] at hmk
  have hs := World.block_lt_of_cell? _ _ h
  obtain ⟨N0, hN0⟩ : ∃ N0, N0 = negs 0 n := ⟨_, rfl⟩
  rw [← hN0] at hmk
  have hlen : N0.length = n := by rw [hN0, negs_length (by omega)]
  obtain ⟨cs, hcs⟩ : ∃ cs : List Value, cs = List.replicate (min 1 n) (.int .i64 (-1)) := ⟨_, rfl⟩
  have hcl : cs.length = min 1 n := by rw [hcs]; simp
  have hg0 := heap_alloc_new w (.cells N0.toArray 3)
  have hb0 := Bel.new w (.cells N0.toArray 3)
  have hsrc : ∀ j v, cs[j]? = some v → (w.alloc (.cells N0.toArray 3)).cell? ((⟨s, 0, none⟩ : Addr).add j) = some v := by
    intro j v hj
    rw [hcs] at hj
    have hj' := (List.getElem?_eq_some_iff.1 hj)
    obtain ⟨hj1, hj2⟩ := hj'
    simp at hj1 hj2
    obtain rfl : j = 0 := by omega
    rw [← hj2]
    exact (hb0.cell (p := ⟨s, 0, none⟩) hs).trans h
  have h1c : ∀ v ∈ cs, v.oneCell' = true := by
    intro v hv
    rw [hcs] at hv
    rw [(List.mem_replicate.1 hv).2]; rfl
  have HN0 := Lib.hid hN0
  have HCS := Lib.hid hcs
  have hmn : min 1 n ≤ n := Nat.min_le_right _ _
  clear hmc hN0 hcs h
  go_wp2_with (((with_reducible refine wpList_copy_splice (o := ⟨some 33, .call { callee := .builtin .copy, args := #[.tmp 31, .tmp 32], argTypes := #[90, 90] }, _, _, _, none⟩) rfl (.tmp 31) (.tmp 32) 90 90 rfl 3 Tryz.underlying90 hsz3 (some ⟨w.heap.size, 0, none⟩) (some ⟨s, 0, none⟩) n n 1 1 ?_ ?_ w.heap.size 0 N0 3 hg0 cs ?_ ?_ ?_ h1c w.heap.size w hb0 (Nat.le_refl _) ?_); rfl; rfl; exact hcl; exact fun _ => ⟨rfl, _, rfl, hsrc⟩; (rw [hcl, hlen]; omega); intro w1 hg1 hb1))
  have hlo : min 1 n = 0 → n = 0 := by omega
  have hhi : min 1 n ≤ n := hmn
  have hst : (Exists fun (_ : w1.heap[w.heap.size]? = some (.cells (negs (min 1 n) n).toArray 3 (0, 0))) => True) := by
    refine ⟨?_, trivial⟩
    have := hg1.out
    rw [HN0.out, HCS.out, negs_splice (by omega), Nat.zero_add] at this
    exact this
  have HST := Lib.hid hst.1
  have HB := Lib.hid hb1
  clear hst hg1 hb1 hsrc h1c hg0 hb0 hmk hcl hlen
  obtain ⟨g, hg⟩ : ∃ g, g = w.heap.size := ⟨_, rfl⟩
  have HST' := HST
  rw [← hg] at HST' ⊢
  have HG := Lib.hid hg
  clear hg HST
  generalize min 1 n = m0 at *
  go_loopw [8] (fun i wr => ∃ m : Nat, i = .int .i64 m ∧ m ≤ n ∧ (m = 0 → n = 0) ∧ wr.heap[g]? = some (.cells (negs m n).toArray 3 (0, 0)) ∧ Below g w wr) (fun i _ => n - (intOf i).toNat)
  case atStart => exact ⟨m0, rfl, hhi, hlo, HST'.out, by rw [HG.out]; exact HB.out⟩
  case round =>
    obtain ⟨m, rfl, hm1, hm2, hg1, hb1⟩ := hrel
    by_cases hc : m < n
    · obtain ⟨k, hk⟩ : ∃ k, k = min m (n - m) := ⟨_, rfl⟩
      have hk1 : m + k ≤ n := by omega
      have hk2 : 0 < k := by omega
      have hkn : k = Nat.min m (n - m) := hk
      have hcn : (m : Int) < (n : Int) := by omega
      have hcn1 : (m : Int) ≤ (n : Int) := by omega
      have hm0 : (0 : Int) ≤ (m : Int) := by omega
      obtain ⟨L, hL⟩ : ∃ L, L = negs m n := ⟨_, rfl⟩
      rw [← hL] at hg1
      have hll : L.length = n := by rw [hL, negs_length (by omega)]
      obtain ⟨cs, hcs⟩ : ∃ cs : List Value, cs = List.replicate k (.int .i64 (-1)) := ⟨_, rfl⟩
      have hcl : cs.length = k := by rw [hcs]; simp
      have hsrc : ∀ j v, cs[j]? = some v → (wr).cell? ((⟨g, 0, none⟩ : Addr).add j) = some v := by
        intro j v hj
        rw [hcs] at hj
        obtain ⟨hj1, hj2⟩ := (List.getElem?_eq_some_iff.1 hj)
        simp at hj1 hj2
        rw [← hj2]
        have : (⟨g, 0, none⟩ : Addr).add j = ⟨g, j, none⟩ := by unfold Addr.add; simp [eq_comm]
        rw [this]
        simp only [World.cell?, hg1]
        have h6 : L[j]? = some (.int .i64 (-1)) := by
          rw [hL]; unfold negs
          rw [List.getElem?_append_left (by simp; omega), List.getElem?_replicate, if_pos (by omega)]
        simp [h6]
      have h1c : ∀ v ∈ cs, v.oneCell' = true := by
        intro v hv
        rw [hcs] at hv
        rw [(List.mem_replicate.1 hv).2]; rfl
      have hfin : splice L m cs = negs (m + k) n := by rw [hL, hcs, negs_splice hk1]
      have HFIN := Lib.hid hfin
      have HKN := Lib.hid hkn
      have hnm : ¬ n = m := by omega
      have hgd : wr.drew.heap[g]? = some (.cells L.toArray 3 (0, 0)) := hg1
      have hbd : Below g w wr.drew := hb1.trans ⟨rfl, rfl, rfl, Nat.le_refl _, fun _ _ => rfl⟩
      have hsrcd : ∀ j v, cs[j]? = some v → (wr.drew).cell? ((⟨g, 0, none⟩ : Addr).add j) = some v := hsrc
      clear hk hL hcs hkn hfin hsrc hg1 hb1
      go_wp2_with fail
      go_region_law (refine step_copy_splice rfl (.tmp 41) (.tmp 44) 90 90 rfl 3 Tryz.underlying90 hsz3 (some ⟨g, m, none⟩) (some ⟨g, 0, none⟩) (n - m) (n - m) m n (by simp [Act.eval, Act.put]) (by simp [Act.eval, Act.put]) g m L 3 hgd cs (hcl.trans HKN.out) (fun _ => ⟨rfl, _, rfl, hsrcd⟩) (by rw [hcl, hll]; exact hk1) h1c g w hbd (Nat.le_refl _) ?_; intro w4 hg4 hb4)
      have hw : IntKind.i64.wrap ((m : Int) + (k : Int)) = ((m + k : Nat) : Int) := by rw [show (m : Int) + (k : Int) = ((m + k : Nat) : Int) from by omega]; exact IntWalk.i64_in _ (by omega)
      rw [hw]
      have h4 := hg4.out
      rw [HFIN.out] at h4
      have H4 := Lib.hid h4
      clear h4 hg4
      simp [Act.put]
      go_wp2
      go_roundw
      case rel => exact ⟨m + k, rfl, hk1, fun h => absurd h (by omega), H4.out, hb4⟩
      case measure => simp [intOf]; omega
    · obtain rfl : m = n := by omega
      have H1 := Lib.hid hg1
      have HB1 := Lib.hid hb1
      clear hg1 hb1
      go_wp2
      go_ret
      refine ⟨_, rfl, ⟨by simp, .inr ⟨g, m, _, rfl, by rw [HG.out]; exact Nat.le_refl _, H1.out, Nat.le_refl _, by unfold maxLen; omega, by simp [negs_length], ?_⟩⟩, by have := HB1.out; rwa [HG.out] at this⟩
      simp [negs]
theorem encRes_all {l : List (Nat × Nat)} (h : (encRes l).2.2 = 0) : ∀ k, k < l.length → errAt l k = 0 := by
  have h16 : ¬ 16384 < l.length := fun e => by have := encRes_short h; omega
  intro k
  induction k using Nat.strongRecOn with
  | ind k ih =>
    intro hk
    by_cases he : errAt l k = 0
    · exact he
    · have := encRes_bad h16 hk he (fun j hj => ih j hj (by omega))
      rw [this] at h
      exact absurd h he
theorem endsK_not {K : Nat} (h3 : K ≠ 3) (h4 : K ≠ 4) (h8 : K ≠ 8) : endsK K = false := by simp [endsK, h3, h4, h8]
theorem isOp_ok {o a : Nat} (h : checkN o a = 0) : isOp o = true := by
  unfold checkN at h
  cases hi : isOp o
  · rw [hi] at h; simp at h
  · rfl
section
variable {code : List (Nat × Nat)} {js ats : List Nat} (h : FindOk code js ats)
include h
theorem FindOk.tl : Tiles code code.length (psTo code code.length) (ofTo code code.length) := tiles h.h3.2 _
theorem FindOk.tg : Tgts (ofTo code code.length) js js.length (aimTo (ofTo code code.length) js (psTo code code.length).length js.length) := tgts (fun x hx => h.tl.lt x (by rw [← h.tl.ol]; exact hx)) _ h.hg
theorem FindOk.op (i : Nat) (hi : i < code.length) : isOp (code.getD i (0, 0)).1 = true := isOp_ok (encRes_all h.he i hi)
theorem FindOk.in_proc {r x : Nat} (hr : r < (psTo code code.length).length) (hx : insideN ((psTo code code.length).getD r (0, 0, 0)) x = true) :
    x < code.length ∧ (ofTo code code.length).getD x 0 = r ∧ beginsN (psTo code code.length) (ofTo code code.length) x = false := by
  unfold insideN at hx
  rw [Bool.and_eq_true, decide_eq_true_eq, decide_eq_true_eq] at hx
  have hb := (h.tl.bd r hr).2
  have ho := h.tl.mid r hr x (by omega) hx.2
  refine ⟨by omega, ho, ?_⟩
  unfold beginsN
  rw [ho]
  have : ((psTo code code.length).getD r (0, 0, 0)).1 ≠ x := by omega
  rw [beq_eq_false_iff_ne.2 this, Bool.and_false]
theorem FindOk.target (i : Nat) (hi : i < code.length) (hk : kindOf (code.getD i (0, 0)).1 = 3 ∨ kindOf (code.getD i (0, 0)).1 = 2) :
    (code.getD i (0, 0)).2 < code.length ∧ (ofTo code code.length).getD (code.getD i (0, 0)).2 0 = (ofTo code code.length).getD i 0 ∧ beginsN (psTo code code.length) (ofTo code code.length) (code.getD i (0, 0)).2 = false := by
  have hf := h.hall i hi
  refine h.in_proc (h.tl.lt i hi) ?_
  unfold faultAt faultN faultK at hf
  cases hx : insideN ((psTo code code.length).getD ((ofTo code code.length).getD i 0) (0, 0, 0)) (code.getD i (0, 0)).2
  · rw [hx] at hf
    rw [if_neg (by omega), if_neg (by omega), if_pos ⟨hk, rfl⟩] at hf
    cases hf
  · rfl
theorem FindOk.goes (i : Nat) (hi : i < code.length) (hk : kindOf (code.getD i (0, 0)).1 ≠ 3 ∧ kindOf (code.getD i (0, 0)).1 ≠ 4 ∧ kindOf (code.getD i (0, 0)).1 ≠ 7 ∧ kindOf (code.getD i (0, 0)).1 ≠ 8) :
    i + 1 < code.length ∧ (ofTo code code.length).getD (i + 1) 0 = (ofTo code code.length).getD i 0 := by
  have hf := h.hall i hi
  have hr := h.tl.lt i hi
  have hl := h.tl.lo i hi
  have hb := (h.tl.bd _ hr).2
  have hne : i + 1 ≠ ((psTo code code.length).getD ((ofTo code code.length).getD i 0) (0, 0, 0)).2.1 := by
    intro he
    unfold faultAt faultN faultK at hf
    split at hf
    · cases hf
    · rw [if_neg hk.2.2.1] at hf
      split at hf
      · cases hf
      · rw [if_pos ⟨he, endsK_not hk.1 hk.2.1 hk.2.2.2⟩] at hf
        cases hf
  have := h.tl.mid _ hr (i + 1) (by omega) (by omega)
  exact ⟨by omega, this⟩
theorem FindOk.legal {x y : Nat} (hy : y ∈ (aimTo (ofTo code code.length) js (psTo code code.length).length js.length).getD ((ofTo code code.length).getD x 0) []) :
    y < code.length ∧ (ofTo code code.length).getD y 0 = (ofTo code code.length).getD x 0 ∧ beginsN (psTo code code.length) (ofTo code code.length) y = false := by
  obtain ⟨i, hi, he, ho⟩ := h.tg.of_mem _ _ hy
  have := h.hg i hi
  simp only [aimOk, Bool.and_eq_true, decide_eq_true_eq] at this
  obtain ⟨-, h1, h2⟩ := this
  rw [← he] at h1 h2
  have hl := h.in_proc (h.tl.lt y (by rw [← h.tl.ol]; exact h1)) h2
  exact ⟨hl.1, ho, hl.2.2⟩
theorem FindOk.jumps (i : Nat) (hi : i < js.length) : js.getD i 0 < code.length ∧ js.getD i 0 ∈ (aimTo (ofTo code code.length) js (psTo code code.length).length js.length).getD ((ofTo code code.length).getD (js.getD i 0) 0) [] ∧
    beginsN (psTo code code.length) (ofTo code code.length) (js.getD i 0) = false := by
  have hm := h.tg.mem i hi
  have := h.hg i hi
  simp only [aimOk, Bool.and_eq_true, decide_eq_true_eq] at this
  have hx : js.getD i 0 < code.length := by rw [← h.tl.ol]; exact this.2.1
  exact ⟨hx, hm, (h.legal hm).2.2⟩
end
theorem FindOk.next_lt {code : List (Nat × Nat)} {js : List Nat} (h : FindOk code js []) {i t : Nat} (hi : i < code.length) (ht : t ∈ nextN code js i) : t < code.length := by
  unfold nextN opAt argAt at ht
  split at ht
  · rename_i hk
    have := (h.goes i hi (by omega)).1
    rw [List.mem_singleton.1 ht]; exact this
  · split at ht
    · rename_i hk
      have h1 := (h.goes i hi (by omega)).1
      have h2 := (h.target i hi (.inr hk)).1
      split at ht
      · rw [List.mem_singleton.1 ht]; exact h1
      · simp only [List.mem_cons, List.not_mem_nil, or_false] at ht
        rcases ht with rfl | rfl
        · exact Nat.lt_of_le_of_lt (Nat.min_le_left _ _) h1
        · exact Nat.max_lt.2 ⟨h1, h2⟩
    · split at ht
      · rename_i hk
        rw [List.mem_singleton.1 ht]; exact (h.target i hi (.inl hk)).1
      · split at ht
        · unfold tgtsAt at ht
          split at ht
          · rename_i hr
            have hl := h.tl.lt i hi
            have e : (ofN (ofTo code code.length) i).toNat = (ofTo code code.length).getD i 0 := by
              unfold ofN at hr ⊢
              split
              · simp
              · rename_i hq
                rw [if_neg hq] at hr
                omega
            rw [e] at ht
            exact (h.legal ht).1
          · cases ht
        · cases ht
def markN (n : Int) : List Nat → List Int → List Nat → Option (List Int × List Nat)
  | [], D, P => some (D, P)
  | t :: ts, D, P => if 0 ≤ D.getD t (-1) ∧ D.getD t (-1) ≠ n then none else if D.getD t (-1) < 0 then markN n ts (D.set t n) (t :: P) else markN n ts D P
def minN : List Nat → Nat
  | [] => 0
  | [x] => x
  | x :: y :: l => min x (minN (y :: l))
def neg (D : List Int) : Nat := (D.filter (· < 0)).length
def depFault (o : Nat) (d : Int) : Nat :=
  if d < takesOf o then 140 else if 64 < d - takesOf o + givesOf o then 141 else if kindOf o = 7 ∧ d ≠ 1 then 143 else 0
def walkN (code : List (Nat × Nat)) (js : List Nat) : Nat → List Int → List Nat → Int → List Int × Int × Nat × Nat
  | 0, D, _, m => (D, m, 0, 0)
  | f + 1, D, P, m =>
    if P = [] then (D, m, 0, 0) else
    if depFault (opAt code (minN P)) (D.getD (minN P) (-1)) ≠ 0 then (D, 0, minN P, depFault (opAt code (minN P)) (D.getD (minN P) (-1))) else
    match markN (D.getD (minN P) (-1) - takesOf (opAt code (minN P)) + givesOf (opAt code (minN P))) (nextN code js (minN P)) D (P.erase (minN P)) with
    | none => (D, 0, minN P, 142)
    | some (D', P') => walkN code js f D' P' (max (max m (D.getD (minN P) (-1))) (D.getD (minN P) (-1) - takesOf (opAt code (minN P)) + givesOf (opAt code (minN P))))
theorem minN_mem : ∀ {l : List Nat}, l ≠ [] → minN l ∈ l
  | [], h => absurd rfl h
  | [x], _ => by simp [minN]
  | x :: y :: l, _ => by
    have := minN_mem (l := y :: l) (by simp)
    unfold minN
    rcases Nat.le_total x (minN (y :: l)) with h | h
    · rw [Nat.min_eq_left h]; simp
    · rw [Nat.min_eq_right h]; exact List.mem_cons_of_mem _ this
theorem minN_le : ∀ {l : List Nat} {x : Nat}, x ∈ l → minN l ≤ x
  | [], _, h => by cases h
  | [y], x, h => by simp at h; simp [minN, h]
  | y :: z :: l, x, h => by
    unfold minN
    rcases List.mem_cons.1 h with rfl | h
    · exact Nat.min_le_left _ _
    · exact Nat.le_trans (Nat.min_le_right _ _) (minN_le h)
theorem minN_unique {l : List Nat} {x : Nat} (hx : x ∈ l) (h : ∀ y ∈ l, x ≤ y) : minN l = x := by
  have h1 := minN_le hx
  have h2 := h _ (minN_mem (List.ne_nil_of_mem hx))
  omega
theorem minN_perm {l l' : List Nat} (h : l.Perm l') : minN l = minN l' := by
  by_cases hl : l' = []
  · subst hl; rw [h.eq_nil]
  · exact minN_unique (h.mem_iff.2 (minN_mem hl)) (fun y hy => minN_le (h.mem_iff.1 hy))
theorem markN_perm (n : Int) (ts : List Nat) : ∀ (D : List Int) {P P' : List Nat}, P.Perm P' → (markN n ts D P = none ∧ markN n ts D P' = none) ∨ ∃ D' Q Q', markN n ts D P = some (D', Q) ∧ markN n ts D P' = some (D', Q') ∧ Q.Perm Q' := by
  induction ts with
  | nil => intro D P P' h; exact .inr ⟨D, P, P', rfl, rfl, h⟩
  | cons t ts ih =>
    intro D P P' h
    unfold markN
    by_cases h1 : 0 ≤ D.getD t (-1) ∧ D.getD t (-1) ≠ n
    · rw [if_pos h1, if_pos h1]; exact .inl ⟨rfl, rfl⟩
    · rw [if_neg h1, if_neg h1]
      by_cases h2 : D.getD t (-1) < 0
      · rw [if_pos h2, if_pos h2]; exact ih _ (h.cons t)
      · rw [if_neg h2, if_neg h2]; exact ih _ h
theorem walkN_perm (code : List (Nat × Nat)) (js : List Nat) (f : Nat) : ∀ (D : List Int) {P P' : List Nat} (m : Int), P.Perm P' → walkN code js f D P m = walkN code js f D P' m := by
  induction f with
  | zero => intro D P P' m h; rfl
  | succ f ih =>
    intro D P P' m h
    unfold walkN
    have hm := minN_perm h
    by_cases hp : P = []
    · subst hp
      rw [h.symm.eq_nil]
    · have hp' : P' ≠ [] := fun e => hp (by rw [e] at h; exact h.eq_nil)
      rw [if_neg hp, if_neg hp', hm]
      by_cases hf : depFault (opAt code (minN P')) (D.getD (minN P') (-1)) ≠ 0
      · rw [if_pos hf, if_pos hf]
      · rw [if_neg hf, if_neg hf]
        rcases markN_perm (D.getD (minN P') (-1) - takesOf (opAt code (minN P')) + givesOf (opAt code (minN P'))) (nextN code js (minN P')) D (h.erase (minN P')) with ⟨h1, h2⟩ | ⟨D', Q, Q', h1, h2, h3⟩
        · rw [h1, h2]
        · rw [h1, h2]; exact ih _ _ h3
def encZ (D : List Int) : List Value := D.map fun x => .int .i64 x
theorem encZ_length (D : List Int) : (encZ D).length = D.length := by simp [encZ]
theorem encZ_set (D : List Int) (t : Nat) (x : Int) : (encZ D).set t (.int .i64 x) = encZ (D.set t x) := by simp [encZ, List.map_set]
theorem own_int {W : World} {B g c : Nat} {D : List Int} {n : Nat} (h : W.ownsRow B 3 1 (.slice (some ⟨g, 0, none⟩) n c) n (encZ D)) {t : Nat} (ht : t < n) : W.cell? ⟨g, t, none⟩ = some (.int .i64 (D.getD t (-1))) := by
  have hl : n = D.length := by have := h.1; rw [encZ_length] at this; omega
  rw [h.cellAt t (by omega)]
  subst hl
  simp [encZ, List.getElem?_map, List.getElem?_eq_getElem ht, List.getD]
theorem own_ilen {W : World} {B : Nat} {v : Value} {D : List Int} {n : Nat} (h : W.ownsRow B 3 1 v n (encZ D)) : D.length = n := by
  have := h.1; rw [encZ_length] at this; omega
def negV : Value → Bool
  | .int .i64 x => decide (x < 0)
  | _ => false
theorem negV_enc (D : List Int) : ((encZ D).filter negV).length = neg D := by
  unfold neg encZ
  induction D with
  | nil => rfl
  | cons x D ih =>
    simp only [List.map_cons, List.filter_cons, negV]
    by_cases h : x < 0
    · simp [h, ih]
    · simp [h, ih]
def musl (W : World) (p g n : Nat) : Nat :=
  (match W.cell? ⟨p, 0, none⟩ with | some (.slice _ k _) => k | _ => 0) + (match W.heap[g]? with | some (.cells cs _ _) => ((cs.toList.take n).filter negV).length | _ => 0)
theorem musl_at {W : World} {B B' p g c n : Nat} {v : Value} {l : List Nat} {D : List Int} (h : HpAt W B p v l) (hD : W.ownsRow B' 3 1 (.slice (some ⟨g, 0, none⟩) n c) n (encZ D)) : musl W p g n = l.length + neg D := by
  unfold musl
  obtain ⟨a, c', hv, -⟩ := own_sl h.o
  rw [h.c, hv]
  rcases hD.2 with ⟨hv', _⟩ | ⟨g', c'', cur, hv', -, hg, -, -, -, ht⟩
  · cases hv'
  · cases hv'
    rw [hg]
    rw [Nat.mul_one] at ht
    simp only [ht, negV_enc]
theorem HpAt.below {W W' : World} {B p : Nat} {v : Value} {l : List Nat} (h : HpAt W B p v l) (hb : Below W.heap.size W W') : HpAt W' B p v l := by
  have hl := World.block_lt_of_cell? _ _ h.c
  exact ⟨(hb.cell (p := ⟨p, 0, none⟩) hl).trans h.c, (hb.frozen (p := ⟨p, 0, none⟩) hl).trans h.f, own_below h.o hb, h.ne, h.hp⟩
theorem HpAt.setOther {W : World} {B p : Nat} {v : Value} {l : List Nat} (h : HpAt W B p v l) (g t : Nat) (hg : g < B) (u : Value) : HpAt (W.setCell ⟨g, t, none⟩ u) B p v l := by
  have hp := h.hp
  have hne : ¬ (⟨g, t, none⟩ : Addr).block = p := fun e => by simp at e; omega
  refine ⟨?_, by rw [World.frozen?_setCell]; exact h.f, ownsRow_setCell_other h.o (a := ⟨g, t, none⟩) (fun e => ?_) _, h.ne, h.hp⟩
  · have : (W.setCell ⟨g, t, none⟩ u).heap[p]? = W.heap[p]? := Below.heap_setCell _ _ _ _ (fun e => hne e.symm)
    exact (World.cell?_of_block (a := ⟨p, 0, none⟩) this).trans h.c
  · have := h.o.lt _ e
    simp at this; omega
theorem HpTo.own {W W' : World} {p B B' e sz g n c : Nat} {v v' : Value} {l : List Nat} {xs : List Value} (ht : HpTo W W' p v v') (h : HpAt W B p v l) (hD : W.ownsRow B' e sz (.slice (some ⟨g, 0, none⟩) n c) n xs) (hg : g < B) : W'.ownsRow B' e sz (.slice (some ⟨g, 0, none⟩) n c) n xs := by
  refine ⟨hD.1, ?_⟩
  rcases hD.2 with hn | ⟨g', cap, cur, hv, hb, hgg, rest⟩
  · exact .inl hn
  · refine .inr ⟨g', cap, cur, hv, hb, ?_, rest⟩
    cases hv
    have hlt : g < W.heap.size := (hD.lt g rfl).2
    rw [ht.block g hlt (by have := h.hp; omega) (fun e => by have := h.o.lt _ e; omega)]
    exact hgg
theorem HpTo.cell {W W' : World} {p B q : Nat} {v v' : Value} {l : List Nat} (ht : HpTo W W' p v v') (hq : q < W.heap.size) (hp : q ≠ p) (hv : v.ownBlock ≠ some q) (t : Nat) : W'.cell? ⟨q, t, none⟩ = W.cell? ⟨q, t, none⟩ :=
  World.cell?_of_block (a := ⟨q, t, none⟩) (ht.block q hq hp hv)
def Deps (D : List Int) : Prop := ∀ t, -1 ≤ D.getD t (-1) ∧ D.getD t (-1) ≤ 64
theorem getD_setZ (D : List Int) (t k : Nat) (x : Int) : (D.set t x).getD k (-1) = if k = t ∧ t < D.length then x else D.getD k (-1) := by
  rw [List.getD_eq_getElem?_getD, List.getD_eq_getElem?_getD, List.getElem?_set]
  by_cases h : t = k
  · subst h
    by_cases hl : t < D.length
    · simp [hl]
    · simp [hl]
  · rw [if_neg h, if_neg (fun e => h e.1.symm)]
theorem Deps.set {D : List Int} (h : Deps D) (t : Nat) {x : Int} (h0 : -1 ≤ x) (h1 : x ≤ 64) : Deps (D.set t x) := by
  intro k
  rw [getD_setZ]
  split
  · exact ⟨h0, h1⟩
  · exact h k
theorem neg_set {D : List Int} {t : Nat} {x : Int} (ht : t < D.length) (h : D.getD t (-1) < 0) (hx : 0 ≤ x) : neg (D.set t x) + 1 = neg D := by
  induction D generalizing t with
  | nil => simp at ht
  | cons y D ih =>
    cases t with
    | zero =>
      have hy : y < 0 := by simpa [List.getD] using h
      have hx' : ¬ x < 0 := by omega
      simp [neg, hy, hx']
    | succ t =>
      have := ih (t := t) (by simpa using ht) (by simpa [List.getD] using h)
      unfold neg at this ⊢
      simp only [List.set_cons_succ, List.filter_cons]
      split <;> first | (simp only [List.length_cons]; omega) | omega
theorem neg_le (D : List Int) : neg D ≤ D.length := List.length_filter_le _ _
theorem takes_le (o : Nat) : takesOf o ≤ 64 ∧ givesOf o ≤ 64 := by
  by_cases h : o < 60
  · have : ∀ o < 60, takesOf o ≤ 64 ∧ givesOf o ≤ 64 := by decide +kernel
    exact this o h
  · have : rowOf o = ([], 0, 0, 0, 0, 0) := by
      unfold rowOf; rw [List.getD_eq_getElem?_getD, List.getElem?_eq_none (by show 60 ≤ o; omega)]; rfl
    unfold takesOf givesOf; rw [this]; decide
theorem grown_belowB {w w' : World} {B g : Nat} (hg : w.grownBy w' (some g)) (hB : B ≤ w.heap.size) (hgB : B ≤ g) : Below B w w' :=
  ⟨hg.os, hg.tape, hg.output, hg.size, fun k hk => hg.block k (by omega) (fun e => by cases e; omega)⟩
theorem cell_al {W : World} {a : Addr} {v : Value} (h : W.cell? a = some v) (o : Obj) : (W.alloc o).cell? a = some v := by
  have hl := World.block_lt_of_cell? _ _ h
  exact (World.cell?_of_block (Below.heap_alloc _ _ _ hl)).trans h
def mx3 (x y z : Int) : Int := max (max x y) z
theorem run_mx3 (P : Program) (ts : Array TypeId) (t : TypeId) (x y z : Int) (w : World) : (Builtin.max_ ts t #[.int .i64 x, .int .i64 y, .int .i64 z]).run P w = .ok (.int .i64 (mx3 x y z)) w := by
  have h2 := fun (a b : Int) => run_max_int2 (P := P) w ts t .i64 .i64 a b
  have e : (Builtin.max_ ts t #[.int .i64 x, .int .i64 y, .int .i64 z]) = (do let u ← Builtin.max_ ts t #[.int .i64 x, .int .i64 y]; Builtin.max_ ts t #[u, .int .i64 z]) := by
    simp [Builtin.max_]
  rw [e, Sem.run_bind, h2]
  simp only [Result.andThen_ok, h2]
  congr 2
  unfold mx3
  split <;> split <;> omega
attribute [local go_sem ↓ high] run_mx3
theorem cells421 {W : World} {q : Nat} {a b c d e f : Value} {t : TypeId} (h : W.heap[q]? = some (.cells #[a, b, c, d, e, f] t (0, 0))) : W.cell? ⟨q, 0, none⟩ = some a ∧ W.cell? ⟨q, 1, none⟩ = some b ∧ W.cell? ⟨q, 2, none⟩ = some c ∧ W.cell? ⟨q, 3, none⟩ = some d ∧ W.cell? ⟨q, 4, none⟩ = some e ∧ W.cell? ⟨q, 5, none⟩ = some f ∧ ∀ k, W.frozen? ⟨q, k, none⟩ = false := by
  refine ⟨by simp [World.cell?, h], by simp [World.cell?, h], by simp [World.cell?, h], by simp [World.cell?, h], by simp [World.cell?, h], by simp [World.cell?, h], fun k => by simp [World.frozen?, h]⟩
theorem row_of_alloc {w1 w5 : World} {o : Obj} (h : Below (w1.alloc o).drew.heap.size (w1.alloc o).drew w5) : w5.heap[w1.heap.size]? = some o :=
  (h.block w1.heap.size (by simp)).trans (heap_alloc_new w1 o)
theorem six {W : World} {q : Nat} {a b c d e f a' b' c' d' e' f' : Value} (h3 : W.cell? ⟨q, 3, none⟩ = some d) (h4 : W.cell? ⟨q, 4, none⟩ = some e) (h5 : W.cell? ⟨q, 5, none⟩ = some f) :
    let W6 := (((((W.setCell ⟨q, 0, none⟩ a').setCell ⟨q, 1, none⟩ b').setCell ⟨q, 2, none⟩ c').setCell ⟨q, 3, none⟩ d').setCell ⟨q, 4, none⟩ e').setCell ⟨q, 5, none⟩ f'
    W6.cell? ⟨q, 3, none⟩ = some d' ∧ W6.cell? ⟨q, 4, none⟩ = some e' ∧ W6.cell? ⟨q, 5, none⟩ = some f' := by
  refine ⟨by simp [go_sem, h3], by simp [go_sem, h4], by simp [go_sem, h5]⟩
theorem sixN (W : World) (a b c d e f : Value) (t : TypeId) : (W.alloc (.cells #[a, b, c, d, e, f] t)).cell? ⟨W.heap.size, 3, none⟩ = some d ∧ (W.alloc (.cells #[a, b, c, d, e, f] t)).cell? ⟨W.heap.size, 4, none⟩ = some e ∧ (W.alloc (.cells #[a, b, c, d, e, f] t)).cell? ⟨W.heap.size, 5, none⟩ = some f :=
  ⟨by simp [go_sem], by simp [go_sem], by simp [go_sem]⟩
theorem HpTo.grown {w wr w1 : World} {p g : Nat} {v v' : Value} {l : List Nat} (hg : w.grownBy wr (some g)) (hh : HpAt wr w.heap.size p v l) (ht : HpTo wr w1 p v v') : w.grownBy w1 (some g) :=
  ⟨ht.os.trans hg.os, ht.tape.trans hg.tape, ht.output.trans hg.output, Nat.le_trans hg.size ht.size, fun k hk hne => (ht.block k (Nat.lt_of_lt_of_le hk hg.size) (by have := hh.hp; omega) (fun e => by have := (hh.o.lt k e).1; omega)).trans (hg.block k hk hne)⟩
theorem next_len {code : List (Nat × Nat)} {js : List Nat} (h : FindOk code js []) (i : Nat) : (nextN code js i).length ≤ 16384 := by
  unfold nextN
  split
  · simp
  · split
    · split <;> simp
    · split
      · simp
      · split
        · unfold tgtsAt
          split
          · exact h.rows _
          · simp
        · simp
theorem bs567n (x : Int) (w : World) : (Instr.buildSlice 217 1 #[(0, .int .i64 x)]).run Tryz.prog w = .ok (.slice (some ⟨w.heap.size, 0, none⟩) 1 1) (w.alloc (.cells #[.int .i64 x] 3)) := bs567 x w
set_option maxRecDepth 100000 in
set_option maxHeartbeats 4000000 in
theorem walk_any {w0 w : World} {B gg bb : Nat} {uc uj : Value} {code : List (Nat × Nat)} {js : List Nat} (hG : GraphAt w0 B gg bb uc uj code js) (hb : Below w0.heap.size w0 w) (hok : FindOk code js [])
    (hlt : ∀ k, (code.getD k (0, 0)).1 < 256 ∧ (code.getD k (0, 0)).2 < 4294967296) {g c : Nat} {D : List Int} (hD : w.ownsRow w0.heap.size 3 1 (.slice (some ⟨g, 0, none⟩) code.length c) code.length (encZ D)) (hDb : Deps D) (a : Nat) (ha : a < code.length) :
    Calls Tryz.prog 113 #[.pointer (some ⟨gg, 0, none⟩), .int .i64 a, .slice (some ⟨g, 0, none⟩) code.length c] w fun e w' =>
      ∃ D', e = .returned (.tuple #[.int .i64 (walkN code js (code.length + 1) (D.set a 0) [a] 0).2.1, .int .i64 (walkN code js (code.length + 1) (D.set a 0) [a] 0).2.2.1, .int .i64 (walkN code js (code.length + 1) (D.set a 0) [a] 0).2.2.2]) ∧
      w'.ownsRow w0.heap.size 3 1 (.slice (some ⟨g, 0, none⟩) code.length c) code.length (encZ D') ∧ Deps D' ∧ w.grownBy w' (some g) ∧ ((walkN code js (code.length + 1) (D.set a 0) [a] 0).2.2.2 = 0 → D' = (walkN code js (code.length + 1) (D.set a 0) [a] 0).1) := by
  obtain ⟨R, hR⟩ : ∃ R, R = walkN code js (code.length + 1) (D.set a 0) [a] 0 := ⟨_, rfl⟩
  rw [← hR]
  have hDl := own_ilen hD
  have hcl := encRes_short hok.he
  have hgl : g < w.heap.size := (hD.lt g rfl).2
  have hgb : w0.heap.size ≤ g := (hD.lt g rfl).1
  have HR := Lib.hid hR
  have H := Lib.hid hD
  have hai : (a : Int) < (code.length : Int) := by omega
  have ha0 : (0 : Int) ≤ (a : Int) := by omega
  have hbs := bs567n
  have hne : w.heap.size ≠ g := by omega
  have hne2 : w.heap.size + 1 ≠ g := by omega
  have hc1 : ∃ u, w.cell? ⟨g, a, none⟩ = some u := ⟨_, own_int hD ha⟩
  obtain ⟨u0, hu0⟩ := hc1
  have hf0 := hD.frozenAt a
  clear hD hR
  go_enter Tryz.func113, Tryz.ntmps113
  go_wp2_with fail
  refine wp_scope_straight ?_
  go_wp2_with fail
  refine wp_label ?_
  have f1 := (H.out.stored a (.int .i64 0))
  rw [encZ_set] at f1
  have F1 := Lib.hid (own_below (own_below f1.1 (Bel.new _ (.cells #[.int .i64 a] 3))) (Bel.new _ (.cells #[.slice (some ⟨w.heap.size, 0, none⟩) 1 1] 217)))
  have F2 : HpAt (((w.setCell ⟨g, a, none⟩ (.int .i64 0)).alloc (.cells #[.int .i64 a] 3)).alloc (.cells #[.slice (some ⟨w.heap.size, 0, none⟩) 1 1] 217)) w.heap.size (w.heap.size + 1) (.slice (some ⟨w.heap.size, 0, none⟩) 1 1) [a] := by
    refine ⟨by simp [go_sem], by simp [go_sem], ⟨rfl, .inr ⟨w.heap.size, 1, #[.int .i64 a], rfl, Nat.le_refl _, ?_, Nat.le_refl _, by decide, rfl, rfl⟩⟩, ?_, by omega⟩
    · rw [Below.heap_alloc _ _ _ (by simp)]
      have := heap_alloc_new (w.setCell ⟨g, a, none⟩ (.int .i64 0)) (.cells #[.int .i64 a] 3)
      simpa using this
    · intro e; simp only [Value.ownBlock, Option.some.injEq] at e; omega
  have F3 := Lib.hid (grownBy_trans (grownBy_trans f1.2 (World.grownBy_alloc _ (.cells #[.int .i64 a] 3) none) (fun k e => by cases e)) (World.grownBy_alloc _ (.cells #[.slice (some ⟨w.heap.size, 0, none⟩) 1 1] 217) none) (fun k e => by cases e))
  have HF2 := Lib.hid F2
  clear F2 f1 H
  generalize (((w.setCell ⟨g, a, none⟩ (.int .i64 0)).alloc (.cells #[.int .i64 a] 3)).alloc (.cells #[.slice (some ⟨w.heap.size, 0, none⟩) 1 1] 217)) = W1 at *
  have hD0 : Deps (D.set a 0) := hDb.set a (by decide) (by decide)
  have hn0 : neg (D.set a 0) ≤ code.length := by
    have := neg_le (D.set a 0); rw [List.length_set, hDl] at this; exact this
  have hd0 : 0 ≤ (D.set a 0).getD a (-1) := by rw [getD_setZ, if_pos ⟨rfl, by omega⟩]; decide
  generalize D.set a 0 = D0 at *
  clear hu0 hf0 hDb
  go_wp2_with fail
  go_loopw [10, 12] (fun xm xe wr => ∃ (f : Nat) (m : Int) (Dm : List Int) (l : List Nat) (v : Value), xm = .int .i64 m ∧ xe = .int .i64 0 ∧ wr.ownsRow w0.heap.size 3 1 (.slice (some ⟨g, 0, none⟩) code.length c) code.length (encZ Dm) ∧
    HpAt wr w.heap.size (w.heap.size + 1) v l ∧ w.grownBy wr (some g) ∧ IsHeap l ∧ Deps Dm ∧ (∀ i ∈ l, i < code.length ∧ 0 ≤ Dm.getD i (-1)) ∧ l.length + neg Dm ≤ f ∧ f ≤ code.length + 1 ∧ walkN code js f Dm l m = R) (fun _ _ w' => musl w' (w.heap.size + 1) g code.length)
  case atStart => exact ⟨code.length + 1, 0, D0, [a], _, rfl, rfl, F1.out, HF2.out, F3.out, fun k hk0 hk => by simp at hk; omega, hD0, fun i hi => by rw [List.mem_singleton.1 hi]; exact ⟨ha, hd0⟩, by simp; omega, Nat.le_refl _, HR.out.symm⟩
  case round =>
    obtain ⟨f, m, Dm, l, v, rfl, rfl, hown, hhp, hgr, hheap, hdep, hin, hf1, hf2, hw⟩ := hrel
    obtain ⟨hva, hvc, hv, -⟩ := own_sl hhp.o
    subst hv
    have hpc := hhp.c
    have HOWN := Lib.hid hown
    have HHP := Lib.hid hhp
    have HGR := Lib.hid hgr
    have HW := Lib.hid hw
    by_cases hl0 : l.length = 0
    · have hle : l = [] := List.eq_nil_of_length_eq_zero hl0
      subst hle
      have hRm : R = (Dm, m, 0, 0) := by
        rw [← HW.out]; cases f <;> simp [walkN]
      have HRM := Lib.hid hRm
      clear hown hhp hgr hw hRm HR hn0 hd0 hD0
      go_wp2_with (go_at_call 131; refine (len_any _ _ _ _).mono ?_; rintro e w' ⟨rfl, rfl⟩)
      try simp only [Exit.noGoto]
      go_ret3
      rw [HRM.out]
      exact ⟨Dm, rfl, HOWN.out, hdep, HGR.out, fun _ => rfl⟩
    · obtain ⟨f, rfl⟩ : ∃ f', f = f' + 1 := ⟨f - 1, by omega⟩
      have hlen : l.length ≤ 16385 := by omega
      have hl1 : 0 < l.length := by omega
      have hmin : minN l = l.getD 0 0 := by
        refine minN_unique (l := l) ?_ (fun y hy => popL_least hheap hy)
        have e : l.getD 0 0 = l[0] := by rw [List.getD_eq_getElem?_getD, List.getElem?_eq_getElem hl1]; rfl
        rw [e]; exact List.getElem_mem _
      have hpop := popL_perm hl1
      have hph := popL_heap hheap hl1
      have hne0 : l ≠ [] := fun e => hl0 (by rw [e]; rfl)
      have hmem := minN_mem hne0
      obtain ⟨x, hx⟩ : ∃ x, x = l.getD 0 0 := ⟨_, rfl⟩
      have hPop := pop_h hhp hl1 (by omega)
      rw [← hx] at hPop hmin hpop
      rw [hmin] at hmem
      have hxi := hin x hmem
      have hperm : (l.erase x).Perm (popL l) := by
        have := (hpop.symm.erase x); rwa [List.erase_cons_head] at this
      have hpin : ∀ i ∈ popL l, i ∈ l := fun i hi => hpop.mem_iff.1 (List.mem_cons_of_mem _ hi)
      have hwx := hw
      unfold walkN at hwx
      rw [if_neg hne0, hmin] at hwx
      have hpl : (popL l).length = l.length - 1 := popL_length l
      obtain ⟨d, hd⟩ : ∃ d, d = Dm.getD x (-1) := ⟨_, rfl⟩
      have hdx := hdep x
      rw [← hd] at hdx hxi hwx
      have HPOP := Lib.hid hPop
      have HWX := Lib.hid hwx
      have HPERM := Lib.hid hperm
      have HD := Lib.hid hd
      have hgt : (0 : Int) < (l.length : Int) := by omega
      have hmi := fun W => (rfl : (Instr.makeInterface 216 (.pointer (some ⟨w.heap.size + 1, 0, none⟩))).run Tryz.prog W = (Instr.makeInterface 216 (.pointer (some ⟨w.heap.size + 1, 0, none⟩))).run Tryz.prog W)
      have hta := ta3
      clear hown hhp hgr hw HR hn0 hd0 hD0 hPop hwx hperm hpop hmin hmem hheap HW hd hx hmi
      go_wp2_with (go_at_call 131; refine (len_any _ _ _ _).mono ?_; rintro e w' ⟨rfl, rfl⟩)
      refine HPOP.out.mono ?_
      rintro e w1 ⟨rfl, v1, hh1, ht1⟩
      have hbw : Below w0.heap.size w0 wr := hb.trans (grown_belowB HGR.out hb.size hgb)
      have hb1 : Below w0.heap.size w0 w1 := hbw.trans (ht1.below hbw.size (by have := hb.size; omega) (fun q e => by have := HHP.out.o.lt q e; have := hb.size; omega))
      have ho1 := ht1.own HHP.out HOWN.out hgl
      have hg1 : w.grownBy w1 (some g) := HpTo.grown HGR.out HHP.out ht1
      have HG1 := Lib.hid (hG.below hb1)
      have HH1 := Lib.hid hh1
      have HT1 := Lib.hid ht1
      have HO1 := Lib.hid ho1
      have HB1 := Lib.hid hb1
      have HGR1 := Lib.hid hg1
      clear hh1 ht1 ho1 hb1 hg1 hbw
      have hcx : w1.cell? ⟨g, x, none⟩ = some (.int .i64 d) := by rw [HD.out]; exact own_int HO1.out hxi.1
      have HS0 := Lib.hid (show w1.drew.cell? ⟨g, x, none⟩ = some (.int .i64 d) ∧ Below w1.heap.size w1 w1.drew from ⟨hcx, (Below.refl _ _).drew⟩)
      have HINF := Lib.hid (fun (W : World) (hS : W.cell? ⟨g, x, none⟩ = some (.int .i64 d) ∧ Below w1.heap.size w1 W) => (show Calls Tryz.prog 133 #[.pointer (some ⟨gg, 0, none⟩), .int .i64 x] W fun e w' => e = .returned (rowVal (opAt code x)) ∧ (w'.cell? ⟨g, x, none⟩ = some (.int .i64 d) ∧ Below w1.heap.size w1 w') ∧ Below W.heap.size W w' from
        (ginfo_any (HG1.out.below hS.2) x hxi.1 (hlt x).1).mono fun e w' h => ⟨h.1, ⟨(h.2.cell (p := ⟨g, x, none⟩) (World.block_lt_of_cell? _ _ hS.1)).trans hS.1, Bel.tr hS.2 h.2⟩, h.2⟩))
      have HK := Lib.hid (fun (W : World) (o : Obj) (hS : W.cell? ⟨g, x, none⟩ = some (.int .i64 d) ∧ Below w1.heap.size w1 W) => (show (W.alloc o).cell? ⟨g, x, none⟩ = some (.int .i64 d) ∧ Below w1.heap.size w1 (W.alloc o) from ⟨cell_al hS.1 o, Bel.al hS.2 o⟩))
      have HKa := Lib.hid (fun (o : Obj) => (show (w1.alloc o).drew.cell? ⟨g, x, none⟩ = some (.int .i64 d) ∧ Below w1.heap.size w1 (w1.alloc o).drew from ⟨cell_al hcx o, (Bel.new w1 o).drew⟩))
      have hxl : g < w1.heap.size := by have := HGR1.out.size; omega
      have HK2 := Lib.hid (fun (W : World) (k : Nat) (u : Value) (hS : W.cell? ⟨g, x, none⟩ = some (.int .i64 d) ∧ Below w1.heap.size w1 W) => (show (W.setCell ⟨w1.heap.size, k, none⟩ u).cell? ⟨g, x, none⟩ = some (.int .i64 d) ∧ Below w1.heap.size w1 (W.setCell ⟨w1.heap.size, k, none⟩ u) from
        ⟨(World.cell?_setCell_other _ _ _ _ (by first | (simp; done) | (simp; omega))).trans hS.1, hS.2.trans ⟨rfl, rfl, rfl, by rw [World.size_setCell]; exact Nat.le_refl _, fun j hj => Below.heap_setCell _ _ _ _ (by simp; omega)⟩⟩))
      unfold rowVal rowCells at HINF
      have htg := takes_le (opAt code x)
      unfold depFault at HWX
      generalize kindOf (opAt code x) = K at *
      generalize opAt code x = o at *
      generalize wordOf o = wd at *
      generalize widthOf o = wi at *
      generalize mostOf o = mo at *
      generalize takesOf o = ta at *
      generalize givesOf o = gi at *
      have hxn : (x : Int) < (code.length : Int) := by omega
      have hx0 : (0 : Int) ≤ (x : Int) := by omega
      clear hcx
      have hz := zero26
      unfold zeroRow at hz
      go_wp2_with fail
      go_region_held3 (fun w' => w'.cell? ⟨g, x, none⟩ = some (.int .i64 d) ∧ Below w1.heap.size w1 w')
        (first | (with_reducible assumption) | (with_reducible exact HS0.out) | (with_reducible exact HKa.out _) | (with_reducible exact HK.out _ _ (by assumption)) | (with_reducible exact HK2.out _ 5 _ (HK2.out _ 4 _ (HK2.out _ 3 _ (HK2.out _ 2 _ (HK2.out _ 1 _ (HK2.out _ 0 _ (by assumption))))))))
        (first | (go_at_call 133; refine (HINF.out _ ?_).mono ?_; assumption; rintro e w5 ⟨rfl, hS5, hb5⟩; with_reducible have hrow := row_of_alloc hb5; have hcs := cells421 hrow; clear hrow; obtain ⟨hq0, hq1, hq2, hq3, hq4, hq5, hfr⟩ := hcs; have hf0 := hfr 0; have hf1 := hfr 1; have hf2 := hfr 2; have hf3 := hfr 3; have hf4 := hfr 4; have hf5 := hfr 5; clear hfr hb5) | (go_at_call 133; refine (HINF.out _ ?_).mono ?_; assumption; rintro e w5 ⟨rfl, hS5, hb5⟩; clear hb5) | fail)
      all_goals
        first
        | (have h6 := six (a := .int .i64 0) (b := .int .i64 0) (c := .int .i64 0) (a' := .string ⟨wd.toArray⟩) (b' := .int .i64 wi) (c' := .int .u32 mo) (d' := .int .i64 ta) (e' := .int .i64 gi) (f' := .int .u8 K) hq3 hq4 hq5
           have hb6 := (HK2.out _ 5 (.int .u8 K) (HK2.out _ 4 (.int .i64 gi) (HK2.out _ 3 (.int .i64 ta) (HK2.out _ 2 (.int .u32 mo) (HK2.out _ 1 (.int .i64 wi) (HK2.out _ 0 (.string ⟨wd.toArray⟩) hS5)))))).2
           clear hq0 hq1 hq2 hq3 hq4 hq5 hf0 hf1 hf2 hf3 hf4 hf5
           generalize ((((((w5.setCell { block := w1.heap.size, off := 0 } (Value.string { data := wd.toArray })).setCell { block := w1.heap.size, off := 1 } (Value.int IntKind.i64 ↑wi)).setCell { block := w1.heap.size, off := 2 } (Value.int IntKind.u32 ↑mo)).setCell { block := w1.heap.size, off := 3 } (Value.int IntKind.i64 ↑ta)).setCell { block := w1.heap.size, off := 4 } (Value.int IntKind.i64 ↑gi)).setCell { block := w1.heap.size, off := 5 } (Value.int IntKind.u8 ↑K)) = W6 at *
           obtain ⟨q, hq⟩ : ∃ q, q = w1.heap.size := ⟨_, rfl⟩
           have hqge : w1.heap.size ≤ q := by omega
           rw [← hq] at h6 ⊢
           have HQ := Lib.hid hq
           clear hq)
        | (have h6 := sixN w5 (.string ⟨wd.toArray⟩) (.int .i64 wi) (.int .u32 mo) (.int .i64 ta) (.int .i64 gi) (.int .u8 K) 189
           have hb6 := (HK.out _ (.cells #[.string ⟨wd.toArray⟩, .int .i64 wi, .int .u32 mo, .int .i64 ta, .int .i64 gi, .int .u8 K] 189) hS5).2
           generalize (w5.alloc (Obj.cells #[Value.string { data := wd.toArray }, Value.int IntKind.i64 ↑wi, Value.int IntKind.u32 ↑mo, Value.int IntKind.i64 ↑ta, Value.int IntKind.i64 ↑gi, Value.int IntKind.u8 ↑K] 189)) = W6 at *
           obtain ⟨q, hq⟩ : ∃ q, q = w5.heap.size := ⟨_, rfl⟩
           have hqge : w1.heap.size ≤ q := by have := hS5.2.size; omega
           rw [← hq] at h6 ⊢
           have HQ := Lib.hid hq
           clear hq)
        obtain ⟨hc3, hc4, hc5⟩ := h6
        have HB6 := Lib.hid hb6
        clear hS5 hb6
        have HO6 := Lib.hid (own_below HO1.out HB6.out)
        have HGR6 := Lib.hid (HGR1.out.trans (below_grownBy HB6.out (some g)))
        have HH6 := Lib.hid (HH1.out.below HB6.out)
        have HG6 := Lib.hid (HG1.out.below HB6.out)
        by_cases c1 : d < (ta : Int)
        · have hRe : R = (Dm, 0, x, 140) := by rw [← HWX.out, if_pos c1]; rfl
          have HRE := Lib.hid hRe
          clear hRe
          go_wp2_with fail
          try simp only [Exit.noGoto]
          go_ret3
          rw [HRE.out]
          exact ⟨Dm, rfl, HO6.out, hdep, HGR6.out, fun h => absurd h (by simp)⟩
        · by_cases c2 : (64 : Int) < d - ta + gi
          · have hRe : R = (Dm, 0, x, 141) := by rw [← HWX.out, if_neg c1, if_pos c2]; rfl
            have HRE := Lib.hid hRe
            clear hRe
            go_wp2_with fail
            try simp only [Exit.noGoto]
            go_ret3
            rw [HRE.out]
            exact ⟨Dm, rfl, HO6.out, hdep, HGR6.out, fun h => absurd h (by simp)⟩
          · by_cases c3 : K = 7 ∧ d ≠ 1
            · have hRe : R = (Dm, 0, x, 143) := by rw [← HWX.out, if_neg c1, if_neg c2, if_pos c3]; rfl
              have HRE := Lib.hid hRe
              obtain ⟨rfl, hd1⟩ := c3
              clear hRe
              go_wp2_with fail
              try simp only [Exit.noGoto]
              go_ret3
              rw [HRE.out]
              exact ⟨Dm, rfl, HO6.out, hdep, HGR6.out, fun h => absurd h (by simp)⟩
            · obtain ⟨nn, hnn⟩ : ∃ nn : Int, nn = d - ta + gi := ⟨_, rfl⟩
              obtain ⟨L, hL⟩ : ∃ L, L = nextN code js x := ⟨_, rfl⟩
              have hwl := HWX.out
              rw [if_neg c1, if_neg c2, if_neg c3, if_neg (by decide), ← hnn, ← hL] at hwl
              have HN := Lib.hid (next_any HG6.out hok x hxi.1 hlt)
              rw [← hL] at HN
              have hLt : ∀ t ∈ L, t < code.length := fun t ht => hok.next_lt hxi.1 (by rw [← hL]; exact ht)
              have hLlen : L.length ≤ 16384 := by rw [hL]; exact next_len hok x
              obtain ⟨MM, hMM⟩ : ∃ MM, MM = markN nn L Dm (l.erase x) := ⟨_, rfl⟩
              rw [← hMM] at hwl
              have HMM := Lib.hid hMM
              clear hMM
              have HWL := Lib.hid hwl
              have HL := Lib.hid hL
              have HNN := Lib.hid hnn
              have hnb : 0 ≤ nn ∧ nn ≤ 64 := by omega
              have hc3 : (K ≠ 7 ∧ ((K : Int) == 7) = false ∧ ¬ (K : Int) = 7) ∨ (K = 7 ∧ d = 1) := by
                by_cases h7 : K = 7
                · exact .inr ⟨h7, by omega⟩
                · exact .inl ⟨h7, by simp; omega, by omega⟩
              clear hwl hL c3
              rcases hc3 with ⟨hK, hK2, hK3⟩ | ⟨rfl, rfl⟩
              all_goals
                go_wp2_with fail
                refine HN.out.mono ?_
                rintro e w7 ⟨vL, rfl, hoL, hb7⟩
                obtain ⟨va, vc, rfl, -, -, hvs⟩ := own_sl hoL
                have HOL := Lib.hid hoL
                have HB7 := Lib.hid hb7
                have HO7 := Lib.hid (own_below HO6.out hb7)
                have HGR7 := Lib.hid (HGR6.out.trans (below_grownBy hb7 (some g)))
                have HH7 := Lib.hid (HH6.out.below hb7)
                have HVS := Lib.hid hvs
                clear hoL hb7 hvs hc3 hc4 hc5
                go_wp2_with fail
                go_loopw [12, 71] (fun xe xi w8 => ∃ (k : Nat) (D1 : List Int) (l1 : List Nat) (v1 : Value) (Q : List Nat), xe = .int .i64 0 ∧ xi = .int .i64 k ∧ k ≤ L.length ∧ w8.ownsRow w0.heap.size 3 1 (.slice (some ⟨g, 0, none⟩) code.length c) code.length (encZ D1) ∧
                  HpAt w8 w.heap.size (w.heap.size + 1) v1 l1 ∧ w.grownBy w8 (some g) ∧ IsHeap l1 ∧ Deps D1 ∧ (∀ i ∈ l1, i < code.length ∧ 0 ≤ D1.getD i (-1)) ∧ l1.length + neg D1 + 1 = l.length + neg Dm ∧
                  Q.Perm l1 ∧ markN nn (L.drop k) D1 Q = MM ∧ (∀ lq, va = some ⟨lq, 0, none⟩ → 0 < L.length → lq < w8.heap.size ∧ v1.ownBlock ≠ some lq ∧ ∀ j, j < (encN .u32 L).length → w8.cell? ⟨lq, j, none⟩ = (encN .u32 L)[j]?)) (fun _ xi _ => L.length - (intOf xi).toNat)
                case atStart => exact ⟨0, Dm, popL l, v1, l.erase x, rfl, rfl, Nat.zero_le _, HO7.out, HH7.out, HGR7.out, hph, hdep, fun i hi => hin i (hpin i hi), by omega, HPERM.out, by rw [List.drop_zero]; exact HMM.out.symm, fun lq e hL0 => by
                    obtain ⟨lq', e', h1, h2⟩ := HVS.out hL0
                    rw [e] at e'
                    cases e'
                    have h3 := (HOL.out.lt lq (by rw [e]; rfl)).1
                    exact ⟨h1, fun e2 => by have := HH1.out.o.lt lq e2; have := HB6.out.size; omega, h2⟩⟩
                case round =>
                  obtain ⟨k, D1, l1, v1', Q, rfl, rfl, hk, ho8, hh8, hg8, hp8, hd8, hi8, hm8, hq8, hmk, hlc⟩ := hrel
                  have HO8 := Lib.hid ho8
                  have HH8 := Lib.hid hh8
                  have HG8 := Lib.hid hg8
                  have HLC := Lib.hid hlc
                  have HMK := Lib.hid hmk
                  by_cases hkl : k < L.length
                  · obtain ⟨t, ht⟩ : ∃ t, t = L.getD k 0 := ⟨_, rfl⟩
                    have htm : t ∈ L := by
                      have e : L.getD k 0 = L[k] := by rw [List.getD_eq_getElem?_getD, List.getElem?_eq_getElem hkl]; rfl
                      rw [ht, e]; exact List.getElem_mem _
                    have htc := hLt t htm
                    have hdr : L.drop k = t :: L.drop (k + 1) := by
                      rw [List.drop_eq_getElem_cons hkl, ht, List.getD_eq_getElem?_getD, List.getElem?_eq_getElem hkl]; rfl
                    rw [hdr] at hmk
                    unfold markN at hmk
                    obtain ⟨lq, hva, -⟩ := HVS.out (by omega)
                    subst hva
                    have hlq := HLC.out lq rfl (by omega)
                    have hct : wr.cell? ⟨lq, k, none⟩ = some (.int .u32 t) := by
                      rw [hlq.2.2 k (by rw [encN_length]; exact hkl), ht]; exact encN_at .u32 L k hkl
                    have hcy := own_int ho8 htc
                    have hfy := ho8.frozenAt t
                    obtain ⟨y, hy⟩ : ∃ y, y = D1.getD t (-1) := ⟨_, rfl⟩
                    rw [← hy] at hcy hmk
                    have hyb := hd8 t
                    rw [← hy] at hyb
                    have HY := Lib.hid hy
                    have HT := Lib.hid ht
                    have hkk : (k : Int) < (L.length : Int) := by omega
                    have hk0 : (0 : Int) ≤ (k : Int) := by omega
                    have htt : (t : Int) < (code.length : Int) := by omega
                    have ht0 : (0 : Int) ≤ (t : Int) := by omega
                    have ht32 : (t : Int) ≤ 16384 := by omega
                    clear ho8 hh8 hg8 hlc hy ht
                    by_cases ha1 : 0 ≤ y ∧ y ≠ nn
                    · rw [if_pos ha1] at hmk
                      have hRe : R = (Dm, 0, x, 142) := by rw [← HWL.out, ← hmk]
                      have HRE := Lib.hid hRe
                      have hyn := ha1.2
                      rw [HNN.out] at hyn
                      have hy0 := ha1.1
                      clear hRe hmk
                      go_wp2_with fail
                      try simp only [Exit.noGoto]
                      go_ret3
                      rw [HRE.out]
                      exact ⟨D1, rfl, HO8.out, hd8, HG8.out, fun h => absurd h (by simp)⟩
                    · rw [if_neg ha1] at hmk
                      by_cases hy0 : y < 0
                      · rw [if_pos hy0] at hmk
                        have HMK2 := Lib.hid hmk
                        have hyn : ¬ 0 ≤ y := by omega
                        have hlqo := (HOL.out.lt lq rfl).1
                        have hpw := World.block_lt_of_cell? _ _ HH1.out.c
                        have hw6 := HB6.out.size
                        have HLQ := Lib.hid (show w1.heap.size ≤ lq ∧ w.heap.size + 1 < w1.heap.size from ⟨by omega, hpw⟩)
                        have hs9 := HO8.out.stored t (.int .i64 nn)
                        rw [encZ_set] at hs9
                        have hh9 := HH8.out.setOther g t hgl (.int .i64 nn)
                        have hpu := push_h hh9 t (by omega)
                        have HS9 := Lib.hid hs9
                        have HH9 := Lib.hid hh9
                        have HY0 := Lib.hid hy0
                        rw [HNN.out] at hpu
                        have HPU := Lib.hid hpu
                        clear hmk hs9 hh9 hpu hlqo hpw hw6
                        go_wp2_with fail
                        refine HPU.out.mono ?_
                        rintro e w9 ⟨⟨u, rfl⟩, v2, h9, t9⟩
                        rw [← HNN.out] at t9
                        have H9 := Lib.hid h9
                        have T9 := Lib.hid t9
                        clear h9 t9
                        go_wp2_with fail
                        go_roundw
                        case rel =>
                          have hpl9 := pushL_perm l1 t
                          have hns := neg_set (D := D1) (t := t) (x := nn) (by rw [own_ilen HO8.out]; exact htc) (by rw [← HY.out]; exact HY0.out) hnb.1
                          refine ⟨k + 1, D1.set t nn, pushL l1 t, v2, t :: Q, rfl, by go_num, by omega, T9.out.own HH9.out HS9.out.1 hgl, H9.out, HpTo.grown (HG8.out.trans HS9.out.2) HH9.out T9.out, pushL_heap hp8 t, hd8.set t (by omega) hnb.2, fun i hi => ?_, ?_, (hq8.cons t).trans hpl9.symm, HMK2.out, fun lq' e h0 => ?_⟩
                          · rw [getD_setZ]
                            rcases List.mem_cons.1 (hpl9.mem_iff.1 hi) with rfl | hi
                            · exact ⟨htc, by rw [if_pos ⟨rfl, by rw [own_ilen HO8.out]; exact htc⟩]; exact hnb.1⟩
                            · refine ⟨(hi8 i hi).1, ?_⟩
                              split
                              · exact hnb.1
                              · exact (hi8 i hi).2
                          · have := hpl9.length_eq
                            rw [List.length_cons] at this
                            omega
                          · cases e
                            have hz := HLC.out lq rfl h0
                            have hlz := HLQ.out
                            have hsz := T9.out.size
                            rw [World.size_setCell] at hsz
                            refine ⟨by omega, fun e2 => ?_, fun j hj => ?_⟩
                            · rcases T9.out.fresh lq e2 with h5 | h5
                              · exact hz.2.1 h5
                              · rw [World.size_setCell] at h5; omega
                            · rw [T9.out.cell (l := l1) (B := w.heap.size) (by rw [World.size_setCell]; exact hz.1) (by omega) hz.2.1 j]
                              rw [World.cell?_setCell_other _ _ _ _ (by first | (simp; done) | (simp; omega))]
                              exact hz.2.2 j hj
                        case measure => simp [intOf]; omega
                      · rw [if_neg hy0] at hmk
                        have HMK2 := Lib.hid hmk
                        have hyn : y = nn := by omega
                        rw [HNN.out] at hyn
                        have hy1 : 0 ≤ y := by omega
                        clear hmk
                        go_wp2_with fail
                        go_roundw
                        case rel => exact ⟨k + 1, D1, l1, v1', Q, rfl, by go_num, by omega, HO8.out, HH8.out, HG8.out, hp8, hd8, hi8, hm8, hq8, HMK2.out, HLC.out⟩
                        case measure => simp [intOf]; omega
                  · obtain rfl : k = L.length := by omega
                    clear ho8 hh8 hg8 hlc hmk
                    go_wp2_with fail
                    go_roundw
                    case rel =>
                      refine ⟨f, _, D1, l1, v1', rfl, rfl, HO8.out, HH8.out, HG8.out, hp8, hd8, hi8, by omega, by omega, ?_⟩
                      have h1 := HMK.out
                      rw [List.drop_of_length_le (Nat.le_refl _)] at h1
                      have h2 := HWL.out
                      rw [← h1, HNN.out] at h2
                      rw [← walkN_perm code js f D1 _ hq8]
                      exact h2
                    case measure =>
                      rw [musl_at HH8.out HO8.out, musl_at HHP.out HOWN.out]
                      omega
end Go.Proofs.YtflpbgdghaaiaaaGreat
namespace Go.Proofs.YtflpbgdghaaiaaaGreat
set_option linter.unusedVariables false
def depthsN (code : List (Nat × Nat)) (js : List Nat) : List Nat → List Int → List Int → List Int × List Int × Nat × Nat
  | [], D, ms => (D, ms, 0, 0)
  | a :: qs, D, ms =>
    if (walkN code js (code.length + 1) (D.set a 0) [a] 0).2.2.2 ≠ 0 then
      ([], [], (walkN code js (code.length + 1) (D.set a 0) [a] 0).2.2.1, (walkN code js (code.length + 1) (D.set a 0) [a] 0).2.2.2)
    else depthsN code js qs (walkN code js (code.length + 1) (D.set a 0) [a] 0).1 (ms ++ [(walkN code js (code.length + 1) (D.set a 0) [a] 0).2.1])
def flowN (code : List (Nat × Nat)) (js : List Nat) : List Int × List Int × Nat × Nat :=
  depthsN code js ((psTo code code.length).map (·.1)) (List.replicate code.length (-1)) []
theorem deps_none (n : Nat) : Deps (List.replicate n (-1)) := by
  intro t
  rw [List.getD_eq_getElem?_getD, List.getElem?_replicate]
  split <;> simp
theorem encZ_none (n : Nat) : encZ (List.replicate n (-1)) = List.replicate n (.int .i64 (-1)) := by simp [encZ]
end Go.Proofs.YtflpbgdghaaiaaaGreat
