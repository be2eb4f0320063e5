import Derived.Test.YtofkamnmgpkehabAns
/- ProcsFind: the walk. -/
namespace Go.Proofs.Ytofkamnmgpkehab
open Go.RowKit
set_option linter.unusedVariables false
/-- A call of the script. -/
structure AskN where
  on : Int
  kd : Int
  a : Int
  x : Nat
  y : Nat
deriving Inhabited
def AskN.v (q : AskN) : Value := .agg #[.int .i64 q.on, .int .i64 q.kd, .int .i64 q.a, .int .u32 q.x, .int .u32 q.y]
theorem answers_any {w : World} {b : Nat} {vc vj vn : Value} {code : List (Nat × Nat)} {js ats : List Nat} (h : Ready w b vc vj code js ats) (on kd a : Int) (x y : Nat) (hx : x < 4294967296) (hy : y < 4294967296) :
    Calls Try.prog 7 #[.pointer (some ⟨b, 0, none⟩), .agg #[vc, vj, vn], .agg #[.int .i64 on, .int .i64 kd, .int .i64 a, .int .u32 x, .int .u32 y]] w fun e w' => e = .returned (.bool true) ∧ Below w.heap.size w w' := by
  by_cases h0 : kd = 0
  · subst h0; exact ans0 h on a x y hx hy
  by_cases h1 : kd = 1
  · subst h1; exact ans1 h on a x y hx hy
  by_cases h2 : kd = 2
  · subst h2; exact ans2 h on a x y hx hy
  by_cases h3 : kd = 3
  · subst h3; exact ans3 h on a x y hx hy
  by_cases h4 : kd = 4
  · subst h4; exact ans4 h on a x y hx hy
  by_cases h5 : kd = 5
  · subst h5; exact ans5 h on a x y hx hy
  exact ansE h on kd a x y hx hy ⟨h0, h1, h2, h3, h4, h5⟩
/-- Either nothing was found, or what answers. -/
def Had (w : World) (pv vc vj : Value) (code : List (Nat × Nat)) (js ats : List Nat) : Prop := pv = .pointer none ∨ ∃ b, pv = .pointer (some ⟨b, 0, none⟩) ∧ Ready w b vc vj code js ats
theorem Had.below {w w' : World} {pv vc vj : Value} {code : List (Nat × Nat)} {js ats : List Nat} (h : Had w pv vc vj code js ats) (hb : Below w.heap.size w w') : Had w' pv vc vj code js ats := by
  rcases h with h | ⟨b, h1, h2⟩
  · exact .inl h
  · exact .inr ⟨b, h1, h2.below hb⟩
theorem Had.ptr {w : World} {pv vc vj : Value} {code : List (Nat × Nat)} {js ats : List Nat} (h : Had w pv vc vj code js ats) : ∃ po : Option Addr, pv = .pointer po := by
  rcases h with h | ⟨b, h1, h2⟩
  · exact ⟨none, h⟩
  · exact ⟨_, h1⟩
/-- A row of calls. -/
def Asks (w : World) (v : Value) (l : List AskN) : Prop := ∃ a cap, v = .slice a l.length cap ∧ l.length ≤ cap ∧ cap ≤ maxLen ∧ (∀ q ∈ l, q.x < 4294967296 ∧ q.y < 4294967296) ∧
  (0 < l.length → ∃ b off, a = some ⟨b, off, none⟩ ∧ b < w.heap.size ∧ ∀ k, (hk : k < l.length) → w.cell? ⟨b, off + k * 5, none⟩ = some (.int .i64 l[k].on) ∧ w.cell? ⟨b, off + k * 5 + 1, none⟩ = some (.int .i64 l[k].kd) ∧ w.cell? ⟨b, off + k * 5 + 2, none⟩ = some (.int .i64 l[k].a) ∧ w.cell? ⟨b, off + k * 5 + 3, none⟩ = some (.int .u32 l[k].x) ∧ w.cell? ⟨b, off + k * 5 + 4, none⟩ = some (.int .u32 l[k].y))
set_option maxRecDepth 100000 in
set_option maxHeartbeats 8000000 in
theorem procsFind_any (vc vj vn : Value) (code : List (Nat × Nat)) (js : List Nat) (lx : List (ByteArray × Nat)) (uc uj un : Value) (code' : List (Nat × Nat)) (js' : List Nat) (lx' : List (ByteArray × Nat)) (vs : Value) (l : List AskN) (w : World)
    (hc : Instrs w vc code) (hj : Words w vj js) (hx : Texts w vn lx) (s1 : code.length * 8 ≤ 140737488351232) (s2 : js.length * 4 ≤ 140737488351232) (s3 : lx.length * 24 ≤ 140737488351232)
    (hc' : Instrs w uc code') (hj' : Words w uj js') (hx' : Texts w un lx') (s1' : code'.length * 8 ≤ 140737488351232) (s2' : js'.length * 4 ≤ 140737488351232) (s3' : lx'.length * 24 ≤ 140737488351232) (hs : Asks w vs l) :
    Calls Try.prog 3 #[.agg #[vc, vj, vn], .agg #[uc, uj, un], vs] w fun e w' => e = .returned (.bool true) ∧ Below w.heap.size w w' := by
  obtain ⟨av0, cv0, rfl⟩ : ∃ a c, vc = .slice a code.length c := by obtain ⟨a, c, h, _⟩ := hc.opened; exact ⟨a, c, h⟩
  obtain ⟨av1, cv1, rfl⟩ : ∃ a c, vj = .slice a js.length c := by obtain ⟨a, c, h, _⟩ := hj.1; exact ⟨a, c, h⟩
  obtain ⟨av2, cv2, rfl⟩ : ∃ a c, vn = .slice a lx.length c := by obtain ⟨a, c, h, _⟩ := hx.1; exact ⟨a, c, h⟩
  obtain ⟨au0, cu0, rfl⟩ : ∃ a c, uc = .slice a code'.length c := by obtain ⟨a, c, h, _⟩ := hc'.opened; exact ⟨a, c, h⟩
  obtain ⟨au1, cu1, rfl⟩ : ∃ a c, uj = .slice a js'.length c := by obtain ⟨a, c, h, _⟩ := hj'.1; exact ⟨a, c, h⟩
  obtain ⟨au2, cu2, rfl⟩ : ∃ a c, un = .slice a lx'.length c := by obtain ⟨a, c, h, _⟩ := hx'.1; exact ⟨a, c, h⟩
  have hb0 := Bel.al (Bel.new w (.cells #[(.slice av0 code.length cv0), (.slice av1 js.length cv1), (.slice av2 lx.length cv2)] 26)) (.cells #[(.slice au0 code'.length cu0), (.slice au1 js'.length cu1), (.slice au2 lx'.length cu2)] 26)
  have HF1 := Lib.hid (found_any (.slice av0 code.length cv0) (.slice av1 js.length cv1) (.slice av2 lx.length cv2) code js lx _ (hc.below hb0) (hj.below hb0) (hx.below hb0) s1 s2 s3)
  have HF2 := Lib.hid (fun W (hb : Below w.heap.size w W) => found_any (.slice au0 code'.length cu0) (.slice au1 js'.length cu1) (.slice au2 lx'.length cu2) code' js' lx' W (hc'.below hb) (hj'.below hb) (hx'.below hb) s1' s2' s3')
  have HS := Lib.hid hs
  have Hb0 := Lib.hid hb0
  obtain ⟨asd, cs, rfl, hls, hms, -, -⟩ := hs
  have hlm : l.length ≤ 9223372036854775807 := by unfold maxLen at hms; omega
  clear hc hj hx hc' hj' hx' hb0
  go_enter Try.func3, Try.ntmps3
  go_wp2_with fail
  refine HF1.out.mono ?_
  rintro e w1 ⟨hb1, pv, rfl, hp⟩
  have Hb1 := Lib.hid (Bel.tr Hb0.out hb1)
  have HH1 := Lib.hid (show Had w1 pv (.slice av0 code.length cv0) (.slice av1 js.length cv1) code js (lx.map (·.2)) from hp)
  have hs0 := hb1.size
  have hs1 : w.heap.size + 1 < w1.heap.size := by simp at hs0; omega
  have ca0 := (hb1.cell (p := ⟨w.heap.size, 0, none⟩) (by simp; omega)).trans (show _ = some (.slice av0 code.length cv0) by simp [go_sem])
  have ca1 := (hb1.cell (p := ⟨w.heap.size, 1, none⟩) (by simp; omega)).trans (show _ = some (.slice av1 js.length cv1) by simp [go_sem])
  have ca2 := (hb1.cell (p := ⟨w.heap.size, 2, none⟩) (by simp; omega)).trans (show _ = some (.slice av2 lx.length cv2) by simp [go_sem])
  have cb0 := (hb1.cell (p := ⟨w.heap.size + 1, 0, none⟩) (by simp)).trans (show _ = some (.slice au0 code'.length cu0) by simp [go_sem])
  have cb1 := (hb1.cell (p := ⟨w.heap.size + 1, 1, none⟩) (by simp)).trans (show _ = some (.slice au1 js'.length cu1) by simp [go_sem])
  have cb2 := (hb1.cell (p := ⟨w.heap.size + 1, 2, none⟩) (by simp)).trans (show _ = some (.slice au2 lx'.length cu2) by simp [go_sem])
  have HC1 := Lib.hid (And.intro ca0 (And.intro ca1 (And.intro ca2 (And.intro cb0 (And.intro cb1 cb2)))))
  have Hf2 := Lib.hid (HF2.out w1 Hb1.out)
  clear hp hb1 HF1 HF2 ca0 ca1 ca2 hs0
  go_wp2_with fail
  refine Hf2.out.mono ?_
  rintro e w2 ⟨hb2, pu, rfl, hp⟩
  have Hb2 := Lib.hid (Bel.tr Hb1.out hb2)
  have HH2 := Lib.hid (show Had w2 pu (.slice au0 code'.length cu0) (.slice au1 js'.length cu1) code' js' (lx'.map (·.2)) from hp)
  have HH1' := Lib.hid (HH1.out.below hb2)
  obtain ⟨po, rfl⟩ := HH1'.out.ptr
  obtain ⟨qo, rfl⟩ := HH2.out.ptr
  obtain ⟨a0, a1, a2, d0, d1, d2⟩ := HC1.out
  have hs2 := hb2.size
  have HC2 := Lib.hid (And.intro ((hb2.cell (p := ⟨w.heap.size, 0, none⟩) (by show w.heap.size < _; omega)).trans a0) (And.intro ((hb2.cell (p := ⟨w.heap.size, 1, none⟩) (by show w.heap.size < _; omega)).trans a1) (And.intro ((hb2.cell (p := ⟨w.heap.size, 2, none⟩) (by show w.heap.size < _; omega)).trans a2)
    (And.intro ((hb2.cell (p := ⟨w.heap.size + 1, 0, none⟩) hs1).trans d0) (And.intro ((hb2.cell (p := ⟨w.heap.size + 1, 1, none⟩) hs1).trans d1) ((hb2.cell (p := ⟨w.heap.size + 1, 2, none⟩) hs1).trans d2))))))
  have hs3 : w.heap.size + 1 < w2.heap.size := by omega
  clear hp hb2 HC1 a0 a1 a2 d0 d1 d2 cb0 cb1 cb2 Hf2 HH1 Hb1 hs1 hs2
  go_wp2_with fail
  go_loopw [10] (fun i wr => ∃ k : Nat, k ≤ l.length ∧ i = .int .i64 k ∧ Below w2.heap.size w2 wr) (fun i _ => l.length - (intOf i).toNat)
  case atStart => exact ⟨0, by omega, rfl, Below.refl _ _⟩
  case round =>
    obtain ⟨k, hk, rfl, hb⟩ := hrel
    by_cases hlt : k < l.length
    · obtain ⟨asd', cs', hv, -, -, hq, hcl⟩ := HS.out
      cases hv
      obtain ⟨sb, off, rfl, hsb, hcc⟩ := hcl (by omega)
      have hbw := Bel.tr Hb2.out hb
      obtain ⟨f0, f1, f2, f3, f4⟩ := hcc k hlt
      have g0 := (hbw.cell (p := ⟨sb, off + k * 5, none⟩) hsb).trans f0
      have g1 := (hbw.cell (p := ⟨sb, off + k * 5 + 1, none⟩) hsb).trans f1
      have g2 := (hbw.cell (p := ⟨sb, off + k * 5 + 2, none⟩) hsb).trans f2
      have g3 := (hbw.cell (p := ⟨sb, off + k * 5 + 3, none⟩) hsb).trans f3
      have g4 := (hbw.cell (p := ⟨sb, off + k * 5 + 4, none⟩) hsb).trans f4
      obtain ⟨hx, hy⟩ := hq l[k] (List.getElem_mem hlt)
      generalize l[k] = q at *
      obtain ⟨on, kd, a, x, y⟩ := q
      simp only at g0 g1 g2 g3 g4 hx hy
      obtain ⟨a0, a1, a2, d0, d1, d2⟩ := HC2.out
      have c0 := (hb.cell (p := ⟨w.heap.size, 0, none⟩) (by show w.heap.size < _; omega)).trans a0
      have c1 := (hb.cell (p := ⟨w.heap.size, 1, none⟩) (by show w.heap.size < _; omega)).trans a1
      have c2 := (hb.cell (p := ⟨w.heap.size, 2, none⟩) (by show w.heap.size < _; omega)).trans a2
      have e0 := (hb.cell (p := ⟨w.heap.size + 1, 0, none⟩) hs3).trans d0
      have e1 := (hb.cell (p := ⟨w.heap.size + 1, 1, none⟩) hs3).trans d1
      have e2 := (hb.cell (p := ⟨w.heap.size + 1, 2, none⟩) hs3).trans d2
      have hsz := hb.size
      have hsw : sb < wr.heap.size := World.block_lt_of_cell? _ _ g0
      have hne1 : wr.heap.size ≠ w.heap.size := by omega
      have hne2 : wr.heap.size ≠ w.heap.size + 1 := by omega
      have hne3 : wr.heap.size ≠ sb := by omega
      have hlt1 : w.heap.size < wr.heap.size := by omega
      have hlt2 : w.heap.size + 1 < wr.heap.size := by omega
      have hki : (k : Int) < (l.length : Int) := by omega
      have hk0 : (0 : Int) ≤ (k : Int) := by omega
      have Hb := Lib.hid hb
      clear hcc f0 f1 f2 f3 f4 hbw a0 a1 a2 d0 d1 d2 hb hcl hq
      go_wp2_with fail
      refine (pick_any on 2 (by decide) (by decide) _).mono ?_
      rintro e w' ⟨⟨p, hp2, rfl⟩, hw'⟩
      subst hw'
      rcases (by omega : p = 0 ∨ p = 1) with rfl | rfl
      · go_wp2_with fail
        have HW := Lib.hid (HH1'.out.below (Bel.al Hb.out (.cells #[(.slice av0 code.length cv0), (.slice av1 js.length cv1), (.slice av2 lx.length cv2)] 26)))
        have HbW := Lib.hid (Bel.al Hb.out (.cells #[(.slice av0 code.length cv0), (.slice av1 js.length cv1), (.slice av2 lx.length cv2)] 26))
        have hbn := Bel.new wr (.cells #[(.slice av0 code.length cv0), (.slice av1 js.length cv1), (.slice av2 lx.length cv2)] 26)
        have h0' := (hbn.cell (p := ⟨sb, off + k * 5, none⟩) hsw).trans g0
        have h1' := (hbn.cell (p := ⟨sb, off + k * 5 + 1, none⟩) hsw).trans g1
        have h2' := (hbn.cell (p := ⟨sb, off + k * 5 + 2, none⟩) hsw).trans g2
        have h3' := (hbn.cell (p := ⟨sb, off + k * 5 + 3, none⟩) hsw).trans g3
        have h4' := (hbn.cell (p := ⟨sb, off + k * 5 + 4, none⟩) hsw).trans g4
        have n0 := (cells_new3 wr (.slice av0 code.length cv0) (.slice av1 js.length cv1) (.slice av2 lx.length cv2) 26)
        have hKb : wr.heap.size < (wr.alloc (.cells #[(.slice av0 code.length cv0), (.slice av1 js.length cv1), (.slice av2 lx.length cv2)] 26)).heap.size := by simp
        obtain ⟨K, hK⟩ : ∃ K, K = wr.heap.size := ⟨_, rfl⟩
        rw [← hK] at n0 ⊢
        clear g0 g1 g2 g3 g4 c0 c1 c2 e0 e1 e2 hbn hK hKb
        generalize wr.alloc (.cells #[(.slice av0 code.length cv0), (.slice av1 js.length cv1), (.slice av2 lx.length cv2)] 26) = W at *
        rcases HW.out with h | ⟨b, h, hR⟩
        · have hrn : ∀ W' : World, (binOp .neq 28 (.pointer po) (.pointer none)).run Try.prog W' = .ok (.bool false) W' := fun W' => by rw [h]; kernel_rfl
          clear h HW
          go_quiet (fail)
          go_wp2
          go_roundw
          case rel => exact ⟨k + 1, by omega, by go_num, below_drewN HbW.out _⟩
          case measure => simp [intOf]; omega
        · have hrn : ∀ W' : World, (binOp .neq 28 (.pointer po) (.pointer none)).run Try.prog W' = .ok (.bool true) W' := fun W' => by rw [h]; kernel_rfl
          obtain ⟨n0, n1, n2⟩ := n0
          have HS0 := Lib.hid (show W.drew.cell? ⟨K, 0, none⟩ = some (.slice av0 code.length cv0) ∧ W.drew.cell? ⟨K, 1, none⟩ = some (.slice av1 js.length cv1) ∧ W.drew.cell? ⟨K, 2, none⟩ = some (.slice av2 lx.length cv2) ∧ W.drew.cell? ⟨sb, off + k * 5, none⟩ = some (.int .i64 on) ∧ W.drew.cell? ⟨sb, off + k * 5 + 1, none⟩ = some (.int .i64 kd) ∧ W.drew.cell? ⟨sb, off + k * 5 + 2, none⟩ = some (.int .i64 a) ∧ W.drew.cell? ⟨sb, off + k * 5 + 3, none⟩ = some (.int .u32 x) ∧ W.drew.cell? ⟨sb, off + k * 5 + 4, none⟩ = some (.int .u32 y) ∧ Below W.heap.size W W.drew from ⟨n0, n1, n2, h0', h1', h2', h3', h4', (Below.refl _ _).drew⟩)
          have HA := Lib.hid (fun (W' : World) (hS : W'.cell? ⟨K, 0, none⟩ = some (.slice av0 code.length cv0) ∧ W'.cell? ⟨K, 1, none⟩ = some (.slice av1 js.length cv1) ∧ W'.cell? ⟨K, 2, none⟩ = some (.slice av2 lx.length cv2) ∧ W'.cell? ⟨sb, off + k * 5, none⟩ = some (.int .i64 on) ∧ W'.cell? ⟨sb, off + k * 5 + 1, none⟩ = some (.int .i64 kd) ∧ W'.cell? ⟨sb, off + k * 5 + 2, none⟩ = some (.int .i64 a) ∧ W'.cell? ⟨sb, off + k * 5 + 3, none⟩ = some (.int .u32 x) ∧ W'.cell? ⟨sb, off + k * 5 + 4, none⟩ = some (.int .u32 y) ∧ Below W.heap.size W W') => h ▸ answers_any (vn := .slice av2 lx.length cv2) (hR.below hS.2.2.2.2.2.2.2.2) on kd a x y hx hy)
          have HA' := Lib.hid (fun (W' : World) (hS : W'.cell? ⟨K, 0, none⟩ = some (.slice av0 code.length cv0) ∧ W'.cell? ⟨K, 1, none⟩ = some (.slice av1 js.length cv1) ∧ W'.cell? ⟨K, 2, none⟩ = some (.slice av2 lx.length cv2) ∧ W'.cell? ⟨sb, off + k * 5, none⟩ = some (.int .i64 on) ∧ W'.cell? ⟨sb, off + k * 5 + 1, none⟩ = some (.int .i64 kd) ∧ W'.cell? ⟨sb, off + k * 5 + 2, none⟩ = some (.int .i64 a) ∧ W'.cell? ⟨sb, off + k * 5 + 3, none⟩ = some (.int .u32 x) ∧ W'.cell? ⟨sb, off + k * 5 + 4, none⟩ = some (.int .u32 y) ∧ Below W.heap.size W W') => (HA.out W' hS).mono (fun e w' h => (show e = .returned (.bool true) ∧ w'.cell? ⟨K, 0, none⟩ = some (.slice av0 code.length cv0) ∧ w'.cell? ⟨K, 1, none⟩ = some (.slice av1 js.length cv1) ∧ w'.cell? ⟨K, 2, none⟩ = some (.slice av2 lx.length cv2) ∧ w'.cell? ⟨sb, off + k * 5, none⟩ = some (.int .i64 on) ∧ w'.cell? ⟨sb, off + k * 5 + 1, none⟩ = some (.int .i64 kd) ∧ w'.cell? ⟨sb, off + k * 5 + 2, none⟩ = some (.int .i64 a) ∧ w'.cell? ⟨sb, off + k * 5 + 3, none⟩ = some (.int .u32 x) ∧ w'.cell? ⟨sb, off + k * 5 + 4, none⟩ = some (.int .u32 y) ∧ Below W.heap.size W w' from ⟨h.1, (h.2.cell (p := ⟨K, 0, none⟩) (World.block_lt_of_cell? _ _ hS.1)).trans hS.1, (h.2.cell (p := ⟨K, 1, none⟩) (World.block_lt_of_cell? _ _ hS.2.1)).trans hS.2.1, (h.2.cell (p := ⟨K, 2, none⟩) (World.block_lt_of_cell? _ _ hS.2.2.1)).trans hS.2.2.1, (h.2.cell (p := ⟨sb, off + k * 5, none⟩) (World.block_lt_of_cell? _ _ hS.2.2.2.1)).trans hS.2.2.2.1, (h.2.cell (p := ⟨sb, off + k * 5 + 1, none⟩) (World.block_lt_of_cell? _ _ hS.2.2.2.2.1)).trans hS.2.2.2.2.1, (h.2.cell (p := ⟨sb, off + k * 5 + 2, none⟩) (World.block_lt_of_cell? _ _ hS.2.2.2.2.2.1)).trans hS.2.2.2.2.2.1, (h.2.cell (p := ⟨sb, off + k * 5 + 3, none⟩) (World.block_lt_of_cell? _ _ hS.2.2.2.2.2.2.1)).trans hS.2.2.2.2.2.2.1, (h.2.cell (p := ⟨sb, off + k * 5 + 4, none⟩) (World.block_lt_of_cell? _ _ hS.2.2.2.2.2.2.2.1)).trans hS.2.2.2.2.2.2.2.1, Bel.tr hS.2.2.2.2.2.2.2.2 h.2⟩)))
          clear n0 n1 n2 h0' h1' h2' h3' h4' HW hR h
          go_region_held3 (fun w' => w'.cell? ⟨K, 0, none⟩ = some (.slice av0 code.length cv0) ∧ w'.cell? ⟨K, 1, none⟩ = some (.slice av1 js.length cv1) ∧ w'.cell? ⟨K, 2, none⟩ = some (.slice av2 lx.length cv2) ∧ w'.cell? ⟨sb, off + k * 5, none⟩ = some (.int .i64 on) ∧ w'.cell? ⟨sb, off + k * 5 + 1, none⟩ = some (.int .i64 kd) ∧ w'.cell? ⟨sb, off + k * 5 + 2, none⟩ = some (.int .i64 a) ∧ w'.cell? ⟨sb, off + k * 5 + 3, none⟩ = some (.int .u32 x) ∧ w'.cell? ⟨sb, off + k * 5 + 4, none⟩ = some (.int .u32 y) ∧ Below W.heap.size W w')
            (first | assumption | exact HS0.out)
            (first | (go_at_call 7; refine (HA'.out _ ?_).mono ?_; assumption; rintro e w5 ⟨rfl, hS5⟩) | fail)
          have HB5 := Lib.hid (Bel.tr HbW.out hS5.2.2.2.2.2.2.2.2)
          clear hS5
          go_wp2
          go_roundw
          case rel => exact ⟨k + 1, by omega, by go_num, HB5.out⟩
          case measure => simp [intOf]; omega
      · go_wp2_with fail
        have HW := Lib.hid (HH2.out.below (Bel.al Hb.out (.cells #[(.slice au0 code'.length cu0), (.slice au1 js'.length cu1), (.slice au2 lx'.length cu2)] 26)))
        have HbW := Lib.hid (Bel.al Hb.out (.cells #[(.slice au0 code'.length cu0), (.slice au1 js'.length cu1), (.slice au2 lx'.length cu2)] 26))
        have hbn := Bel.new wr (.cells #[(.slice au0 code'.length cu0), (.slice au1 js'.length cu1), (.slice au2 lx'.length cu2)] 26)
        have h0' := (hbn.cell (p := ⟨sb, off + k * 5, none⟩) hsw).trans g0
        have h1' := (hbn.cell (p := ⟨sb, off + k * 5 + 1, none⟩) hsw).trans g1
        have h2' := (hbn.cell (p := ⟨sb, off + k * 5 + 2, none⟩) hsw).trans g2
        have h3' := (hbn.cell (p := ⟨sb, off + k * 5 + 3, none⟩) hsw).trans g3
        have h4' := (hbn.cell (p := ⟨sb, off + k * 5 + 4, none⟩) hsw).trans g4
        have n0 := (cells_new3 wr (.slice au0 code'.length cu0) (.slice au1 js'.length cu1) (.slice au2 lx'.length cu2) 26)
        have hKb : wr.heap.size < (wr.alloc (.cells #[(.slice au0 code'.length cu0), (.slice au1 js'.length cu1), (.slice au2 lx'.length cu2)] 26)).heap.size := by simp
        obtain ⟨K, hK⟩ : ∃ K, K = wr.heap.size := ⟨_, rfl⟩
        rw [← hK] at n0 ⊢
        clear g0 g1 g2 g3 g4 c0 c1 c2 e0 e1 e2 hbn hK hKb
        generalize wr.alloc (.cells #[(.slice au0 code'.length cu0), (.slice au1 js'.length cu1), (.slice au2 lx'.length cu2)] 26) = W at *
        rcases HW.out with h | ⟨b, h, hR⟩
        · have hrn : ∀ W' : World, (binOp .neq 28 (.pointer qo) (.pointer none)).run Try.prog W' = .ok (.bool false) W' := fun W' => by rw [h]; kernel_rfl
          clear h HW
          go_quiet (fail)
          go_wp2
          go_roundw
          case rel => exact ⟨k + 1, by omega, by go_num, below_drewN HbW.out _⟩
          case measure => simp [intOf]; omega
        · have hrn : ∀ W' : World, (binOp .neq 28 (.pointer qo) (.pointer none)).run Try.prog W' = .ok (.bool true) W' := fun W' => by rw [h]; kernel_rfl
          obtain ⟨n0, n1, n2⟩ := n0
          have HS0 := Lib.hid (show W.drew.cell? ⟨K, 0, none⟩ = some (.slice au0 code'.length cu0) ∧ W.drew.cell? ⟨K, 1, none⟩ = some (.slice au1 js'.length cu1) ∧ W.drew.cell? ⟨K, 2, none⟩ = some (.slice au2 lx'.length cu2) ∧ W.drew.cell? ⟨sb, off + k * 5, none⟩ = some (.int .i64 on) ∧ W.drew.cell? ⟨sb, off + k * 5 + 1, none⟩ = some (.int .i64 kd) ∧ W.drew.cell? ⟨sb, off + k * 5 + 2, none⟩ = some (.int .i64 a) ∧ W.drew.cell? ⟨sb, off + k * 5 + 3, none⟩ = some (.int .u32 x) ∧ W.drew.cell? ⟨sb, off + k * 5 + 4, none⟩ = some (.int .u32 y) ∧ Below W.heap.size W W.drew from ⟨n0, n1, n2, h0', h1', h2', h3', h4', (Below.refl _ _).drew⟩)
          have HA := Lib.hid (fun (W' : World) (hS : W'.cell? ⟨K, 0, none⟩ = some (.slice au0 code'.length cu0) ∧ W'.cell? ⟨K, 1, none⟩ = some (.slice au1 js'.length cu1) ∧ W'.cell? ⟨K, 2, none⟩ = some (.slice au2 lx'.length cu2) ∧ W'.cell? ⟨sb, off + k * 5, none⟩ = some (.int .i64 on) ∧ W'.cell? ⟨sb, off + k * 5 + 1, none⟩ = some (.int .i64 kd) ∧ W'.cell? ⟨sb, off + k * 5 + 2, none⟩ = some (.int .i64 a) ∧ W'.cell? ⟨sb, off + k * 5 + 3, none⟩ = some (.int .u32 x) ∧ W'.cell? ⟨sb, off + k * 5 + 4, none⟩ = some (.int .u32 y) ∧ Below W.heap.size W W') => h ▸ answers_any (vn := .slice au2 lx'.length cu2) (hR.below hS.2.2.2.2.2.2.2.2) on kd a x y hx hy)
          have HA' := Lib.hid (fun (W' : World) (hS : W'.cell? ⟨K, 0, none⟩ = some (.slice au0 code'.length cu0) ∧ W'.cell? ⟨K, 1, none⟩ = some (.slice au1 js'.length cu1) ∧ W'.cell? ⟨K, 2, none⟩ = some (.slice au2 lx'.length cu2) ∧ W'.cell? ⟨sb, off + k * 5, none⟩ = some (.int .i64 on) ∧ W'.cell? ⟨sb, off + k * 5 + 1, none⟩ = some (.int .i64 kd) ∧ W'.cell? ⟨sb, off + k * 5 + 2, none⟩ = some (.int .i64 a) ∧ W'.cell? ⟨sb, off + k * 5 + 3, none⟩ = some (.int .u32 x) ∧ W'.cell? ⟨sb, off + k * 5 + 4, none⟩ = some (.int .u32 y) ∧ Below W.heap.size W W') => (HA.out W' hS).mono (fun e w' h => (show e = .returned (.bool true) ∧ w'.cell? ⟨K, 0, none⟩ = some (.slice au0 code'.length cu0) ∧ w'.cell? ⟨K, 1, none⟩ = some (.slice au1 js'.length cu1) ∧ w'.cell? ⟨K, 2, none⟩ = some (.slice au2 lx'.length cu2) ∧ w'.cell? ⟨sb, off + k * 5, none⟩ = some (.int .i64 on) ∧ w'.cell? ⟨sb, off + k * 5 + 1, none⟩ = some (.int .i64 kd) ∧ w'.cell? ⟨sb, off + k * 5 + 2, none⟩ = some (.int .i64 a) ∧ w'.cell? ⟨sb, off + k * 5 + 3, none⟩ = some (.int .u32 x) ∧ w'.cell? ⟨sb, off + k * 5 + 4, none⟩ = some (.int .u32 y) ∧ Below W.heap.size W w' from ⟨h.1, (h.2.cell (p := ⟨K, 0, none⟩) (World.block_lt_of_cell? _ _ hS.1)).trans hS.1, (h.2.cell (p := ⟨K, 1, none⟩) (World.block_lt_of_cell? _ _ hS.2.1)).trans hS.2.1, (h.2.cell (p := ⟨K, 2, none⟩) (World.block_lt_of_cell? _ _ hS.2.2.1)).trans hS.2.2.1, (h.2.cell (p := ⟨sb, off + k * 5, none⟩) (World.block_lt_of_cell? _ _ hS.2.2.2.1)).trans hS.2.2.2.1, (h.2.cell (p := ⟨sb, off + k * 5 + 1, none⟩) (World.block_lt_of_cell? _ _ hS.2.2.2.2.1)).trans hS.2.2.2.2.1, (h.2.cell (p := ⟨sb, off + k * 5 + 2, none⟩) (World.block_lt_of_cell? _ _ hS.2.2.2.2.2.1)).trans hS.2.2.2.2.2.1, (h.2.cell (p := ⟨sb, off + k * 5 + 3, none⟩) (World.block_lt_of_cell? _ _ hS.2.2.2.2.2.2.1)).trans hS.2.2.2.2.2.2.1, (h.2.cell (p := ⟨sb, off + k * 5 + 4, none⟩) (World.block_lt_of_cell? _ _ hS.2.2.2.2.2.2.2.1)).trans hS.2.2.2.2.2.2.2.1, Bel.tr hS.2.2.2.2.2.2.2.2 h.2⟩)))
          clear n0 n1 n2 h0' h1' h2' h3' h4' HW hR h
          go_region_held3 (fun w' => w'.cell? ⟨K, 0, none⟩ = some (.slice au0 code'.length cu0) ∧ w'.cell? ⟨K, 1, none⟩ = some (.slice au1 js'.length cu1) ∧ w'.cell? ⟨K, 2, none⟩ = some (.slice au2 lx'.length cu2) ∧ w'.cell? ⟨sb, off + k * 5, none⟩ = some (.int .i64 on) ∧ w'.cell? ⟨sb, off + k * 5 + 1, none⟩ = some (.int .i64 kd) ∧ w'.cell? ⟨sb, off + k * 5 + 2, none⟩ = some (.int .i64 a) ∧ w'.cell? ⟨sb, off + k * 5 + 3, none⟩ = some (.int .u32 x) ∧ w'.cell? ⟨sb, off + k * 5 + 4, none⟩ = some (.int .u32 y) ∧ Below W.heap.size W w')
            (first | assumption | exact HS0.out)
            (first | (go_at_call 7; refine (HA'.out _ ?_).mono ?_; assumption; rintro e w5 ⟨rfl, hS5⟩) | fail)
          have HB5 := Lib.hid (Bel.tr HbW.out hS5.2.2.2.2.2.2.2.2)
          clear hS5
          go_wp2
          go_roundw
          case rel => exact ⟨k + 1, by omega, by go_num, HB5.out⟩
          case measure => simp [intOf]; omega
    · have HB := Lib.hid (Bel.tr Hb2.out hb)
      clear hb
      go_wp2
      go_ret
      exact ⟨rfl, HB.out⟩
end Go.Proofs.Ytofkamnmgpkehab
