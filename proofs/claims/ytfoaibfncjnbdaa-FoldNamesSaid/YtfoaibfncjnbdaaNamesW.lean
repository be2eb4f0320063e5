import Derived.Test.YtfoaibfncjnbdaaNone
/- The walk of FoldNames. -/
namespace Go.Proofs.Ytfoaibfncjnbdaa
open Go.RowKit
def namesL : List (Nat × Nat) := [(8, 2), (8, 3), (41, 0), (38, 0), (8, 5), (8, 0), (42, 0), (8, 1), (11, 0), (13, 4), (1, 0), (8, 7), (10, 0), (31, 0), (1, 0), (1, 0)]
def namesM : List (Nat × Nat) := [(8, 2), (8, 3), (41, 0), (38, 0), (8, 5), (8, 0), (42, 0), (8, 1), (11, 0), (14, 4), (1, 0), (8, 7), (10, 0), (31, 0), (1, 0), (1, 0)]
def namesC : Array Value := #[.int .u8 8, .int .u32 2, .int .u8 8, .int .u32 3, .int .u8 41, .int .u32 0, .int .u8 38, .int .u32 0, .int .u8 8, .int .u32 5, .int .u8 8, .int .u32 0, .int .u8 42, .int .u32 0, .int .u8 8, .int .u32 1, .int .u8 11, .int .u32 0, .int .u8 13, .int .u32 4, .int .u8 1, .int .u32 0, .int .u8 8, .int .u32 7, .int .u8 10, .int .u32 0, .int .u8 31, .int .u32 0, .int .u8 1, .int .u32 0, .int .u8 1, .int .u32 0]
def namesD : Array Value := #[.int .u8 8, .int .u32 2, .int .u8 8, .int .u32 3, .int .u8 41, .int .u32 0, .int .u8 38, .int .u32 0, .int .u8 8, .int .u32 5, .int .u8 8, .int .u32 0, .int .u8 42, .int .u32 0, .int .u8 8, .int .u32 1, .int .u8 11, .int .u32 0, .int .u8 14, .int .u32 4, .int .u8 1, .int .u32 0, .int .u8 8, .int .u32 7, .int .u8 10, .int .u32 0, .int .u8 31, .int .u32 0, .int .u8 1, .int .u32 0, .int .u8 1, .int .u32 0]
theorem ask0 : askR namesL 0 16 = (0, 4, 2, 4294967290) := by decide +kernel
theorem ask1 : askR namesL 0 3 = (0, 3, 2, 6) := by decide +kernel
theorem ask2 : askR namesL 0 2 = (0, 1, 1, 0) := by decide +kernel
theorem ask3 : askR namesL 4 16 = (4, 1, 1, 0) := by decide +kernel
theorem ask4 : askR namesL 6 16 = (6, 1, 1, 0) := by decide +kernel
theorem ask5 : askR namesL 7 16 = (7, 3, 3, 4) := by decide +kernel
theorem ask6 : askR namesL 10 16 = (10, 3, 4, 0) := by decide +kernel
theorem ask7 : askR namesL 14 16 = (14, 2, 4, 0) := by decide +kernel
theorem ask8 : askR namesM 7 16 = (7, 3, 4, 0) := by decide +kernel
theorem long1 : longRes namesM 3 3 = ((0, 0, 0, 0), 2) := by decide +kernel
theorem long2 : longRes namesM 0 17 = ((0, 0, 0, 0), 2) := by decide +kernel
theorem names_build (w : World) : (Instr.buildSlice 22 16 #[(0, .agg #[.int .u8 8, .int .u32 2]), (1, .agg #[.int .u8 8, .int .u32 3]), (2, .agg #[.int .u8 41, .int .u32 0]), (3, .agg #[.int .u8 38, .int .u32 0]), (4, .agg #[.int .u8 8, .int .u32 5]), (5, .agg #[.int .u8 8, .int .u32 0]), (6, .agg #[.int .u8 42, .int .u32 0]), (7, .agg #[.int .u8 8, .int .u32 1]), (8, .agg #[.int .u8 11, .int .u32 0]), (9, .agg #[.int .u8 13, .int .u32 4]), (10, .agg #[.int .u8 1, .int .u32 0]), (11, .agg #[.int .u8 8, .int .u32 7]), (12, .agg #[.int .u8 10, .int .u32 0]), (13, .agg #[.int .u8 31, .int .u32 0]), (14, .agg #[.int .u8 1, .int .u32 0]), (15, .agg #[.int .u8 1, .int .u32 0])]).run Try.prog w = .ok (.slice (some ⟨w.heap.size, 0, none⟩) 16 16) (w.alloc (.cells namesC 34)) := by kernel_rfl
theorem instrs_heap {l : List (Nat × Nat)} {W : World} {g : Nat} (hl : ∀ i ∈ l, i.1 < 256 ∧ i.2 < 4294967296) (hm : l.length ≤ maxLen) (h : W.heap[g]? = some (.cells (encI l).toArray 34 (0, 0))) : Instrs W (.slice (some ⟨g, 0, none⟩) l.length l.length) l :=
  ⟨⟨_, l.length, rfl, encI_length l, Nat.le_refl _, hm, (fun h => by cases h), fun _ => ⟨g, 0, rfl, (Array.getElem?_eq_some_iff.1 h).1, fun j hj => by simp [World.cell?, h]⟩⟩, hl⟩
theorem namesI {W : World} {g : Nat} (h : W.heap[g]? = some (.cells namesC 34 (0, 0))) : Instrs W (.slice (some ⟨g, 0, none⟩) 16 16) namesL := instrs_heap (l := namesL) (by decide) (by decide) h
theorem namesJ {W : World} {g : Nat} (h : W.heap[g]? = some (.cells namesD 34 (0, 0))) : Instrs W (.slice (some ⟨g, 0, none⟩) 16 16) namesM := instrs_heap (l := namesM) (by decide) (by decide) h
theorem names_set {W : World} {g : Nat} (h : W.heap[g]? = some (.cells namesC 34 (0, 0))) : (W.setCell ⟨g, 18, none⟩ (.int .u8 14)).heap[g]? = some (.cells namesD 34 (0, 0)) := by
  unfold World.setCell
  simp only [Array.getElem?_modify, if_true, h, Option.map_some]
  rfl
set_option maxRecDepth 100000 in
set_option maxHeartbeats 8000000 in
theorem foldNames_walk (w : World) : Calls Try.prog 5 #[] w fun e w' => e = .returned (.bool true) ∧ Below w.heap.size w w' := by
  have hbd := names_build
  go_enter Try.func5, Try.ntmps5
  go_wp2_with fail
  refine (awake_any w).mono ?_
  rintro e w0 ⟨rfl, hb0⟩
  have Hg := Lib.hid (heap_alloc_new w0 (.cells namesC 34))
  have HB := Lib.hid (Bel.al hb0 (.cells namesC 34))
  have Hgw := Lib.hid hb0.size
  have Hgl := Lib.hid (show w0.heap.size < (w0.alloc (.cells namesC 34)).heap.size by simp)
  clear hb0
  go_wp2_with fail
  have hA := asked_any _ namesL 0 16 (by decide) (by decide) _ (namesI Hg.out)
  rw [ask0] at hA
  generalize w0.heap.size = g at *
  refine hA.mono ?_
  rintro x w1 ⟨rfl, hb⟩
  have Hg2 := Lib.hid ((hb.block _ Hgl.out).trans Hg.out)
  have HB2 := Lib.hid (Bel.tr HB.out hb)
  have Hgl2 := Lib.hid (Nat.lt_of_lt_of_le Hgl.out hb.size)
  clear hb hA Hg HB Hgl
  have Hg := Hg2
  have HB := HB2
  have Hgl := Hgl2
  clear Hg2 HB2 Hgl2
  go_wp2_with fail
  have hA := asked_any _ namesL 0 3 (by decide) (by decide) _ (namesI Hg.out)
  rw [ask1] at hA
  refine hA.mono ?_
  rintro x w2 ⟨rfl, hb⟩
  have Hg2 := Lib.hid ((hb.block _ Hgl.out).trans Hg.out)
  have HB2 := Lib.hid (Bel.tr HB.out hb)
  have Hgl2 := Lib.hid (Nat.lt_of_lt_of_le Hgl.out hb.size)
  clear hb hA Hg HB Hgl
  have Hg := Hg2
  have HB := HB2
  have Hgl := Hgl2
  clear Hg2 HB2 Hgl2
  go_wp2_with fail
  have hA := asked_any _ namesL 0 2 (by decide) (by decide) _ (namesI Hg.out)
  rw [ask2] at hA
  refine hA.mono ?_
  rintro x w3 ⟨rfl, hb⟩
  have Hg2 := Lib.hid ((hb.block _ Hgl.out).trans Hg.out)
  have HB2 := Lib.hid (Bel.tr HB.out hb)
  have Hgl2 := Lib.hid (Nat.lt_of_lt_of_le Hgl.out hb.size)
  clear hb hA Hg HB Hgl
  have Hg := Hg2
  have HB := HB2
  have Hgl := Hgl2
  clear Hg2 HB2 Hgl2
  go_wp2_with fail
  have hA := asked_any _ namesL 4 16 (by decide) (by decide) _ (namesI Hg.out)
  rw [ask3] at hA
  refine hA.mono ?_
  rintro x w4 ⟨rfl, hb⟩
  have Hg2 := Lib.hid ((hb.block _ Hgl.out).trans Hg.out)
  have HB2 := Lib.hid (Bel.tr HB.out hb)
  have Hgl2 := Lib.hid (Nat.lt_of_lt_of_le Hgl.out hb.size)
  clear hb hA Hg HB Hgl
  have Hg := Hg2
  have HB := HB2
  have Hgl := Hgl2
  clear Hg2 HB2 Hgl2
  go_wp2_with fail
  have hA := asked_any _ namesL 6 16 (by decide) (by decide) _ (namesI Hg.out)
  rw [ask4] at hA
  refine hA.mono ?_
  rintro x w5 ⟨rfl, hb⟩
  have Hg2 := Lib.hid ((hb.block _ Hgl.out).trans Hg.out)
  have HB2 := Lib.hid (Bel.tr HB.out hb)
  have Hgl2 := Lib.hid (Nat.lt_of_lt_of_le Hgl.out hb.size)
  clear hb hA Hg HB Hgl
  have Hg := Hg2
  have HB := HB2
  have Hgl := Hgl2
  clear Hg2 HB2 Hgl2
  go_wp2_with fail
  have hA := asked_any _ namesL 7 16 (by decide) (by decide) _ (namesI Hg.out)
  rw [ask5] at hA
  refine hA.mono ?_
  rintro x w6 ⟨rfl, hb⟩
  have Hg2 := Lib.hid ((hb.block _ Hgl.out).trans Hg.out)
  have HB2 := Lib.hid (Bel.tr HB.out hb)
  have Hgl2 := Lib.hid (Nat.lt_of_lt_of_le Hgl.out hb.size)
  clear hb hA Hg HB Hgl
  have Hg := Hg2
  have HB := HB2
  have Hgl := Hgl2
  clear Hg2 HB2 Hgl2
  go_wp2_with fail
  have hA := asked_any _ namesL 10 16 (by decide) (by decide) _ (namesI Hg.out)
  rw [ask6] at hA
  refine hA.mono ?_
  rintro x w7 ⟨rfl, hb⟩
  have Hg2 := Lib.hid ((hb.block _ Hgl.out).trans Hg.out)
  have HB2 := Lib.hid (Bel.tr HB.out hb)
  have Hgl2 := Lib.hid (Nat.lt_of_lt_of_le Hgl.out hb.size)
  clear hb hA Hg HB Hgl
  have Hg := Hg2
  have HB := HB2
  have Hgl := Hgl2
  clear Hg2 HB2 Hgl2
  go_wp2_with fail
  have hA := asked_any _ namesL 14 16 (by decide) (by decide) _ (namesI Hg.out)
  rw [ask7] at hA
  refine hA.mono ?_
  rintro x w8 ⟨rfl, hb⟩
  have Hg2 := Lib.hid ((hb.block _ Hgl.out).trans Hg.out)
  have HB2 := Lib.hid (Bel.tr HB.out hb)
  have Hgl2 := Lib.hid (Nat.lt_of_lt_of_le Hgl.out hb.size)
  clear hb hA Hg HB Hgl
  have Hg := Hg2
  have HB := HB2
  have Hgl := Hgl2
  clear Hg2 HB2 Hgl2
  have c18 : w8.cell? ⟨g, 18, none⟩ = some (.int .u8 13) := by simp [World.cell?, Hg.out, namesC]
  have f18 : w8.frozen? ⟨g, 18, none⟩ = false := by simp [World.frozen?, Hg.out]
  have HgD := Lib.hid (names_set Hg.out)
  have HBD := Lib.hid (HB.out.setCell (p := ⟨g, 18, none⟩) Hgw.out (.int .u8 14))
  have HgE := Lib.hid (show g < (w8.setCell ⟨g, 18, none⟩ (.int .u8 14)).heap.size by simpa [World.setCell] using Hgl.out)
  go_wp2_with fail
  clear c18 f18 Hg HB Hgl
  generalize w8.setCell ⟨g, 18, none⟩ (.int .u8 14) = W at *
  have hA := asked_any _ namesM 7 16 (by decide) (by decide) _ (namesJ HgD.out)
  rw [ask8] at hA
  refine hA.mono ?_
  rintro x w9 ⟨rfl, hb⟩
  have Hg9 := Lib.hid ((hb.block _ HgE.out).trans HgD.out)
  have HB9 := Lib.hid (Bel.tr HBD.out hb)
  have Hs9 := Lib.hid (Nat.lt_of_lt_of_le HgE.out hb.size)
  clear hb hA HgD HBD HgE
  go_wp2_with fail
  have hA := longest_any _ namesM 3 3 (by decide) (by decide) _ (namesJ Hg9.out)
  rw [long1] at hA
  refine hA.mono ?_
  rintro x w10 ⟨rfl, hb⟩
  have HgX := Lib.hid ((Below.heap_alloc w10 (.cells #[.int .u32 0, .int .u32 0, .int .u8 0, .int .u32 0] 27) g (Nat.lt_of_lt_of_le Hs9.out hb.size)).trans ((hb.block _ Hs9.out).trans Hg9.out))
  have HBX := Lib.hid (Bel.al (Bel.tr HB9.out hb) (.cells #[.int .u32 0, .int .u32 0, .int .u8 0, .int .u32 0] 27))
  clear hb hA Hg9 HB9 Hs9
  go_wp2_with fail
  have hA := longest_any _ namesM 0 17 (by decide) (by decide) _ (namesJ HgX.out)
  rw [long2] at hA
  refine hA.mono ?_
  rintro x w11 ⟨rfl, hb⟩
  have HB11 := Lib.hid (Bel.al (Bel.tr HBX.out hb) (.cells #[.int .u32 0, .int .u32 0, .int .u8 0, .int .u32 0] 27))
  clear hb hA HgX HBX
  go_wp2_with fail
  refine (pieces_nil _).mono ?_
  rintro x w12 ⟨rfl, hb⟩
  have HB12 := Lib.hid (Bel.al (Bel.tr HB11.out hb) (.cells #[.pointer none] 45))
  clear hb HB11
  go_wp2_with fail
  refine (pieces_zero _ _ (by simp [go_sem])).mono ?_
  rintro x w13 ⟨rfl, hb⟩
  have HB13 := Lib.hid (Bel.tr HB12.out hb)
  clear hb HB12
  go_wp2_with fail
  go_ret
  exact ⟨rfl, HB13.out⟩
end Go.Proofs.Ytfoaibfncjnbdaa
