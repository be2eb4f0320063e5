import Derived.Test.YtflpbgdghaaiaaaGreatS8
import Derived.Test.YtflpbgdghaaiaaaGreatS6
import Derived.Test.YtflpbgdghaaiaaaGreatS1
namespace Go.Proofs.YtflpbgdghaaiaaaGreat
open Go.RowKit
set_option linter.unusedVariables false
set_option linter.unusedSimpArgs false
theorem row_later {w w' : World} {g : Nat} {o : Obj} (h : w.heap[g]? = some o) (hb : Below w.heap.size w w') : w'.heap[g]? = some o := (hb.block g (Array.getElem?_eq_some_iff.1 h).1).trans h
set_option maxRecDepth 100000 in
set_option maxHeartbeats 8000000 in
theorem saveTurned_walk (vc vj vk vn : Value) (m : Img) (w : World) (h : ImgAt w vc vj vk vn m) {vo vd uo ud : Value} {s t : St} (hs : StAt w vo vd s) (ht : StAt w uo ud t) (hss : s.Sized) (hts : t.Sized) (at_ : Int) (by_ : Nat) (hby : by_ < 256) :
    Calls Tryz.prog 6 #[.agg #[vc, vj, vk, .int .u32 m.zero, .int .u32 m.stack, vn], stV vo vd s, stV uo ud t, .agg #[.int .i64 at_, .int .u8 by_]] w fun e w' => e = .returned (.bool true) ∧ Below w.heap.size w w' := by
  have hz51 := zeroQ51
  obtain ⟨ac, cc, rfl, -⟩ := h.c.1
  obtain ⟨aj, cj, rfl, -⟩ := h.j.1
  obtain ⟨ak, ck, rfl, -⟩ := h.d.1
  obtain ⟨an, cn, rfl, -⟩ := h.n.1
  obtain ⟨ao, co, rfl, -⟩ := hs.o.1
  obtain ⟨ad, cd, rfl, -⟩ := hs.d.1
  obtain ⟨bo, eo, rfl, -⟩ := ht.o.1
  obtain ⟨bd, ed, rfl, -⟩ := ht.d.1
  obtain ⟨Wi, hWi⟩ : ∃ Wi, Wi = w.alloc (.cells #[.slice ac m.code.length cc, .slice aj m.js.length cj, .slice ak m.data.length ck, .int .u32 m.zero, .int .u32 m.stack, .slice an m.lx.length cn] 28) := ⟨_, rfl⟩
  have hbi : Below w.heap.size w Wi := by rw [hWi]; exact Bel.new _ _
  have hsi : Wi.heap.size = w.heap.size + 1 := by rw [hWi]; simp
  obtain ⟨Ws, hWs⟩ : ∃ Ws, Ws = Wi.alloc (.cells #[.int .u8 s.life, .int .u32 s.pc, .int .u32 s.sp, .slice ao s.ops.length co, .slice ad s.data.length cd, .int .u32 s.value, .int .u8 s.fault] 32) := ⟨_, rfl⟩
  have hbs : Below Wi.heap.size Wi Ws := by rw [hWs]; exact Bel.new _ _
  have hSs : StB Ws (w.heap.size + 1) (.slice ao s.ops.length co) (.slice ad s.data.length cd) s := StB.row (by rw [hWs, ← hsi]; exact heap_alloc_new _ _)
  have hss2 : Ws.heap.size = w.heap.size + 2 := by rw [hWs]; simp [hsi]
  obtain ⟨Wt, hWt⟩ : ∃ Wt, Wt = Ws.alloc (.cells #[.int .u8 t.life, .int .u32 t.pc, .int .u32 t.sp, .slice bo t.ops.length eo, .slice bd t.data.length ed, .int .u32 t.value, .int .u8 t.fault] 32) := ⟨_, rfl⟩
  have hbt : Below Ws.heap.size Ws Wt := by rw [hWt]; exact Bel.new _ _
  have hst2 : Wt.heap.size = w.heap.size + 3 := by rw [hWt]; simp [hss2]
  have hSt : StB Wt (w.heap.size + 2) (.slice bo t.ops.length eo) (.slice bd t.data.length ed) t := StB.row (by rw [hWt, ← hss2]; exact heap_alloc_new _ _)
  obtain ⟨W0, hW0⟩ : ∃ W0, W0 = Wt.alloc (.cells #[.int .i64 at_, .int .u8 by_] 53) := ⟨_, rfl⟩
  have hb0 : Below Wt.heap.size Wt W0 := by rw [hW0]; exact Bel.new _ _
  have HTu := Lib.hid (show W0.heap[w.heap.size + 3]? = some (.cells #[.int .i64 at_, .int .u8 by_] 53 (0, 0)) from by rw [hW0, ← hst2]; exact heap_alloc_new _ _)
  have HL := Lib.hid (show LwB w W0 (w.heap.size + 1) (w.heap.size + 2) (.slice ao s.ops.length co) (.slice ad s.data.length cd) (.slice bo t.ops.length eo) (.slice bd t.data.length ed) s t from
    ⟨Bel.tr (Bel.tr (Bel.tr hbi hbs) hbt) hb0, (hSs.below hbt).below hb0, hSt.below hb0⟩)
  obtain ⟨f0, f1, f2, f3, f4, f5⟩ := cells_new6 w (.slice ac m.code.length cc) (.slice aj m.js.length cj) (.slice ak m.data.length ck) (.int .u32 m.zero) (.int .u32 m.stack) (.slice an m.lx.length cn) 28
  have HTk := Lib.hid (lawtaken_any _ _ _ _ m W0 (h.below HL.out.b))
  unfold LawPost at HTk
  have HLv := Lib.hid (fun W => lives_any W)
  have HS := Lib.hid hs
  have HT := Lib.hid ht
  have hn1 := hss.n
  have hn2 := hts.n
  have HDt := Lib.hid h.d.2
  clear h hs ht hss hts hbi hbs hb0 hsi hss2 hSs hbt hst2 hSt
  unfold stV
  go_enter Tryz.func6, Tryz.ntmps6
  go_wp2_with fail
  rw [← hWi, ← hWs, ← hWt, ← hW0]
  clear hWi hWs hWt hW0 f0 f1 f2 f3 f4 f5
  refine HTk.out.mono ?_
  rintro e w1 ⟨hb1, rfl | ⟨mb, rb, rfl, hM⟩⟩
  · have HB1 := Lib.hid (Bel.tr HL.out.b hb1)
    clear hb1
    go_wp2_with fail
    refine (HLv.out _).mono ?_
    rintro e w2 ⟨rfl, hb2⟩
    have HB2 := Lib.hid (Bel.tr HB1.out hb2)
    clear hb2
    go_wp2_with fail
    go_ret
    exact ⟨rfl, HB2.out⟩
  have HL1 := Lib.hid (HL.out.below hb1)
  have hl3 : w.heap.size + 3 < W0.heap.size := World.block_lt_of_cell? W0 ⟨w.heap.size + 3, 0, none⟩ (cell_of_row W0 (w.heap.size + 3) 0 _ _ _ HTu.out)
  have HTu1 := Lib.hid ((hb1.block _ hl3).trans HTu.out)
  have HM1 := Lib.hid hM
  clear hb1 hM
  go_wp2_with fail
  refine (HLv.out _).mono ?_
  rintro e w2 ⟨rfl, hb2⟩
  have HL2 := Lib.hid (HL1.out.below hb2)
  have hl31 : w.heap.size + 3 < w1.heap.size := World.block_lt_of_cell? w1 ⟨w.heap.size + 3, 0, none⟩ (cell_of_row w1 (w.heap.size + 3) 0 _ _ _ HTu1.out)
  have HTu2 := Lib.hid ((hb2.block _ hl31).trans HTu1.out)
  have hl2 : w.heap.size + 3 < w2.heap.size := Nat.lt_of_lt_of_le hl31 hb2.size
  have HM2 := Lib.hid (HM1.out.below hb2)
  clear hb2
  obtain ⟨-, ⟨a0, a1, a2, a3, a4, a5, a6⟩, ⟨b0, b1, b2, b3, b4, b5, b6⟩⟩ := HL2.out
  have t0 := cell_of_row w2 (w.heap.size + 3) 0 _ _ _ HTu2.out
  have t1 := cell_of_row w2 (w.heap.size + 3) 1 _ _ _ HTu2.out
  have HSv := Lib.hid (save_any HM2.out (HT.out.below HL2.out.b) hn2)
  unfold SavePost stV at HSv
  by_cases hz : by_ = 0
  · subst hz
    go_wp2_with fail
    go_ret
    exact ⟨rfl, HL2.out.b⟩
  have hbz : ((by_ : Int) == 0) = false := int_beq_ne (a := by_) (b := 0) hz
  by_cases ft : (moOf m).fits t = true
  · have HFt := Lib.hid ft
    clear ft
    go_wp2_with fail
    refine HSv.out.mono ?_
    rintro e w3 ⟨hb3, ⟨hf, -⟩ | ⟨-, v, rfl, hov⟩⟩
    · rw [HFt.out] at hf; cases hf
    have HL3 := Lib.hid (HL2.out.below hb3)
    have HM3 := Lib.hid (HM2.out.below hb3)
    have HTu3 := Lib.hid (row_later HTu2.out hb3)
    have hlt := save_lt (m := moOf m) HT.out.sm (by rw [fresh_length (moOk HM3.out.k), fits_len HFt.out])
    have HVs := Lib.hid (own_bytes hov hlt)
    have HSl := Lib.hid (save_le HM3.out.k HFt.out)
    have HS48 := Lib.hid (save_length (moOf m) t)
    have HSk := Lib.hid (look_save (m := moOf m) (digN_lt HM3.out.k.k) t)
    obtain ⟨av, cv, rfl, -⟩ := own_sl hov
    have HDl := Lib.hid (delta_any HM3.out (HS.out.below HL3.out.b) (HT.out.below HL3.out.b) hn1 hn2)
    unfold DeltaPost stV at HDl
    clear hb3 hov hlt HSv
    generalize saveN (moOf m) t = bs at *
    clear a0 a1 a2 a3 a4 a5 a6 b0 b1 b2 b3 b4 b5 b6 t0 t1
    obtain ⟨-, ⟨a0, a1, a2, a3, a4, a5, a6⟩, ⟨b0, b1, b2, b3, b4, b5, b6⟩⟩ := HL3.out
    have t0 := cell_of_row w3 (w.heap.size + 3) 0 _ _ _ HTu3.out
    have t1 := cell_of_row w3 (w.heap.size + 3) 1 _ _ _ HTu3.out
    by_cases fs : (moOf m).fits s = true
    · have HFs := Lib.hid fs
      clear fs
      go_wp2_with fail
      refine HDl.out.mono ?_
      rintro e w4 ⟨hb4, ⟨hf, -⟩ | ⟨-, -, v, rfl, hov⟩⟩
      · rw [HFs.out, HFt.out] at hf; cases hf
      have HL4 := Lib.hid (HL3.out.below hb4)
      have HM4 := Lib.hid (HM3.out.below hb4)
      have HTu4 := Lib.hid (row_later HTu3.out hb4)
      have hlt := delta_lt (m := moOf m) (a := s) HT.out.sm (by rw [fits_len HFs.out, fits_len HFt.out])
      have HVd := Lib.hid (own_bytes hov hlt)
      have HSd := Lib.hid (delta_le HM4.out.k HFs.out HFt.out)
      have HD48 := Lib.hid (delta_ge (moOf m) s t)
      have HDk := Lib.hid (look_delta (m := moOf m) (digN_lt HM4.out.k.k) s t)
      obtain ⟨au, cu, rfl, -⟩ := own_sl hov
      have HRf := Lib.hid (refused_any HM4.out HDt.out (HS.out.below HL4.out.b) hn1 (HVs.out.below hb4) HSl.out (by have := HS48.out; omega) HSk.out at_ by_ hby hz)
      unfold stV at HRf
      clear hb4 hov hlt HDl
      generalize deltaN (moOf m) s t = ds at *
      clear a0 a1 a2 a3 a4 a5 a6 b0 b1 b2 b3 b4 b5 b6 t0 t1
      obtain ⟨-, ⟨a0, a1, a2, a3, a4, a5, a6⟩, ⟨b0, b1, b2, b3, b4, b5, b6⟩⟩ := HL4.out
      have t0 := cell_of_row w4 (w.heap.size + 3) 0 _ _ _ HTu4.out
      have t1 := cell_of_row w4 (w.heap.size + 3) 1 _ _ _ HTu4.out
      go_wp2_with fail
      refine HRf.out.mono ?_
      rintro e w5 ⟨rfl, hb5⟩
      have HL5 := Lib.hid (HL4.out.below hb5)
      have HTu5 := Lib.hid (row_later HTu4.out hb5)
      have HRd := Lib.hid (refused_any (HM4.out.below hb5) HDt.out (HS.out.below HL5.out.b) hn1 (HVd.out.below hb5) HSd.out (by have := HD48.out; omega) HDk.out at_ by_ hby hz)
      unfold stV at HRd
      clear hb5
      clear a0 a1 a2 a3 a4 a5 a6 b0 b1 b2 b3 b4 b5 b6 t0 t1
      obtain ⟨-, ⟨a0, a1, a2, a3, a4, a5, a6⟩, ⟨b0, b1, b2, b3, b4, b5, b6⟩⟩ := HL5.out
      have t0 := cell_of_row w5 (w.heap.size + 3) 0 _ _ _ HTu5.out
      have t1 := cell_of_row w5 (w.heap.size + 3) 1 _ _ _ HTu5.out
      go_wp2_with fail
      refine HRd.out.mono ?_
      rintro e w6 ⟨rfl, hb6⟩
      have HB6 := Lib.hid (Bel.tr HL5.out.b hb6)
      clear hb6
      go_wp2_with fail
      go_ret
      exact ⟨rfl, HB6.out⟩
    · have fs' : (moOf m).fits s = false := by simpa using fs
      have HFs := Lib.hid fs'
      clear fs fs'
      go_wp2_with fail
      refine HDl.out.mono ?_
      rintro e w4 ⟨hb4, ⟨-, rfl⟩ | ⟨hf, -⟩⟩
      · have HL4 := Lib.hid (HL3.out.below hb4)
        have HM4 := Lib.hid (HM3.out.below hb4)
        have HTu4 := Lib.hid (row_later HTu3.out hb4)
        have HRf := Lib.hid (refused_any HM4.out HDt.out (HS.out.below HL4.out.b) hn1 (HVs.out.below hb4) HSl.out (by have := HS48.out; omega) HSk.out at_ by_ hby hz)
        unfold stV at HRf
        clear hb4
        clear a0 a1 a2 a3 a4 a5 a6 b0 b1 b2 b3 b4 b5 b6 t0 t1
        obtain ⟨-, ⟨a0, a1, a2, a3, a4, a5, a6⟩, ⟨b0, b1, b2, b3, b4, b5, b6⟩⟩ := HL4.out
        have t0 := cell_of_row w4 (w.heap.size + 3) 0 _ _ _ HTu4.out
        have t1 := cell_of_row w4 (w.heap.size + 3) 1 _ _ _ HTu4.out
        go_wp2_with fail
        refine HRf.out.mono ?_
        rintro e w5 ⟨rfl, hb5⟩
        have HB5 := Lib.hid (Bel.tr HL4.out.b hb5)
        clear hb5
        go_wp2_with fail
        go_ret
        exact ⟨rfl, HB5.out⟩
      · rw [HFs.out] at hf; cases hf
  · have ft' : (moOf m).fits t = false := by simpa using ft
    have HFt := Lib.hid ft'
    clear ft ft'
    go_wp2_with fail
    refine HSv.out.mono ?_
    rintro e w3 ⟨hb3, ⟨-, rfl⟩ | ⟨hf, -⟩⟩
    · have HL3 := Lib.hid (HL2.out.below hb3)
      have HTu3 := Lib.hid (row_later HTu2.out hb3)
      have HDl := Lib.hid (delta_any (HM2.out.below hb3) (HS.out.below HL3.out.b) (HT.out.below HL3.out.b) hn1 hn2)
      unfold DeltaPost stV at HDl
      clear hb3 HSv
      clear a0 a1 a2 a3 a4 a5 a6 b0 b1 b2 b3 b4 b5 b6 t0 t1
      obtain ⟨-, ⟨a0, a1, a2, a3, a4, a5, a6⟩, ⟨b0, b1, b2, b3, b4, b5, b6⟩⟩ := HL3.out
      have t0 := cell_of_row w3 (w.heap.size + 3) 0 _ _ _ HTu3.out
      have t1 := cell_of_row w3 (w.heap.size + 3) 1 _ _ _ HTu3.out
      go_wp2_with fail
      refine HDl.out.mono ?_
      rintro e w4 ⟨hb4, ⟨-, rfl⟩ | ⟨-, hf, -⟩⟩
      · have HB4 := Lib.hid (Bel.tr HL3.out.b hb4)
        clear hb4
        go_wp2_with fail
        go_ret
        exact ⟨rfl, HB4.out⟩
      · rw [HFt.out] at hf; cases hf
    · rw [HFt.out] at hf; cases hf
set_option maxRecDepth 100000 in
set_option maxHeartbeats 8000000 in
theorem saveShort_walk (vc vj vk vn : Value) (m : Img) (w : World) (h : ImgAt w vc vj vk vn m) {vo vd uo ud : Value} {s t : St} (hs : StAt w vo vd s) (ht : StAt w uo ud t) (hss : s.Sized) (hts : t.Sized) :
    Calls Tryz.prog 3 #[.agg #[vc, vj, vk, .int .u32 m.zero, .int .u32 m.stack, vn], stV vo vd s, stV uo ud t] w fun e w' => e = .returned (.bool true) ∧ Below w.heap.size w w' := by
  have hz51 := zeroQ51
  obtain ⟨ac, cc, rfl, -⟩ := h.c.1
  obtain ⟨aj, cj, rfl, -⟩ := h.j.1
  obtain ⟨ak, ck, rfl, -⟩ := h.d.1
  obtain ⟨an, cn, rfl, -⟩ := h.n.1
  obtain ⟨ao, co, rfl, -⟩ := hs.o.1
  obtain ⟨ad, cd, rfl, -⟩ := hs.d.1
  obtain ⟨bo, eo, rfl, -⟩ := ht.o.1
  obtain ⟨bd, ed, rfl, -⟩ := ht.d.1
  obtain ⟨Wi, hWi⟩ : ∃ Wi, Wi = w.alloc (.cells #[.slice ac m.code.length cc, .slice aj m.js.length cj, .slice ak m.data.length ck, .int .u32 m.zero, .int .u32 m.stack, .slice an m.lx.length cn] 28) := ⟨_, rfl⟩
  have hbi : Below w.heap.size w Wi := by rw [hWi]; exact Bel.new _ _
  have hsi : Wi.heap.size = w.heap.size + 1 := by rw [hWi]; simp
  obtain ⟨Ws, hWs⟩ : ∃ Ws, Ws = Wi.alloc (.cells #[.int .u8 s.life, .int .u32 s.pc, .int .u32 s.sp, .slice ao s.ops.length co, .slice ad s.data.length cd, .int .u32 s.value, .int .u8 s.fault] 32) := ⟨_, rfl⟩
  have hbs : Below Wi.heap.size Wi Ws := by rw [hWs]; exact Bel.new _ _
  have hSs : StB Ws (w.heap.size + 1) (.slice ao s.ops.length co) (.slice ad s.data.length cd) s := StB.row (by rw [hWs, ← hsi]; exact heap_alloc_new _ _)
  have hss2 : Ws.heap.size = w.heap.size + 2 := by rw [hWs]; simp [hsi]
  obtain ⟨W0, hW0⟩ : ∃ W0, W0 = Ws.alloc (.cells #[.int .u8 t.life, .int .u32 t.pc, .int .u32 t.sp, .slice bo t.ops.length eo, .slice bd t.data.length ed, .int .u32 t.value, .int .u8 t.fault] 32) := ⟨_, rfl⟩
  have hb0 : Below Ws.heap.size Ws W0 := by rw [hW0]; exact Bel.new _ _
  have HL := Lib.hid (show LwB w W0 (w.heap.size + 1) (w.heap.size + 2) (.slice ao s.ops.length co) (.slice ad s.data.length cd) (.slice bo t.ops.length eo) (.slice bd t.data.length ed) s t from
    ⟨Bel.tr (Bel.tr hbi hbs) hb0, hSs.below hb0, StB.row (by rw [hW0, ← hss2]; exact heap_alloc_new _ _)⟩)
  obtain ⟨f0, f1, f2, f3, f4, f5⟩ := cells_new6 w (.slice ac m.code.length cc) (.slice aj m.js.length cj) (.slice ak m.data.length ck) (.int .u32 m.zero) (.int .u32 m.stack) (.slice an m.lx.length cn) 28
  have HTk := Lib.hid (lawtaken_any _ _ _ _ m W0 (h.below HL.out.b))
  unfold LawPost at HTk
  have HLv := Lib.hid (fun W => lives_any W)
  have HS := Lib.hid hs
  have HT := Lib.hid ht
  have hn1 := hss.n
  have hn2 := hts.n
  have HDt := Lib.hid h.d.2
  clear h hs ht hss hts hbi hbs hb0 hsi hss2 hSs
  unfold stV
  go_enter Tryz.func3, Tryz.ntmps3
  go_wp2_with fail
  rw [← hWi, ← hWs, ← hW0]
  clear hWi hWs hW0 f0 f1 f2 f3 f4 f5
  refine HTk.out.mono ?_
  rintro e w1 ⟨hb1, rfl | ⟨mb, rb, rfl, hM⟩⟩
  · have HB1 := Lib.hid (Bel.tr HL.out.b hb1)
    clear hb1
    go_wp2_with fail
    refine (HLv.out _).mono ?_
    rintro e w2 ⟨rfl, hb2⟩
    have HB2 := Lib.hid (Bel.tr HB1.out hb2)
    clear hb2
    go_wp2_with fail
    go_ret
    exact ⟨rfl, HB2.out⟩
  have HL1 := Lib.hid (HL.out.below hb1)
  have HM1 := Lib.hid hM
  clear hb1 hM
  go_wp2_with fail
  refine (HLv.out _).mono ?_
  rintro e w2 ⟨rfl, hb2⟩
  have HL2 := Lib.hid (HL1.out.below hb2)
  have HM2 := Lib.hid (HM1.out.below hb2)
  clear hb2
  obtain ⟨-, ⟨a0, a1, a2, a3, a4, a5, a6⟩, ⟨b0, b1, b2, b3, b4, b5, b6⟩⟩ := HL2.out
  have HF2 := Lib.hid (fits_any HM2.out (HS.out.below HL2.out.b) hn1)
  unfold stV at HF2
  rcases Classical.em ((moOf m).fits s = true) with fs | fs
  rotate_left
  · have fs' : (moOf m).fits s = false := by simpa using fs
    rw [fs'] at HF2
    clear fs fs'
    go_wp2_with fail
    refine HF2.out.mono ?_
    rintro e w3 ⟨rfl, hb3⟩
    have HB3 := Lib.hid (Bel.tr HL2.out.b hb3)
    clear hb3
    go_wp2_with fail
    go_ret
    exact ⟨rfl, HB3.out⟩
  rw [fs] at HF2
  have HFs := Lib.hid fs
  clear fs
  go_wp2_with fail
  refine HF2.out.mono ?_
  rintro e w3 ⟨rfl, hb3⟩
  have HL3 := Lib.hid (HL2.out.below hb3)
  have HM3 := Lib.hid (HM2.out.below hb3)
  have HF3 := Lib.hid (fits_any HM3.out (HT.out.below HL3.out.b) hn2)
  unfold stV at HF3
  clear hb3 HF2
  clear a0 a1 a2 a3 a4 a5 a6 b0 b1 b2 b3 b4 b5 b6
  obtain ⟨-, ⟨a0, a1, a2, a3, a4, a5, a6⟩, ⟨b0, b1, b2, b3, b4, b5, b6⟩⟩ := HL3.out
  rcases Classical.em ((moOf m).fits t = true) with ft | ft
  rotate_left
  · have ft' : (moOf m).fits t = false := by simpa using ft
    rw [ft'] at HF3
    clear ft ft'
    go_wp2_with fail
    refine HF3.out.mono ?_
    rintro e w4 ⟨rfl, hb4⟩
    have HB4 := Lib.hid (Bel.tr HL3.out.b hb4)
    clear hb4
    go_wp2_with fail
    go_ret
    exact ⟨rfl, HB4.out⟩
  rw [ft] at HF3
  have HFt := Lib.hid ft
  clear ft
  go_wp2_with fail
  refine HF3.out.mono ?_
  rintro e w4 ⟨rfl, hb4⟩
  have HL4 := Lib.hid (HL3.out.below hb4)
  have HM4 := Lib.hid (HM3.out.below hb4)
  have HFr := Lib.hid (fresh_any HM4.out)
  unfold FreshPost at HFr
  clear hb4 HF3
  clear a0 a1 a2 a3 a4 a5 a6 b0 b1 b2 b3 b4 b5 b6
  go_wp2_with fail
  refine HFr.out.mono ?_
  rintro e w5 ⟨vd, rfl, hod, hb5⟩
  have hk := HM4.out.k
  have hSm := fst_small (moOk hk) HDt.out
  have hlf : (moOf m).fst.data.length = 2 ^ bitsI m := fresh_len hk
  have HFf := Lib.hid (fits_fst (moOk hk))
  have HSt5 := Lib.hid (show StAt w5 (.slice none 0 0) vd (moOf m).fst from ⟨⟨Reads.nil _ _, fun k => by show ([] : List Nat).getD k 0 < _; simp⟩, own_bytes hod hSm.d, hSm⟩)
  obtain ⟨ad5, cd5, rfl, -⟩ := own_sl hod
  have HSF := Lib.hid (save_fresh (moOf m) t)
  have hN16 : 2 ^ bitsI m ≤ 65536 := (Mo.Ok.sizes (moOk hk)).2.1
  have HFn := Lib.hid (show (moOf m).fst.ops.length ≤ 140737488355328 from by show ([] : List Nat).length ≤ _; simp)
  generalize (moOf m).fst = F at *
  generalize 2 ^ bitsI m = N at *
  obtain ⟨W5, hW5⟩ : ∃ W5, W5 = w5.alloc (.cells #[.int .u8 F.life, .int .u32 F.pc, .int .u32 F.sp, .slice none 0 0, .slice ad5 N cd5, .int .u32 F.value, .int .u8 F.fault] 32) := ⟨_, rfl⟩
  have hbb : Below w5.heap.size w5 W5 := by rw [hW5]; exact Bel.new _ _
  have HC5 := Lib.hid (show StB W5 w5.heap.size (.slice none 0 0) (.slice ad5 N cd5) F from StB.row (by rw [hW5]; exact heap_alloc_new _ _))
  have HL5p := Lib.hid (HL4.out.below hb5)
  have HL5 := Lib.hid (HL5p.out.below hbb)
  have HM5 := Lib.hid ((HM4.out.below hb5).below hbb)
  have HO5 := Lib.hid (HSt5.out.below hbb)
  have hq1 := World.block_lt_of_cell? _ _ HL5p.out.s.c0
  have hq2 := World.block_lt_of_cell? _ _ HL5p.out.t.c0
  have HD1 := Lib.hid (delta_any HM5.out (HS.out.below HL5.out.b) (HS.out.below HL5.out.b) hn1 hn1)
  unfold DeltaPost stV at HD1
  obtain ⟨-, ⟨a0, a1, a2, a3, a4, a5, a6⟩, ⟨b0, b1, b2, b3, b4, b5, b6⟩⟩ := HL5p.out
  unfold stV
  clear hb5 hbb hod hSm hlf HFr
  go_wp2_with fail
  rw [← hW5]
  clear hW5
  clear a0 a1 a2 a3 a4 a5 a6 b0 b1 b2 b3 b4 b5 b6
  refine HD1.out.mono ?_
  rintro e w6 ⟨hb6, ⟨hf, -⟩ | ⟨-, -, v, rfl, hov6⟩⟩
  · rw [HFs.out] at hf; cases hf
  have HL6 := Lib.hid (HL5.out.below hb6)
  have HM6 := Lib.hid (HM5.out.below hb6)
  rw [delta_self] at hov6
  obtain ⟨a6v, c6v, rfl, -⟩ := own_sl hov6
  have HD2 := Lib.hid (delta_any HM6.out (HS.out.below HL6.out.b) (HT.out.below HL6.out.b) hn1 hn2)
  unfold DeltaPost stV at HD2
  have HC6 := Lib.hid (HC5.out.below hb6)
  have HO6 := Lib.hid (HO5.out.below hb6)
  clear hb6 hov6 HD1
  obtain ⟨-, ⟨a0, a1, a2, a3, a4, a5, a6⟩, ⟨b0, b1, b2, b3, b4, b5, b6⟩⟩ := HL6.out
  go_wp2_with fail
  refine HD2.out.mono ?_
  rintro e w7 ⟨hb7, ⟨hf, -⟩ | ⟨-, -, v, rfl, hov7⟩⟩
  · rw [HFs.out, HFt.out] at hf; cases hf
  have HL7 := Lib.hid (HL6.out.below hb7)
  have HM7 := Lib.hid (HM6.out.below hb7)
  obtain ⟨a7v, c7v, rfl, -⟩ := own_sl hov7
  have HSv := Lib.hid (save_any HM7.out (HT.out.below HL7.out.b) hn2)
  unfold SavePost stV at HSv
  have HC7 := Lib.hid (HC6.out.below hb7)
  have HO7 := Lib.hid (HO6.out.below hb7)
  have HLd := Lib.hid (delta_ge (moOf m) s t)
  have HLdu := Lib.hid (delta_le hk HFs.out HFt.out)
  clear hb7 hov7 HD2
  clear a0 a1 a2 a3 a4 a5 a6 b0 b1 b2 b3 b4 b5 b6
  generalize (deltaN (moOf m) s t).length = Ld at *
  obtain ⟨-, ⟨a0, a1, a2, a3, a4, a5, a6⟩, ⟨b0, b1, b2, b3, b4, b5, b6⟩⟩ := HL7.out
  go_wp2_with fail
  refine HSv.out.mono ?_
  rintro e w8 ⟨hb8, ⟨hf, -⟩ | ⟨-, v, rfl, hov8⟩⟩
  · rw [HFt.out] at hf; cases hf
  have HL8 := Lib.hid (HL7.out.below hb8)
  have HM8 := Lib.hid (HM7.out.below hb8)
  have hlt8 := save_lt (m := moOf m) HT.out.sm (by rw [fresh_length (moOk hk), fits_len HFt.out])
  have HVs := Lib.hid (own_bytes hov8 hlt8)
  have HSl := Lib.hid (save_le hk HFt.out)
  obtain ⟨a8v, c8v, rfl, hc8, -, hp8⟩ := own_sl hov8
  have HD3 := Lib.hid (delta_any HM8.out (HO7.out.below hb8) (HT.out.below HL8.out.b) HFn.out hn2)
  unfold DeltaPost stV at HD3
  have HC8 := Lib.hid (HC7.out.below hb8)
  obtain ⟨c0, c1, c2, c3, c4, c5, c6⟩ := HC8.out
  obtain ⟨s1, s2, s3, s4⟩ := HSF.out
  obtain ⟨g8, rfl, hg8⟩ := hp8 (by omega)
  have HS1 := Lib.hid s1
  have HS2 := Lib.hid s2
  have HS3 := Lib.hid s3
  have HS4 := Lib.hid s4
  clear hb8 hov8 HSv hlt8 s1 s2 s3 s4 hp8
  clear a0 a1 a2 a3 a4 a5 a6 b0 b1 b2 b3 b4 b5 b6
  obtain ⟨-, ⟨a0, a1, a2, a3, a4, a5, a6⟩, ⟨b0, b1, b2, b3, b4, b5, b6⟩⟩ := HL8.out
  go_wp2_with fail
  refine HD3.out.mono ?_
  rintro e w9 ⟨hb9, ⟨hf, -⟩ | ⟨-, -, v, rfl, hov9⟩⟩
  · rw [HFf.out, HFt.out] at hf; cases hf
  have HL9 := Lib.hid (HL8.out.below hb9)
  have hlt9 := delta_lt (m := moOf m) (a := F) HT.out.sm (by rw [fits_len HFf.out, fits_len HFt.out])
  have HVc := Lib.hid (own_bytes hov9 hlt9)
  have HVs9 := Lib.hid (HVs.out.below hb9)
  rw [← HS3.out] at hov9
  obtain ⟨a9v, c9v, rfl, hc9, -, hp9⟩ := own_sl hov9
  obtain ⟨g9, rfl, hg9⟩ := hp9 (by have := HS4.out; omega)
  clear hb9 hov9 hlt9 hp9 c0 c1 c2 c3 c4 c5 c6
  clear a0 a1 a2 a3 a4 a5 a6 b0 b1 b2 b3 b4 b5 b6
  obtain ⟨-, ⟨a0, a1, a2, a3, a4, a5, a6⟩, ⟨b0, b1, b2, b3, b4, b5, b6⟩⟩ := HL9.out
  have hmx := mfollows
  have hL48 := HS4.out
  rw [HS3.out] at HVc
  have P1 := Lib.hid (show Bytes w9 (.slice (some ⟨g8, 28, none⟩) ((saveN (moOf m) t).length - 28) (c8v - 28)) ((saveN (moOf m) t).drop 28) from bytes_drop HVs9.out 28 (by omega))
  have P2 := Lib.hid (show Bytes w9 (.slice (some ⟨g8, 0, none⟩) 16 c8v) ((saveN (moOf m) t).take 16) from bytes_part HVs9.out 0 16 (by omega))
  have P3 := Lib.hid (show Bytes w9 (.slice (some ⟨g9, 28, none⟩) ((deltaN (moOf m) F t).length - 28) (c9v - 28)) ((deltaN (moOf m) F t).drop 28) from bytes_drop HVc.out 28 (by rw [← HS3.out]; omega))
  have P4 := Lib.hid (show Bytes w9 (.slice (some ⟨g9, 0, none⟩) 16 c9v) ((deltaN (moOf m) F t).take 16) from bytes_part HVc.out 0 16 (by rw [← HS3.out]; omega))
  rw [← HS3.out] at P3
  have HSb1 : Hid (∀ T : BelW w9, Calls Tryz.prog 13 #[.slice (some ⟨g8, 28, none⟩) ((saveN (moOf m) t).length - 28) (c8v - 28), .slice (some ⟨g9, 28, none⟩) ((saveN (moOf m) t).length - 28) (c9v - 28)] T.val fun e w' => e = .returned (.bool true) ∧ ∃ S : BelW w9, w' = S.val) := Lib.hid (fun T => by
    have := sameBytes_any (P1.out.below T.2) (P3.out.below T.2)
    rw [show decide (List.drop 28 (saveN (moOf m) t) = List.drop 28 (deltaN (moOf m) F t)) = true from decide_eq_true HS1.out] at this
    exact this.mono fun e w' h => ⟨h.1, BelW.to T h.2⟩)
  have HSb2 : Hid (∀ T : BelW w9, Calls Tryz.prog 13 #[.slice (some ⟨g8, 0, none⟩) 16 c8v, .slice (some ⟨g9, 0, none⟩) 16 c9v] T.val fun e w' => e = .returned (.bool true) ∧ ∃ S : BelW w9, w' = S.val) := Lib.hid (fun T => by
    have := sameBytes_any (P2.out.below T.2) (P4.out.below T.2)
    rw [show decide (List.take 16 (saveN (moOf m) t) = List.take 16 (deltaN (moOf m) F t)) = true from decide_eq_true HS2.out] at this
    exact this.mono fun e w' h => ⟨h.1, BelW.to T h.2⟩)
  have hLu := HSl.out
  have HBw := Lib.hid HL9.out.b
  generalize (saveN (moOf m) t).length = LB at *
  have hB1 : ¬ (LB : Int) < 48 := by omega
  have hw4 : IntKind.i64.wrap (4 * (s.ops.length : Int)) = 4 * (s.ops.length : Int) := IntWalk.i64_in _ (by omega)
  have hw5 : IntKind.i64.wrap (48 + 4 * (s.ops.length : Int)) = 48 + 4 * (s.ops.length : Int) := IntWalk.i64_in _ (by omega)
  have hne : Nonempty (BelW w9) := ⟨⟨w9, Below.refl _ _⟩⟩
  have T3 := BelW.cell a3
  have U3 := BelW.cell b3
  have q1 : (28 : Int) ≤ (LB : Int) := by omega
  have q2 : (16 : Int) ≤ (c8v : Int) := by omega
  have q3 : (16 : Int) ≤ (c9v : Int) := by omega
  have q4 : (LB : Int) ≤ (c8v : Int) := by omega
  have q5 : (LB : Int) ≤ (c9v : Int) := by omega
  have q6 : ¬ c8v = 28 := by omega
  have q7 : ¬ c9v = 28 := by omega
  clear a0 a1 a2 a4 a5 a6 b0 b1 b2 b4 b5 b6
  by_cases hlen : s.ops.length = t.ops.length
  · have hl1 : ((s.ops.length : Int) != (t.ops.length : Int)) = false := by rw [hlen]; simp
    have hle : 48 + 4 * (t.ops.length : Int) ≤ (Ld : Int) := by have h1 := HLd.out; omega
    have hld := decide_eq_true hle
    go_wp2_with fail
    refine wp_region_quietB hmx (by kernel_rfl) ?_
    repeat (go_big_quiet_step (first | (go_at_call 13; with_reducible exact HSb1.out _) | (go_at_call 13; with_reducible exact HSb2.out _)))
    refine wpQuiet_nil ?_
    rintro w10 ⟨⟨w11, hb11⟩, rfl⟩
    have HB11 := Lib.hid (Bel.tr HBw.out hb11)
    clear hb11
    go_wp2_with fail
    go_ret
    exact ⟨rfl, HB11.out⟩
  · have hl1 : ((s.ops.length : Int) != (t.ops.length : Int)) = true := by
      rw [bne, int_beq_ne hlen]; rfl
    go_wp2_with fail
    refine wp_region_quietB hmx (by kernel_rfl) ?_
    repeat (go_big_quiet_step (first | (go_at_call 13; with_reducible exact HSb1.out _) | (go_at_call 13; with_reducible exact HSb2.out _)))
    refine wpQuiet_nil ?_
    rintro w10 ⟨⟨w11, hb11⟩, rfl⟩
    have HB11 := Lib.hid (Bel.tr HBw.out hb11)
    clear hb11
    go_wp2_with fail
    go_ret
    exact ⟨rfl, HB11.out⟩
end Go.Proofs.YtflpbgdghaaiaaaGreat
