import Derived.Test.YtmbdbpfjgicnpaaGreatNone2
/- The walk of RunNone. -/
namespace Go.Proofs.YtmbdbpfjgicnpaaGreat
open Go.RowKit
theorem machine0 : Tryz.zeroCells49[0]? = some (.pointer none) := by kernel_rfl
theorem list_build (p : Addr) (w : World) : (Instr.buildSlice 50 2 #[(0, .pointer none), (1, .pointer (some p))]).run Tryz.prog w = .ok (.slice (some ⟨w.heap.size, 0, none⟩) 2 2) (w.alloc (.cells #[.pointer none, .pointer (some p)] 36)) := by kernel_rfl
set_option maxRecDepth 100000 in
set_option maxHeartbeats 8000000 in
theorem runNone_walk (x0 x1 x2 x3 x4 x7 x8 x9 x12 x13 : Int) (a5 a6 a10 a11 : Option Addr) (n5 c5 n6 c6 n10 c10 n11 c11 : Nat) (ga : Option Addr) (gn gc : Nat) (w : World) : Calls Tryz.prog 3 #[.agg #[.int .i64 x0, .int .i64 x1, .int .i64 x2, .int .i64 x3, .int .u32 x4, .slice a5 n5 c5, .slice a6 n6 c6, .int .u8 x7, .int .u32 x8, .int .u32 x9, .slice a10 n10 c10, .slice a11 n11 c11, .int .u32 x12, .int .u8 x13], .slice ga gn gc] w fun e w' => e = .returned (.bool true) ∧ Below w.heap.size w w' := by
  have hlb := list_build
  have HN := Lib.hid (fun W => new_nil ga gn gc W)
  have HZ := Lib.hid (fun b W hW => new_zero b ga gn gc W hW)
  have hb35 : ((w.alloc (.cells #[.int .i64 x0, .int .i64 x1, .int .i64 x2, .int .i64 x3, .int .u32 x4, .slice a5 n5 c5, .slice a6 n6 c6, .int .u8 x7, .int .u32 x8, .int .u32 x9, .slice a10 n10 c10, .slice a11 n11 c11, .int .u32 x12, .int .u8 x13] 31)).alloc (.cells #[.pointer none] 35)).cell? ⟨w.heap.size + 1, 0, none⟩ = some (.pointer none) := by simp [go_sem]
  have p0 : ((w.alloc (.cells #[.int .i64 x0, .int .i64 x1, .int .i64 x2, .int .i64 x3, .int .u32 x4, .slice a5 n5 c5, .slice a6 n6 c6, .int .u8 x7, .int .u32 x8, .int .u32 x9, .slice a10 n10 c10, .slice a11 n11 c11, .int .u32 x12, .int .u8 x13] 31)).alloc (.cells #[.pointer none] 35)).cell? ⟨w.heap.size, 0, none⟩ = some (.int .i64 x0) := by simp [go_sem]
  have p1 : ((w.alloc (.cells #[.int .i64 x0, .int .i64 x1, .int .i64 x2, .int .i64 x3, .int .u32 x4, .slice a5 n5 c5, .slice a6 n6 c6, .int .u8 x7, .int .u32 x8, .int .u32 x9, .slice a10 n10 c10, .slice a11 n11 c11, .int .u32 x12, .int .u8 x13] 31)).alloc (.cells #[.pointer none] 35)).cell? ⟨w.heap.size, 1, none⟩ = some (.int .i64 x1) := by simp [go_sem]
  have p2 : ((w.alloc (.cells #[.int .i64 x0, .int .i64 x1, .int .i64 x2, .int .i64 x3, .int .u32 x4, .slice a5 n5 c5, .slice a6 n6 c6, .int .u8 x7, .int .u32 x8, .int .u32 x9, .slice a10 n10 c10, .slice a11 n11 c11, .int .u32 x12, .int .u8 x13] 31)).alloc (.cells #[.pointer none] 35)).cell? ⟨w.heap.size, 2, none⟩ = some (.int .i64 x2) := by simp [go_sem]
  have p3 : ((w.alloc (.cells #[.int .i64 x0, .int .i64 x1, .int .i64 x2, .int .i64 x3, .int .u32 x4, .slice a5 n5 c5, .slice a6 n6 c6, .int .u8 x7, .int .u32 x8, .int .u32 x9, .slice a10 n10 c10, .slice a11 n11 c11, .int .u32 x12, .int .u8 x13] 31)).alloc (.cells #[.pointer none] 35)).cell? ⟨w.heap.size, 3, none⟩ = some (.int .i64 x3) := by simp [go_sem]
  have p4 : ((w.alloc (.cells #[.int .i64 x0, .int .i64 x1, .int .i64 x2, .int .i64 x3, .int .u32 x4, .slice a5 n5 c5, .slice a6 n6 c6, .int .u8 x7, .int .u32 x8, .int .u32 x9, .slice a10 n10 c10, .slice a11 n11 c11, .int .u32 x12, .int .u8 x13] 31)).alloc (.cells #[.pointer none] 35)).cell? ⟨w.heap.size, 4, none⟩ = some (.int .u32 x4) := by simp [go_sem]
  have p5 : ((w.alloc (.cells #[.int .i64 x0, .int .i64 x1, .int .i64 x2, .int .i64 x3, .int .u32 x4, .slice a5 n5 c5, .slice a6 n6 c6, .int .u8 x7, .int .u32 x8, .int .u32 x9, .slice a10 n10 c10, .slice a11 n11 c11, .int .u32 x12, .int .u8 x13] 31)).alloc (.cells #[.pointer none] 35)).cell? ⟨w.heap.size, 5, none⟩ = some (.slice a5 n5 c5) := by simp [go_sem]
  have p6 : ((w.alloc (.cells #[.int .i64 x0, .int .i64 x1, .int .i64 x2, .int .i64 x3, .int .u32 x4, .slice a5 n5 c5, .slice a6 n6 c6, .int .u8 x7, .int .u32 x8, .int .u32 x9, .slice a10 n10 c10, .slice a11 n11 c11, .int .u32 x12, .int .u8 x13] 31)).alloc (.cells #[.pointer none] 35)).cell? ⟨w.heap.size, 6, none⟩ = some (.slice a6 n6 c6) := by simp [go_sem]
  have p7 : ((w.alloc (.cells #[.int .i64 x0, .int .i64 x1, .int .i64 x2, .int .i64 x3, .int .u32 x4, .slice a5 n5 c5, .slice a6 n6 c6, .int .u8 x7, .int .u32 x8, .int .u32 x9, .slice a10 n10 c10, .slice a11 n11 c11, .int .u32 x12, .int .u8 x13] 31)).alloc (.cells #[.pointer none] 35)).cell? ⟨w.heap.size, 7, none⟩ = some (.int .u8 x7) := by simp [go_sem]
  have p8 : ((w.alloc (.cells #[.int .i64 x0, .int .i64 x1, .int .i64 x2, .int .i64 x3, .int .u32 x4, .slice a5 n5 c5, .slice a6 n6 c6, .int .u8 x7, .int .u32 x8, .int .u32 x9, .slice a10 n10 c10, .slice a11 n11 c11, .int .u32 x12, .int .u8 x13] 31)).alloc (.cells #[.pointer none] 35)).cell? ⟨w.heap.size, 8, none⟩ = some (.int .u32 x8) := by simp [go_sem]
  have p9 : ((w.alloc (.cells #[.int .i64 x0, .int .i64 x1, .int .i64 x2, .int .i64 x3, .int .u32 x4, .slice a5 n5 c5, .slice a6 n6 c6, .int .u8 x7, .int .u32 x8, .int .u32 x9, .slice a10 n10 c10, .slice a11 n11 c11, .int .u32 x12, .int .u8 x13] 31)).alloc (.cells #[.pointer none] 35)).cell? ⟨w.heap.size, 9, none⟩ = some (.int .u32 x9) := by simp [go_sem]
  have p10 : ((w.alloc (.cells #[.int .i64 x0, .int .i64 x1, .int .i64 x2, .int .i64 x3, .int .u32 x4, .slice a5 n5 c5, .slice a6 n6 c6, .int .u8 x7, .int .u32 x8, .int .u32 x9, .slice a10 n10 c10, .slice a11 n11 c11, .int .u32 x12, .int .u8 x13] 31)).alloc (.cells #[.pointer none] 35)).cell? ⟨w.heap.size, 10, none⟩ = some (.slice a10 n10 c10) := by simp [go_sem]
  have p11 : ((w.alloc (.cells #[.int .i64 x0, .int .i64 x1, .int .i64 x2, .int .i64 x3, .int .u32 x4, .slice a5 n5 c5, .slice a6 n6 c6, .int .u8 x7, .int .u32 x8, .int .u32 x9, .slice a10 n10 c10, .slice a11 n11 c11, .int .u32 x12, .int .u8 x13] 31)).alloc (.cells #[.pointer none] 35)).cell? ⟨w.heap.size, 11, none⟩ = some (.slice a11 n11 c11) := by simp [go_sem]
  have p12 : ((w.alloc (.cells #[.int .i64 x0, .int .i64 x1, .int .i64 x2, .int .i64 x3, .int .u32 x4, .slice a5 n5 c5, .slice a6 n6 c6, .int .u8 x7, .int .u32 x8, .int .u32 x9, .slice a10 n10 c10, .slice a11 n11 c11, .int .u32 x12, .int .u8 x13] 31)).alloc (.cells #[.pointer none] 35)).cell? ⟨w.heap.size, 12, none⟩ = some (.int .u32 x12) := by simp [go_sem]
  have p13 : ((w.alloc (.cells #[.int .i64 x0, .int .i64 x1, .int .i64 x2, .int .i64 x3, .int .u32 x4, .slice a5 n5 c5, .slice a6 n6 c6, .int .u8 x7, .int .u32 x8, .int .u32 x9, .slice a10 n10 c10, .slice a11 n11 c11, .int .u32 x12, .int .u8 x13] 31)).alloc (.cells #[.pointer none] 35)).cell? ⟨w.heap.size, 13, none⟩ = some (.int .u8 x13) := by simp [go_sem]
  have HB := Lib.hid (Bel.al (Bel.new w (.cells #[.int .i64 x0, .int .i64 x1, .int .i64 x2, .int .i64 x3, .int .u32 x4, .slice a5 n5 c5, .slice a6 n6 c6, .int .u8 x7, .int .u32 x8, .int .u32 x9, .slice a10 n10 c10, .slice a11 n11 c11, .int .u32 x12, .int .u8 x13] 31)) (.cells #[.pointer none] 35))
  go_enter Tryz.func3, Tryz.ntmps3
  go_wp2_with fail
  refine (HN.out _).mono ?_
  rintro e w1 ⟨rfl, hb1⟩
  have hb35 := (hb1.cell (p := ⟨w.heap.size + 1, 0, none⟩) (by simp)).trans hb35
  have p0 := (hb1.cell (p := ⟨w.heap.size, 0, none⟩) (by simp; omega)).trans p0
  have p1 := (hb1.cell (p := ⟨w.heap.size, 1, none⟩) (by simp; omega)).trans p1
  have p2 := (hb1.cell (p := ⟨w.heap.size, 2, none⟩) (by simp; omega)).trans p2
  have p3 := (hb1.cell (p := ⟨w.heap.size, 3, none⟩) (by simp; omega)).trans p3
  have p4 := (hb1.cell (p := ⟨w.heap.size, 4, none⟩) (by simp; omega)).trans p4
  have p5 := (hb1.cell (p := ⟨w.heap.size, 5, none⟩) (by simp; omega)).trans p5
  have p6 := (hb1.cell (p := ⟨w.heap.size, 6, none⟩) (by simp; omega)).trans p6
  have p7 := (hb1.cell (p := ⟨w.heap.size, 7, none⟩) (by simp; omega)).trans p7
  have p8 := (hb1.cell (p := ⟨w.heap.size, 8, none⟩) (by simp; omega)).trans p8
  have p9 := (hb1.cell (p := ⟨w.heap.size, 9, none⟩) (by simp; omega)).trans p9
  have p10 := (hb1.cell (p := ⟨w.heap.size, 10, none⟩) (by simp; omega)).trans p10
  have p11 := (hb1.cell (p := ⟨w.heap.size, 11, none⟩) (by simp; omega)).trans p11
  have p12 := (hb1.cell (p := ⟨w.heap.size, 12, none⟩) (by simp; omega)).trans p12
  have p13 := (hb1.cell (p := ⟨w.heap.size, 13, none⟩) (by simp; omega)).trans p13
  have HB := Lib.hid (Bel.tr HB.out hb1)
  clear hb1 HN
  generalize hbare : w.heap.size + 1 = bare at *
  have hp1 : w.heap.size < w1.heap.size := World.block_lt_of_cell? _ _ p0
  go_wp2_with fail
  refine (HZ.out _ _ hb35).mono ?_
  rintro e w2 ⟨rfl, hb2⟩
  have p0 := (hb2.cell (p := ⟨w.heap.size, 0, none⟩) hp1).trans p0
  have p1 := (hb2.cell (p := ⟨w.heap.size, 1, none⟩) hp1).trans p1
  have p2 := (hb2.cell (p := ⟨w.heap.size, 2, none⟩) hp1).trans p2
  have p3 := (hb2.cell (p := ⟨w.heap.size, 3, none⟩) hp1).trans p3
  have p4 := (hb2.cell (p := ⟨w.heap.size, 4, none⟩) hp1).trans p4
  have p5 := (hb2.cell (p := ⟨w.heap.size, 5, none⟩) hp1).trans p5
  have p6 := (hb2.cell (p := ⟨w.heap.size, 6, none⟩) hp1).trans p6
  have p7 := (hb2.cell (p := ⟨w.heap.size, 7, none⟩) hp1).trans p7
  have p8 := (hb2.cell (p := ⟨w.heap.size, 8, none⟩) hp1).trans p8
  have p9 := (hb2.cell (p := ⟨w.heap.size, 9, none⟩) hp1).trans p9
  have p10 := (hb2.cell (p := ⟨w.heap.size, 10, none⟩) hp1).trans p10
  have p11 := (hb2.cell (p := ⟨w.heap.size, 11, none⟩) hp1).trans p11
  have p12 := (hb2.cell (p := ⟨w.heap.size, 12, none⟩) hp1).trans p12
  have p13 := (hb2.cell (p := ⟨w.heap.size, 13, none⟩) hp1).trans p13
  have HB := Lib.hid (Bel.tr HB.out hb2)
  have hp2 := Nat.lt_of_lt_of_le hp1 hb2.size
  clear hb2 hb35 HZ hp1
  have hbx := Bel.al (Bel.new w2 (.cells Tryz.zeroCells49 49)) (.cells #[.pointer none, .pointer (some ⟨w2.heap.size, 0, none⟩)] 36)
  have m0 : ((w2.alloc (.cells Tryz.zeroCells49 49)).alloc (.cells #[.pointer none, .pointer (some ⟨w2.heap.size, 0, none⟩)] 36)).cell? ⟨w2.heap.size, 0, none⟩ = some (.pointer none) := by
    rw [World.cell?_of_block (a := ⟨w2.heap.size, 0, none⟩) (Below.heap_alloc _ _ w2.heap.size (by simp))]
    rw [show (w2.alloc (.cells Tryz.zeroCells49 49)).cell? ⟨w2.heap.size, 0, none⟩ = Tryz.zeroCells49[0]? from by simp [go_sem]]
    exact machine0
  have l0 : ((w2.alloc (.cells Tryz.zeroCells49 49)).alloc (.cells #[.pointer none, .pointer (some ⟨w2.heap.size, 0, none⟩)] 36)).cell? ⟨w2.heap.size + 1, 0, none⟩ = some (.pointer none) := by simp [go_sem]
  have l1 : ((w2.alloc (.cells Tryz.zeroCells49 49)).alloc (.cells #[.pointer none, .pointer (some ⟨w2.heap.size, 0, none⟩)] 36)).cell? ⟨w2.heap.size + 1, 1, none⟩ = some (.pointer (some ⟨w2.heap.size, 0, none⟩)) := by simp [go_sem]
  have p0 := (hbx.cell (p := ⟨w.heap.size, 0, none⟩) hp2).trans p0
  have p1 := (hbx.cell (p := ⟨w.heap.size, 1, none⟩) hp2).trans p1
  have p2 := (hbx.cell (p := ⟨w.heap.size, 2, none⟩) hp2).trans p2
  have p3 := (hbx.cell (p := ⟨w.heap.size, 3, none⟩) hp2).trans p3
  have p4 := (hbx.cell (p := ⟨w.heap.size, 4, none⟩) hp2).trans p4
  have p5 := (hbx.cell (p := ⟨w.heap.size, 5, none⟩) hp2).trans p5
  have p6 := (hbx.cell (p := ⟨w.heap.size, 6, none⟩) hp2).trans p6
  have p7 := (hbx.cell (p := ⟨w.heap.size, 7, none⟩) hp2).trans p7
  have p8 := (hbx.cell (p := ⟨w.heap.size, 8, none⟩) hp2).trans p8
  have p9 := (hbx.cell (p := ⟨w.heap.size, 9, none⟩) hp2).trans p9
  have p10 := (hbx.cell (p := ⟨w.heap.size, 10, none⟩) hp2).trans p10
  have p11 := (hbx.cell (p := ⟨w.heap.size, 11, none⟩) hp2).trans p11
  have p12 := (hbx.cell (p := ⟨w.heap.size, 12, none⟩) hp2).trans p12
  have p13 := (hbx.cell (p := ⟨w.heap.size, 13, none⟩) hp2).trans p13
  have HBW := Lib.hid (Bel.tr HB.out hbx)
  have hmb : w2.heap.size < ((w2.alloc (.cells Tryz.zeroCells49 49)).alloc (.cells #[.pointer none, .pointer (some ⟨w2.heap.size, 0, none⟩)] 36)).heap.size := by simp; omega
  have hlb2 : w2.heap.size + 1 < ((w2.alloc (.cells Tryz.zeroCells49 49)).alloc (.cells #[.pointer none, .pointer (some ⟨w2.heap.size, 0, none⟩)] 36)).heap.size := by simp
  have hpl : w.heap.size < ((w2.alloc (.cells Tryz.zeroCells49 49)).alloc (.cells #[.pointer none, .pointer (some ⟨w2.heap.size, 0, none⟩)] 36)).heap.size := Nat.lt_trans hp2 hmb
  go_wp2_with fail
  generalize ((w2.alloc (.cells Tryz.zeroCells49 49)).alloc (.cells #[.pointer none, .pointer (some ⟨w2.heap.size, 0, none⟩)] 36)) = W0 at *
  clear hbx HB hp2
  generalize w2.heap.size + 1 = lb at *
  generalize w2.heap.size = mb at *
  go_loopw [12] (fun i wr => ∃ k : Nat, k ≤ 2 ∧ i = .int .i64 k ∧ Below W0.heap.size W0 wr) (fun i _ => 2 - (intOf i).toNat)
  case atStart => exact ⟨0, by omega, rfl, Below.refl _ _⟩
  case round =>
    obtain ⟨k, hk, rfl, hbr⟩ := hrel
    by_cases h2 : k = 2
    · subst h2
      have Hr := Lib.hid hbr
      clear hbr
      go_wp2_with fail
      go_ret
      exact ⟨rfl, HBW.out.trans (Hr.out.mono (by have := HBW.out.size; omega))⟩
    · have Hr := Lib.hid hbr
      have HM := Lib.hid (fun W (h : Below W0.heap.size W0 W) => (h.cell (p := ⟨mb, 0, none⟩) hmb).trans m0)
      have P0 := Lib.hid (fun W (h : Below W0.heap.size W0 W) => (h.cell (p := ⟨w.heap.size, 0, none⟩) hpl).trans p0)
      have P1 := Lib.hid (fun W (h : Below W0.heap.size W0 W) => (h.cell (p := ⟨w.heap.size, 1, none⟩) hpl).trans p1)
      have P2 := Lib.hid (fun W (h : Below W0.heap.size W0 W) => (h.cell (p := ⟨w.heap.size, 2, none⟩) hpl).trans p2)
      have P3 := Lib.hid (fun W (h : Below W0.heap.size W0 W) => (h.cell (p := ⟨w.heap.size, 3, none⟩) hpl).trans p3)
      have P4 := Lib.hid (fun W (h : Below W0.heap.size W0 W) => (h.cell (p := ⟨w.heap.size, 4, none⟩) hpl).trans p4)
      have P5 := Lib.hid (fun W (h : Below W0.heap.size W0 W) => (h.cell (p := ⟨w.heap.size, 5, none⟩) hpl).trans p5)
      have P6 := Lib.hid (fun W (h : Below W0.heap.size W0 W) => (h.cell (p := ⟨w.heap.size, 6, none⟩) hpl).trans p6)
      have P7 := Lib.hid (fun W (h : Below W0.heap.size W0 W) => (h.cell (p := ⟨w.heap.size, 7, none⟩) hpl).trans p7)
      have P8 := Lib.hid (fun W (h : Below W0.heap.size W0 W) => (h.cell (p := ⟨w.heap.size, 8, none⟩) hpl).trans p8)
      have P9 := Lib.hid (fun W (h : Below W0.heap.size W0 W) => (h.cell (p := ⟨w.heap.size, 9, none⟩) hpl).trans p9)
      have P10 := Lib.hid (fun W (h : Below W0.heap.size W0 W) => (h.cell (p := ⟨w.heap.size, 10, none⟩) hpl).trans p10)
      have P11 := Lib.hid (fun W (h : Below W0.heap.size W0 W) => (h.cell (p := ⟨w.heap.size, 11, none⟩) hpl).trans p11)
      have P12 := Lib.hid (fun W (h : Below W0.heap.size W0 W) => (h.cell (p := ⟨w.heap.size, 12, none⟩) hpl).trans p12)
      have P13 := Lib.hid (fun W (h : Below W0.heap.size W0 W) => (h.cell (p := ⟨w.heap.size, 13, none⟩) hpl).trans p13)
      have L0 := (hbr.cell (p := ⟨lb, 0, none⟩) hlb2).trans l0
      have L1 := (hbr.cell (p := ⟨lb, 1, none⟩) hlb2).trans l1
      clear hbr m0 l0 l1 p0 p1 p2 p3 p4 p5 p6 p7 p8 p9 p10 p11 p12 p13
      rcases (show k = 0 ∨ k = 1 by omega) with rfl | rfl
      · have y2 := P2.out _ Hr.out
        have y6 := P6.out _ Hr.out
        go_wp2_with fail
        clear y2 y6
        refine (go_nil x2 a6 n6 c6 _).mono ?_
        rintro e v1 ⟨rfl, hb⟩
        have Hn := Lib.hid (Bel.tr Hr.out hb)
        clear hb Hr
        have Hr := Hn
        clear Hn
        have Hn := Lib.hid (Bel.al Hr.out (.cells #[.int .u8 0, .int .u32 0, .int .u32 0, .int .u8 0, .int .i64 0, .int .i64 0, .slice none 0 0, .int .u32 0, .int .u32 0, .slice none 0 0, .int .u32 0] 55))
        clear Hr
        have Hr := Hn
        clear Hn
        have y4 := P4.out _ Hr.out
        have y5 := P5.out _ Hr.out
        go_wp2_with fail
        refine (result_zero _).mono ?_
        rintro e v2 ⟨rfl, hb⟩
        have Hn := Lib.hid (Bel.tr Hr.out hb)
        clear hb Hr
        have Hr := Hn
        clear Hn
        clear y4 y5
        have y4 := P4.out _ Hr.out
        have y5 := P5.out _ Hr.out
        go_wp2_with fail
        clear y4 y5
        refine (start_nil x4 a5 n5 c5 _).mono ?_
        rintro e v3 ⟨rfl, hb⟩
        have Hn := Lib.hid (Bel.tr Hr.out hb)
        clear hb Hr
        have Hr := Hn
        clear Hn
        have y7 := P7.out _ Hr.out
        have y8 := P8.out _ Hr.out
        have y9 := P9.out _ Hr.out
        have y10 := P10.out _ Hr.out
        have y11 := P11.out _ Hr.out
        have y12 := P12.out _ Hr.out
        have y13 := P13.out _ Hr.out
        go_wp2_with fail
        clear y7 y8 y9 y10 y11 y12 y13
        refine (put_nil x7 x8 x9 x12 x13 a10 a11 n10 c10 n11 c11 _).mono ?_
        rintro e v4 ⟨rfl, hb⟩
        have Hn := Lib.hid (Bel.tr Hr.out hb)
        clear hb Hr
        have Hr := Hn
        clear Hn
        go_wp2_with fail
        refine (log_nil  _).mono ?_
        rintro e v5 ⟨rfl, hb⟩
        have Hn := Lib.hid (Bel.tr Hr.out hb)
        clear hb Hr
        have Hr := Hn
        clear Hn
        go_wp2_with fail
        refine (touched_nil  _).mono ?_
        rintro e v6 ⟨rfl, hb⟩
        have Hn := Lib.hid (Bel.tr Hr.out hb)
        clear hb Hr
        have Hr := Hn
        clear Hn
        go_wp2_with fail
        refine (state_nil  _).mono ?_
        rintro e v7 ⟨rfl, hb⟩
        have Hn := Lib.hid (Bel.tr Hr.out hb)
        clear hb Hr
        have Hr := Hn
        clear Hn
        go_wp2_with fail
        refine (states_zero _).mono ?_
        rintro e v8 ⟨rfl, hb⟩
        have Hn := Lib.hid (Bel.tr Hr.out hb)
        clear hb Hr
        have Hr := Hn
        clear Hn
        go_wp2_with fail
        go_roundw
        case rel => exact ⟨1, by omega, by go_num, Hr.out⟩
        case measure => simp [intOf]
      · have y2 := P2.out _ Hr.out
        have y6 := P6.out _ Hr.out
        go_wp2_with fail
        clear y2 y6
        refine (go_zero mb x2 a6 n6 c6 _ (HM.out _ Hr.out)).mono ?_
        rintro e v1 ⟨rfl, hb⟩
        have Hn := Lib.hid (Bel.tr Hr.out hb)
        clear hb Hr
        have Hr := Hn
        clear Hn
        have Hn := Lib.hid (Bel.al Hr.out (.cells #[.int .u8 0, .int .u32 0, .int .u32 0, .int .u8 0, .int .i64 0, .int .i64 0, .slice none 0 0, .int .u32 0, .int .u32 0, .slice none 0 0, .int .u32 0] 55))
        clear Hr
        have Hr := Hn
        clear Hn
        have y4 := P4.out _ Hr.out
        have y5 := P5.out _ Hr.out
        go_wp2_with fail
        refine (result_zero _).mono ?_
        rintro e v2 ⟨rfl, hb⟩
        have Hn := Lib.hid (Bel.tr Hr.out hb)
        clear hb Hr
        have Hr := Hn
        clear Hn
        clear y4 y5
        have y4 := P4.out _ Hr.out
        have y5 := P5.out _ Hr.out
        go_wp2_with fail
        clear y4 y5
        refine (start_zero mb x4 a5 n5 c5 _ (HM.out _ Hr.out)).mono ?_
        rintro e v3 ⟨rfl, hb⟩
        have Hn := Lib.hid (Bel.tr Hr.out hb)
        clear hb Hr
        have Hr := Hn
        clear Hn
        have y7 := P7.out _ Hr.out
        have y8 := P8.out _ Hr.out
        have y9 := P9.out _ Hr.out
        have y10 := P10.out _ Hr.out
        have y11 := P11.out _ Hr.out
        have y12 := P12.out _ Hr.out
        have y13 := P13.out _ Hr.out
        go_wp2_with fail
        clear y7 y8 y9 y10 y11 y12 y13
        refine (put_zero mb x7 x8 x9 x12 x13 a10 a11 n10 c10 n11 c11 _ (HM.out _ Hr.out)).mono ?_
        rintro e v4 ⟨rfl, hb⟩
        have Hn := Lib.hid (Bel.tr Hr.out hb)
        clear hb Hr
        have Hr := Hn
        clear Hn
        go_wp2_with fail
        refine (log_zero mb  _ (HM.out _ Hr.out)).mono ?_
        rintro e v5 ⟨rfl, hb⟩
        have Hn := Lib.hid (Bel.tr Hr.out hb)
        clear hb Hr
        have Hr := Hn
        clear Hn
        go_wp2_with fail
        refine (touched_zero mb  _ (HM.out _ Hr.out)).mono ?_
        rintro e v6 ⟨rfl, hb⟩
        have Hn := Lib.hid (Bel.tr Hr.out hb)
        clear hb Hr
        have Hr := Hn
        clear Hn
        go_wp2_with fail
        refine (state_zero mb  _ (HM.out _ Hr.out)).mono ?_
        rintro e v7 ⟨rfl, hb⟩
        have Hn := Lib.hid (Bel.tr Hr.out hb)
        clear hb Hr
        have Hr := Hn
        clear Hn
        go_wp2_with fail
        refine (states_zero _).mono ?_
        rintro e v8 ⟨rfl, hb⟩
        have Hn := Lib.hid (Bel.tr Hr.out hb)
        clear hb Hr
        have Hr := Hn
        clear Hn
        go_wp2_with fail
        go_roundw
        case rel => exact ⟨2, by omega, by go_num, Hr.out⟩
        case measure => simp [intOf]
end Go.Proofs.YtmbdbpfjgicnpaaGreat
