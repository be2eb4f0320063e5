import Derived.Test.YtfoaibfncjnbdaaLong
/- A few answers. -/
namespace Go.Proofs.Ytfoaibfncjnbdaa
open Go.RowKit
def awakeL : List (Nat × Nat) := [(8, 2), (8, 3), (41, 0), (38, 0), (31, 0)]
theorem awake1 : longRes awakeL 0 5 = ((0, 4, 2, 4294967290), 0) := by decide +kernel
theorem awake2 : longRes awakeL 4 5 = ((4, 1, 1, 0), 0) := by decide +kernel
def awakeC : Array Value := #[.int .u8 8, .int .u32 2, .int .u8 8, .int .u32 3, .int .u8 41, .int .u32 0, .int .u8 38, .int .u32 0, .int .u8 31, .int .u32 0]
theorem awake_build (w : World) : (Instr.buildSlice 22 5 #[(0, .agg #[.int .u8 8, .int .u32 2]), (1, .agg #[.int .u8 8, .int .u32 3]), (2, .agg #[.int .u8 41, .int .u32 0]), (3, .agg #[.int .u8 38, .int .u32 0]), (4, .agg #[.int .u8 31, .int .u32 0])]).run Try.prog w = .ok (.slice (some ⟨w.heap.size, 0, none⟩) 5 5) (w.alloc (.cells awakeC 34)) := by kernel_rfl
theorem instrs_new (l : List (Nat × Nat)) (hl : ∀ i ∈ l, i.1 < 256 ∧ i.2 < 4294967296) (hm : l.length ≤ maxLen) (w : World) (t : TypeId) : Instrs (w.alloc (.cells (encI l).toArray t)) (.slice (some ⟨w.heap.size, 0, none⟩) l.length l.length) l :=
  ⟨⟨_, l.length, rfl, encI_length l, Nat.le_refl _, hm, (fun h => by cases h), fun _ => ⟨w.heap.size, 0, rfl, by simp, fun j hj => by simp [go_sem]⟩⟩, hl⟩
set_option maxRecDepth 100000 in
set_option maxHeartbeats 2000000 in
theorem awake_any (w : World) : Calls Try.prog 11 #[] w fun e w' => e = .returned (.bool true) ∧ Below w.heap.size w w' := by
  have hb := awake_build
  have HI := Lib.hid (show Instrs (w.alloc (.cells awakeC 34)) (.slice (some ⟨w.heap.size, 0, none⟩) 5 5) awakeL from instrs_new awakeL (by decide) (by decide) w 34)
  have hL1 := longest_any (.slice (some ⟨w.heap.size, 0, none⟩) 5 5) awakeL 0 5 (by decide) (by decide) (w.alloc (.cells awakeC 34)) HI.out
  have hL2 := fun W hW => longest_any (.slice (some ⟨w.heap.size, 0, none⟩) 5 5) awakeL 4 5 (by decide) (by decide) W hW
  rw [awake1] at hL1
  rw [awake2] at hL2
  have HL1 := Lib.hid hL1
  have HL2 := Lib.hid hL2
  clear hL1 hL2
  go_enter Try.func11, Try.ntmps11
  go_wp2_with fail
  refine HL1.out.mono ?_
  rintro x w1 ⟨rfl, hb1⟩
  have hs1 := Bel.lt hb1
  have Hb1 := Lib.hid hb1
  clear hb1 HL1
  go_wp2_with fail
  have HIW := Lib.hid ((HI.out.below Hb1.out).below (Bel.new w1 (.cells #[.int .u32 0, .int .u32 4, .int .u8 2, .int .u32 4294967290] 27)))
  refine (HL2.out _ HIW.out).mono ?_
  rintro x w2 ⟨rfl, hb2⟩
  have hg2 := hb2.block w1.heap.size (by simp)
  rw [heap_alloc_new] at hg2
  have Hg2 := Lib.hid hg2
  have HB2 := Lib.hid (Bel.tr (Bel.al (Bel.of Hb1.out) _) hb2)
  have Hs1 := Lib.hid hs1
  clear hb2 hg2 hs1
  generalize w1.heap.size = g at *
  go_wp2_with ((with_reducible refine wpList_store_row (o := ⟨none, .store 27 (.tmp 2) (.tmp 25), _, _, _, none⟩) rfl 27 _ _ rfl g #[.int .u32 4, .int .u32 1, .int .u8 1, .int .u32 0] ?_ ?_ 27 _ Hg2.out (size27 _ _ _ _) ?_ (one27 _ _ _ _) ?_); rfl; rfl; rfl; obtain ⟨z0, z1, z2, z3⟩ := cells27 (setRow_heap _ _ _ #[Value.int .u32 4, .int .u32 1, .int .u8 1, .int .u32 0] _ _ Hg2.out))
  go_ret
  exact ⟨rfl, below_setRow HB2.out g (Nat.le_of_lt Hs1.out) _⟩
end Go.Proofs.Ytfoaibfncjnbdaa
