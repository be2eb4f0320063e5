import Derived.Test.YtdigcbkjlppenaaRead
namespace Go.Proofs.Ytdigcbkjlppenaa
open Go.RowKit
set_option maxRecDepth 100000 in
set_option maxHeartbeats 2000000 in
theorem one_any (v : Value) (l : List Nat) (k : Nat) (hk : k < l.length) (hn : l.length ≤ 140737488355328) (w : World) (hv : Bytes w v l) : Calls Try.prog 48 #[v, .int .i64 k] w (ReadPost l k w) := by
  have hlt := hv.lt
  obtain ⟨a, cap, rfl, hlc, hcm, hnil, hp⟩ := hv.opened
  have hlm : l.length ≤ 9223372036854775807 := by unfold maxLen at hcm; omega
  have hlm2 : k ≤ 9223372036854775000 := by omega
  obtain ⟨b, off, rfl, hbl, hc⟩ := hp (by omega)
  have hz := zero36
  have hz26 := zero26
  unfold zeroRow at hz26
  have hb36 : ∀ w : World, (Instr.build 36 #[]).run Try.prog w = .ok (.agg #[.int .u8 0, .int .u32 0]) w := fun _ => by kernel_rfl
  have ho := hlt k
  have hck := hc k hk
  have hinf := fun W => refinfo_any (l.getD k 0) ho W
  unfold rowVal rowCells at hinf
  have hq0 : (k : Int) < (l.length : Int) := by omega
  have hwd := width_le (l.getD k 0)
  by_cases hop : isOp (l.getD k 0) = true
  · by_cases hcut : l.length - k - 1 < widthOf (l.getD k 0)
    · have hr : readAt l k = ((0, 0), 0, 72) := by rw [readAt, if_pos hop, if_pos hcut]
      rw [hop] at hinf
      unfold ReadPost
      rw [hr]
      have hcut2 : (l.length : Int) ≤ (k : Int) + (widthOf (l.getD k 0) : Int) := by omega
      clear hc hlt hr hp hnil hv hop
      generalize l.getD k 0 = o at *
      generalize widthOf o = wd at *
      go_enter Try.func48, Try.ntmps48
      go_wp2_with fail
      refine (hinf _).mono ?_
      rintro e w1 ⟨rfl, hb⟩
      obtain ⟨hk1, hf1⟩ := bcell hb
      have hs1 := Bel.lt hb
      simp only [World.size_alloc] at hk1 hf1
      go_wp2
      exact bodyPost_ret (v := .tuple #[.agg #[.int .u8 0, .int .u32 0], .int .i64 0, .int .i64 72]) (by simp [results, Try.results48, go_sem, hk1, hs1]) rfl
        ⟨rfl, Bel.al (((Bel.of hb).setCell (p := ⟨w.heap.size, 0, none⟩) (Nat.le_refl _) _).setCell (p := ⟨w.heap.size, 1, none⟩) (Nat.le_refl _) _) _⟩
    · rw [hop] at hinf
      have hread : readAt l k = if mostOf (l.getD k 0) < leV l k 0 (widthOf (l.getD k 0)) then ((0, 0), 0, 71) else ((l.getD k 0, leV l k 0 (widthOf (l.getD k 0))), 1 + widthOf (l.getD k 0), 0) := by
        rw [readAt, if_pos hop, if_neg hcut]
      have Hread := Lib.hid hread
      have Hc := Lib.hid hc
      have Hlt := Lib.hid hlt
      have hcut2 : ¬ (l.length : Int) ≤ (k : Int) + (widthOf (l.getD k 0) : Int) := by omega
      have hkw : k + widthOf (l.getD k 0) < l.length := by omega
      have Hck := Lib.hid hck
      clear hc hlt hp hnil hv hop hread hcut
      unfold ReadPost
      generalize l.getD k 0 = o at *
      generalize mostOf o = M at *
      generalize wordOf o = W5 at *
      generalize widthOf o = wd at *
      generalize takesOf o = tk at *
      generalize givesOf o = gv at *
      generalize kindOf o = kd at *
      have hz36 := zero36
      have hb36' := fun (x y : Int) (w : World) => (show (Instr.build 36 #[(0, .int .u8 x), (1, .int .u32 y)]).run Try.prog w = .ok (.agg #[.int .u8 x, .int .u32 y]) w from by kernel_rfl)
      go_enter Try.func48, Try.ntmps48
      go_wp2_with fail
      refine (hinf _).mono ?_
      rintro e w1 ⟨rfl, hb⟩
      obtain ⟨hk1, hf1⟩ := bcell hb
      have hs1 := Bel.lt hb
      have hbl1 : b < w1.heap.size := by omega
      simp only [World.size_alloc] at hk1 hf1
      go_wp2_with fail
      generalize hW0 : (w1.alloc (Obj.cells #[Value.string { data := W5.toArray }, Value.int IntKind.i64 ↑wd, Value.int IntKind.u32 ↑M, Value.int IntKind.i64 ↑tk, Value.int IntKind.i64 ↑gv, Value.int IntKind.u8 ↑kd] 26)) = W0
      have d1 : W0.cell? ⟨w1.heap.size, 1, none⟩ = some (.int .i64 wd) := by rw [← hW0]; simp [go_sem]
      have d2 : W0.cell? ⟨w1.heap.size, 2, none⟩ = some (.int .u32 M) := by rw [← hW0]; simp [go_sem]
      have z0 : W0.cell? ⟨w.heap.size, 0, none⟩ = some (.int .u8 0) := by rw [← hW0]; simp [go_sem, hk1, hs1]
      have z1 : W0.cell? ⟨w.heap.size, 1, none⟩ = some (.int .u32 0) := by rw [← hW0]; simp [go_sem, hk1, hs1]
      have y0 : W0.frozen? ⟨w.heap.size, 0, none⟩ = false := by rw [← hW0]; simp [go_sem, hf1, hs1]
      have y1 : W0.frozen? ⟨w.heap.size, 1, none⟩ = false := by rw [← hW0]; simp [go_sem, hf1, hs1]
      have hB0 : Below w.heap.size w W0 := by rw [← hW0]; exact Bel.al (Bel.of hb) _
      have hcb : ∀ j, j < l.length → W0.cell? ⟨b, off + j, none⟩ = some (.int .u8 (l.getD j 0 : Nat)) := fun j hj => (hB0.cell (p := ⟨b, off + j, none⟩) hbl).trans (Hc.out j hj)
      have hck0 : W0.cell? ⟨b, off + k, none⟩ = some (.int .u8 o) := (hB0.cell (p := ⟨b, off + k, none⟩) hbl).trans Hck.out
      have Hcb := Lib.hid hcb
      clear hW0 hk1 hf1 hck hcb hz hz26 hz36 hb hinf
      go_loop [9, 10] (fun y i => ∃ m : Nat, m ≤ wd ∧ i = .int .i64 m ∧ y = .int .u32 (leV l k m (wd - m) : Nat)) (fun _ i => (intOf i).toNat)
      case atStart => exact ⟨wd, Nat.le_refl _, rfl, by rw [Nat.sub_self]; rfl⟩
      case round =>
        obtain ⟨m, hm, rfl, rfl⟩ := hrel
        by_cases h0 : 0 < m
        · obtain ⟨i, rfl⟩ : ∃ i, m = i + 1 := ⟨m - 1, by omega⟩
          have hby : W0.cell? ⟨b, off + (k + (i + 1)), none⟩ = some (.int .u8 (l.getD (k + i + 1) 0 : Nat)) := by rw [← Nat.add_assoc k i 1]; exact Hcb.out _ (by omega)
          have hle : leV l k i (wd - i) = leV l k (i + 1) (wd - (i + 1)) * 256 + l.getD (k + i + 1) 0 := by
            rw [show wd - i = wd - (i + 1) + 1 from by omega, leV]
          have hbd := leV_lt l k Hlt.out (wd - (i + 1)) (i + 1)
          have hbd2 : 256 ^ (wd - (i + 1)) ≤ 256 ^ 3 := Nat.pow_le_pow_right (by omega) (by omega)
          have hx := Hlt.out (k + i + 1)
          generalize leV l k (i + 1) (wd - (i + 1)) = acc at *
          generalize l.getD (k + i + 1) 0 = x at *
          have hacc : acc ≤ 16777215 := by omega
          have Hle := Lib.hid hle
          have i1 : (0 : Int) ≤ (k : Int) + ((i : Int) + 1) := by omega
          have i2 : (k : Int) + ((i : Int) + 1) < (l.length : Int) := by omega
          clear hle hbd hbd2
          go_wp2
          go_round
          case rel => exact ⟨i, by omega, rfl, by rw [Hle.out]; go_num⟩
          case measure => simp [intOf]
        · obtain rfl : m = 0 := by omega
          rw [Nat.sub_zero]
          have hacc := leV_lt l k Hlt.out wd 0
          have hbd2 : 256 ^ wd ≤ 256 ^ 4 := Nat.pow_le_pow_right (by omega) (by omega)
          generalize leV l k 0 wd = acc at *
          by_cases hM : M < acc
          · have hM1 : (M : Int) < (acc : Int) := by omega
            have hr := Hread.out
            rw [if_pos hM] at hr
            have Hr := Lib.hid hr
            clear hr hacc hbd2 hM
            go_wp2
            rw [Hr.out]
            exact bodyPost_ret (v := .tuple #[.agg #[.int .u8 0, .int .u32 0], .int .i64 0, .int .i64 71]) (by simp [results, Try.results48, go_sem, z0, z1]) rfl
              ⟨rfl, (hB0.setCell (p := ⟨w.heap.size, 0, none⟩) (Nat.le_refl _) _).setCell (p := ⟨w.heap.size, 1, none⟩) (Nat.le_refl _) _⟩
          · have hM1 : ¬ (M : Int) < (acc : Int) := by omega
            have hr := Hread.out
            rw [if_neg hM] at hr
            have Hr := Lib.hid hr
            have i1 : (0 : Int) ≤ (k : Int) := by omega
            clear hr hacc hbd2 hM
            go_wp2_with fail
            go_region
            go_wp2
            rw [Hr.out]
            refine bodyPost_ret (v := .tuple #[.agg #[.int .u8 o, .int .u32 acc], .int .i64 (1 + (wd : Int)), .int .i64 0]) ?_ rfl ?_
            · simp [results, Try.results48, go_sem, z0, z1]
            · exact ⟨by simp [instrVal], ((hB0.setCell (p := ⟨w.heap.size, 0, none⟩) (Nat.le_refl _) _).setCell (p := ⟨w.heap.size, 1, none⟩) (Nat.le_refl _) _).drew⟩
  · have hop : isOp (l.getD k 0) = false := by simpa using hop
    have hr : readAt l k = ((0, 0), 0, 70) := by rw [readAt, hop]; rfl
    rw [hop] at hinf
    unfold ReadPost
    rw [hr]
    clear hlt hr hp hnil hv hop hc hwd
    generalize l.getD k 0 = o at *
    go_enter Try.func48, Try.ntmps48
    go_wp2_with fail
    refine (hinf _).mono ?_
    rintro e w1 ⟨rfl, hb⟩
    obtain ⟨hk1, hf1⟩ := bcell hb
    have hs1 := Bel.lt hb
    simp only [World.size_alloc] at hk1 hf1
    go_wp2
    exact bodyPost_ret (v := .tuple #[.agg #[.int .u8 0, .int .u32 0], .int .i64 0, .int .i64 70]) (by simp [results, Try.results48, go_sem, hk1, hs1]) rfl
      ⟨rfl, Bel.al (((Bel.of hb).setCell (p := ⟨w.heap.size, 0, none⟩) (Nat.le_refl _) _).setCell (p := ⟨w.heap.size, 1, none⟩) (Nat.le_refl _) _) _⟩
end Go.Proofs.Ytdigcbkjlppenaa
