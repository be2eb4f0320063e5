import Derived.Test.YtdigcbkjlppenaaOwn
import Derived.Test.YtdigcbkjlppenaaIsaCheckC
import Derived.RegionTactic
namespace Go.Proofs.Ytdigcbkjlppenaa
open Go.RowKit
/-- The number whose n bytes stand behind place k + i. -/
def leV (l : List Nat) (k : Nat) : Nat → Nat → Nat
  | _, 0 => 0
  | i, n + 1 => leV l k (i + 1) n * 256 + l.getD (k + i + 1) 0
theorem leV_lt (l : List Nat) (k : Nat) (h : ∀ j, l.getD j 0 < 256) : ∀ n i, leV l k i n < 256 ^ n
  | 0, i => by simp [leV]
  | n + 1, i => by
    have h1 := leV_lt l k h n (i + 1)
    have h2 := h (k + i + 1)
    rw [leV, Nat.pow_succ]
    omega
def readAt (l : List Nat) (k : Nat) : (Nat × Nat) × Nat × Nat :=
  if isOp (l.getD k 0) then
    if l.length - k - 1 < widthOf (l.getD k 0) then ((0, 0), 0, 72)
    else if mostOf (l.getD k 0) < leV l k 0 (widthOf (l.getD k 0)) then ((0, 0), 0, 71)
    else ((l.getD k 0, leV l k 0 (widthOf (l.getD k 0))), 1 + widthOf (l.getD k 0), 0)
  else ((0, 0), 0, 70)
def instrVal (i : Nat × Nat) : Value := .agg #[.int .u8 i.1, .int .u32 i.2]
theorem or_byte (a b : Nat) (ha : a * 256 < 4294967296) (hb : b < 256) : bits BinOp.or .u32 ((a : Int) * 256) (b : Int) = (a : Int) * 256 + b := by
  have h := u32_or_nat (a * 256) b ha (by omega)
  have e : a * 256 ||| b = a * 256 + b := by
    have := Nat.shiftLeft_add_eq_or_of_lt (i := 8) (b := b) (by omega) a
    rw [Nat.shiftLeft_eq] at this
    exact this.symm
  rw [e] at h
  rw [show (a : Int) * 256 = ((a * 256 : Nat) : Int) from by omega, h]
  omega
def ReadPost (l : List Nat) (k : Nat) (w : World) (e : Ending) (w' : World) : Prop :=
  e = .returned (.tuple #[instrVal (readAt l k).1, .int .i64 (readAt l k).2.1, .int .i64 (readAt l k).2.2]) ∧ Below w.heap.size w w'
set_option maxRecDepth 100000 in
set_option maxHeartbeats 2000000 in
theorem read_any (v : Value) (l : List Nat) (k : Nat) (hk : k < l.length) (w : World) (hv : Bytes w v l) : Calls Try.prog 59 #[v, .int .i64 k] w (ReadPost l k w) := by
  have hlt := hv.lt
  obtain ⟨a, cap, rfl, hlc, hcm, hnil, hp⟩ := hv.opened
  have hlm : l.length ≤ 9223372036854775807 := by unfold maxLen at hcm; omega
  obtain ⟨b, off, rfl, hbl, hc⟩ := hp (by omega)
  have hz := zero36
  have hz26 := zero26
  unfold zeroRow at hz26
  have hb36 : ∀ w : World, (Instr.build 36 #[]).run Try.prog w = .ok (.agg #[.int .u8 0, .int .u32 0]) w := fun _ => by kernel_rfl
  have ho := hlt k
  have hck := hc k hk
  have hinf := fun W => info_any (l.getD k 0) ho W
  unfold rowVal rowCells at hinf
  have hq0 : (k : Int) < (l.length : Int) := by omega
  have hwd := width_le (l.getD k 0)
  by_cases hop : isOp (l.getD k 0) = true
  · by_cases hcut : l.length - k - 1 < widthOf (l.getD k 0)
    · have hr : readAt l k = ((0, 0), 0, 72) := by rw [readAt, if_pos hop, if_pos hcut]
      rw [hop] at hinf
      unfold ReadPost
      rw [hr]
      have Hc := Lib.hid hc
      have Hlt := Lib.hid hlt
      have hcut2 : (l.length : Int) - (k : Int) - 1 < (widthOf (l.getD k 0) : Int) := by omega
      clear hc hlt hr hp hnil hv hop
      generalize l.getD k 0 = o at *
      generalize widthOf o = wd at *
      go_enter Try.func59, Try.ntmps59
      go_wp2_with fail
      refine (hinf _).mono ?_
      rintro e w1 ⟨rfl, hb⟩
      obtain ⟨hk1, hf1⟩ := bcell hb
      have hs1 := Bel.lt hb
      simp only [World.size_alloc] at hk1 hf1
      go_wp2
      exact bodyPost_ret (v := .tuple #[.agg #[.int .u8 0, .int .u32 0], .int .i64 0, .int .i64 72]) (by simp [results, Try.results59, go_sem, hk1, hs1]) rfl
        ⟨rfl, Bel.al (((Bel.of hb).setCell (p := ⟨w.heap.size, 0, none⟩) (Nat.le_refl _) _).setCell (p := ⟨w.heap.size, 1, none⟩) (Nat.le_refl _) _) _⟩
    · rw [hop] at hinf
      have hread : readAt l k = if mostOf (l.getD k 0) < leV l k 0 (widthOf (l.getD k 0)) then ((0, 0), 0, 71) else ((l.getD k 0, leV l k 0 (widthOf (l.getD k 0))), 1 + widthOf (l.getD k 0), 0) := by
        rw [readAt, if_pos hop, if_neg hcut]
      have Hread := Lib.hid hread
      have Hc := Lib.hid hc
      have Hlt := Lib.hid hlt
      have hcut2 : ¬ (l.length : Int) - (k : Int) - 1 < (widthOf (l.getD k 0) : Int) := by omega
      have hkw : k + widthOf (l.getD k 0) < l.length := by omega
      clear hc hlt hp hnil hv hop hread hcut
      unfold ReadPost
      generalize l.getD k 0 = o at *
      generalize mostOf o = M at *
      generalize wordOf o = W5 at *
      generalize widthOf o = wd at *
      generalize takesOf o = tk at *
      generalize givesOf o = gv at *
      generalize kindOf o = kd at *
      have hz36 := zero36
      have hb36' : ∀ (x : Int) (w : World), (Instr.build 36 #[(0, .int .u8 x)]).run Try.prog w = .ok (.agg #[.int .u8 x, .int .u32 0]) w := fun _ _ => by kernel_rfl
      go_enter Try.func59, Try.ntmps59
      go_wp2_with fail
      refine (hinf _).mono ?_
      rintro e w1 ⟨rfl, hb⟩
      obtain ⟨hk1, hf1⟩ := bcell hb
      have hs1 := Bel.lt hb
      have hbl1 : b < w1.heap.size := by omega
      simp only [World.size_alloc] at hk1 hf1
      have hcw1 : w1.cell? ⟨b, off + k, none⟩ = some (.int .u8 o) := by rw [hk1 b _ (by omega), World.cell?_alloc_past _ _ _ hbl]; exact hck
      go_wp2_with fail
      generalize hW0 : ((w1.alloc (Obj.cells #[Value.string { data := W5.toArray }, Value.int IntKind.i64 ↑wd, Value.int IntKind.u32 ↑M, Value.int IntKind.i64 ↑tk, Value.int IntKind.i64 ↑gv, Value.int IntKind.u8 ↑kd] 26)).alloc (Obj.cells #[Value.int IntKind.u8 ↑o, Value.int IntKind.u32 0] 36)) = W0
      have c0 : W0.cell? ⟨w1.heap.size + 1, 0, none⟩ = some (.int .u8 o) := by rw [← hW0]; simp [go_sem]
      have c1 : W0.cell? ⟨w1.heap.size + 1, 1, none⟩ = some (.int .u32 (leV l k wd 0 : Nat)) := by rw [← hW0]; simp [go_sem, leV]
      have d1 : W0.cell? ⟨w1.heap.size, 1, none⟩ = some (.int .i64 wd) := by rw [← hW0]; simp [go_sem]
      have d2 : W0.cell? ⟨w1.heap.size, 2, none⟩ = some (.int .u32 M) := by rw [← hW0]; simp [go_sem]
      have z0 : W0.cell? ⟨w.heap.size, 0, none⟩ = some (.int .u8 0) := by rw [← hW0]; simp [go_sem, hk1, hs1]
      have z1 : W0.cell? ⟨w.heap.size, 1, none⟩ = some (.int .u32 0) := by rw [← hW0]; simp [go_sem, hk1, hs1]
      have e0 : W0.frozen? ⟨w1.heap.size + 1, 0, none⟩ = false := by rw [← hW0]; simp [go_sem]
      have e1 : W0.frozen? ⟨w1.heap.size + 1, 1, none⟩ = false := by rw [← hW0]; simp [go_sem]
      have y0 : W0.frozen? ⟨w.heap.size, 0, none⟩ = false := by rw [← hW0]; simp [go_sem, hf1, hs1]
      have y1 : W0.frozen? ⟨w.heap.size, 1, none⟩ = false := by rw [← hW0]; simp [go_sem, hf1, hs1]
      have hB0 : Below w.heap.size w W0 := by rw [← hW0]; exact Bel.al (Bel.al (Bel.of hb) _) _
      have hS0 : W0.heap.size = w1.heap.size + 2 := by rw [← hW0]; simp
      have hcb : ∀ j, j < l.length → W0.cell? ⟨b, off + j, none⟩ = some (.int .u8 (l.getD j 0 : Nat)) := fun j hj => (hB0.cell (p := ⟨b, off + j, none⟩) hbl).trans (Hc.out j hj)
      have Hcb := Lib.hid hcb
      have HS0 := Lib.hid hS0
      have C0 := Lib.hid c0
      have C1 := Lib.hid c1
      have D1 := Lib.hid d1
      have D2 := Lib.hid d2
      have Z0 := Lib.hid z0
      have Z1 := Lib.hid z1
      have E0 := Lib.hid e0
      have E1 := Lib.hid e1
      have Y0 := Lib.hid y0
      have Y1 := Lib.hid y1
      clear hW0 hcw1 hk1 hf1 hck hcb hS0 c0 c1 d1 d2 z0 z1 e0 e1 y0 y1 hz hz26 hz36 hb36' hb hinf
      go_loopw [10] (fun i wr => ∃ m : Nat, m ≤ wd ∧ i = .int .i64 m ∧ Below (w1.heap.size + 1) W0 wr ∧ wr.cell? ⟨w1.heap.size + 1, 0, none⟩ = some (.int .u8 o) ∧ wr.cell? ⟨w1.heap.size + 1, 1, none⟩ = some (.int .u32 (leV l k m (wd - m) : Nat)) ∧
        wr.frozen? ⟨w1.heap.size + 1, 0, none⟩ = false ∧ wr.frozen? ⟨w1.heap.size + 1, 1, none⟩ = false) (fun i _ => (intOf i).toNat)
      case atStart => exact ⟨wd, Nat.le_refl _, rfl, Below.refl _ _, C0.out, by rw [Nat.sub_self]; exact C1.out, E0.out, E1.out⟩
      case round =>
        obtain ⟨m, hm, rfl, hB, q0, q1, p0, p1⟩ := hrel
        by_cases h0 : 0 < m
        · obtain ⟨i, rfl⟩ : ∃ i, m = i + 1 := ⟨m - 1, by omega⟩
          have hby : wr.cell? ⟨b, off + (k + (i + 1)), none⟩ = some (.int .u8 (l.getD (k + i + 1) 0 : Nat)) := (hB.cell (p := ⟨b, off + (k + (i + 1)), none⟩) (by show b < _; omega)).trans (by rw [← Nat.add_assoc k i 1]; exact Hcb.out _ (by omega))
          have hle : leV l k i (wd - i) = leV l k (i + 1) (wd - (i + 1)) * 256 + l.getD (k + i + 1) 0 := by
            rw [show wd - i = wd - (i + 1) + 1 from by omega, leV]
          have hbd := leV_lt l k Hlt.out (wd - (i + 1)) (i + 1)
          have hbd2 : 256 ^ (wd - (i + 1)) ≤ 256 ^ 3 := Nat.pow_le_pow_right (by omega) (by omega)
          have hx := Hlt.out (k + i + 1)
          generalize leV l k (i + 1) (wd - (i + 1)) = acc at *
          generalize l.getD (k + i + 1) 0 = x at *
          have hacc : acc ≤ 16777215 := by omega
          have hor := or_byte acc x (by omega) hx
          have Hle := Lib.hid hle
          have i1 : (0 : Int) ≤ (k : Int) + ((i : Int) + 1) := by omega
          have i2 : (k : Int) + ((i : Int) + 1) < (l.length : Int) := by omega
          clear hle hbd hbd2
          go_wp2_with fail
          go_region
          go_wp2
          go_roundw
          case rel => exact ⟨i, by omega, rfl, (hB.setCell (p := ⟨w1.heap.size + 1, 1, none⟩) (Nat.le_refl _) _).drew, (World.cell?_setCell_other _ _ _ _ (by simp)).trans q0,
            by rw [Hle.out]; exact (World.cell?_setCell_same _ _ _ q1).trans (by go_num), (World.frozen?_setCell _ _ _ _).trans p0, (World.frozen?_setCell _ _ _ _).trans p1⟩
          case measure => simp [intOf]
        · obtain rfl : m = 0 := by omega
          rw [Nat.sub_zero] at q1
          have hacc := leV_lt l k Hlt.out wd 0
          have hbd2 : 256 ^ wd ≤ 256 ^ 4 := Nat.pow_le_pow_right (by omega) (by omega)
          have r1 : wr.cell? ⟨w1.heap.size, 1, none⟩ = some (.int .i64 wd) := (hB.cell (p := ⟨w1.heap.size, 1, none⟩) (by simp)).trans D1.out
          have r2 : wr.cell? ⟨w1.heap.size, 2, none⟩ = some (.int .u32 M) := (hB.cell (p := ⟨w1.heap.size, 2, none⟩) (by simp)).trans D2.out
          have s0 : wr.cell? ⟨w.heap.size, 0, none⟩ = some (.int .u8 0) := (hB.cell (p := ⟨w.heap.size, 0, none⟩) (by show w.heap.size < _; omega)).trans Z0.out
          have s1 : wr.cell? ⟨w.heap.size, 1, none⟩ = some (.int .u32 0) := (hB.cell (p := ⟨w.heap.size, 1, none⟩) (by show w.heap.size < _; omega)).trans Z1.out
          have t0 : wr.frozen? ⟨w.heap.size, 0, none⟩ = false := (hB.frozen (p := ⟨w.heap.size, 0, none⟩) (by show w.heap.size < _; omega)).trans Y0.out
          have t1 : wr.frozen? ⟨w.heap.size, 1, none⟩ = false := (hB.frozen (p := ⟨w.heap.size, 1, none⟩) (by show w.heap.size < _; omega)).trans Y1.out
          generalize leV l k 0 wd = acc at *
          have hBw : Below w.heap.size w wr := hB0.trans (hB.mono (by omega))
          by_cases hM : M < acc
          · have hM1 : (M : Int) < (acc : Int) := by omega
            have hr := Hread.out
            rw [if_pos hM] at hr
            have Hr := Lib.hid hr
            clear hr hacc hbd2 hM
            go_wp2
            rw [Hr.out]
            exact bodyPost_ret (v := .tuple #[.agg #[.int .u8 0, .int .u32 0], .int .i64 0, .int .i64 71]) (by simp [results, Try.results59, go_sem, s0, s1]) rfl
              ⟨rfl, (hBw.setCell (p := ⟨w.heap.size, 0, none⟩) (Nat.le_refl _) _).setCell (p := ⟨w.heap.size, 1, none⟩) (Nat.le_refl _) _⟩
          · have hM1 : ¬ (M : Int) < (acc : Int) := by omega
            have hr := Hread.out
            rw [if_neg hM] at hr
            have Hr := Lib.hid hr
            clear hr hacc hbd2 hM
            go_wp2_with fail
            go_region
            go_wp2
            rw [Hr.out]
            refine bodyPost_ret (v := .tuple #[.agg #[.int .u8 o, .int .u32 acc], .int .i64 (1 + (wd : Int)), .int .i64 0]) ?_ rfl ?_
            · simp [results, Try.results59, go_sem, s0, s1]
            · exact ⟨by simp [instrVal], ((hBw.setCell (p := ⟨w.heap.size, 0, none⟩) (Nat.le_refl _) _).setCell (p := ⟨w.heap.size, 1, none⟩) (Nat.le_refl _) _).drew⟩
  · have hop : isOp (l.getD k 0) = false := by simpa using hop
    have hr : readAt l k = ((0, 0), 0, 70) := by rw [readAt, hop]; rfl
    rw [hop] at hinf
    unfold ReadPost
    rw [hr]
    clear hlt hr hp hnil hv hop hc hwd
    generalize l.getD k 0 = o at *
    go_enter Try.func59, Try.ntmps59
    go_wp2_with fail
    refine (hinf _).mono ?_
    rintro e w1 ⟨rfl, hb⟩
    obtain ⟨hk1, hf1⟩ := bcell hb
    have hs1 := Bel.lt hb
    simp only [World.size_alloc] at hk1 hf1
    go_wp2
    exact bodyPost_ret (v := .tuple #[.agg #[.int .u8 0, .int .u32 0], .int .i64 0, .int .i64 70]) (by simp [results, Try.results59, go_sem, hk1, hs1]) rfl
      ⟨rfl, Bel.al (((Bel.of hb).setCell (p := ⟨w.heap.size, 0, none⟩) (Nat.le_refl _) _).setCell (p := ⟨w.heap.size, 1, none⟩) (Nat.le_refl _) _) _⟩
end Go.Proofs.Ytdigcbkjlppenaa
