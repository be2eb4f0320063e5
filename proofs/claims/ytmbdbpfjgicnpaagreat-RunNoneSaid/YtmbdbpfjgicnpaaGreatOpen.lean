import Derived.Test.YtmbdbpfjgicnpaaGreatWalk
import Derived.ProofKit
import Derived.OpenShut
/- An Act that came in, opened. -/
namespace Go.Proofs.YtmbdbpfjgicnpaaGreat
open Go.ChangeShapes Go.WideShapes Go.ChangeAt Go.RowKit
theorem cell_int {P : Program} {w : World} {r : Reach} {b : Nat} {t : TypeId} {v : Value} {k : IntKind} (ht : P.underlying t = some (.int k)) (h : Cell.okWide P w r b t v) : ∃ x, v = .int k x := by
  simp only [Cell.okWide, ht] at h
  cases v <;> simp_all [Cell.ok]
theorem cell_slice {P : Program} {w : World} {r : Reach} {b : Nat} {t e : TypeId} {v : Value} (ht : P.underlying t = some (.slice e)) (h : Cell.okWide P w r b t v) : ∃ a n c, v = .slice a n c := by
  simp only [Cell.okWide, ht] at h
  cases v <;> simp_all [Cell.ok]
theorem under31 : ∃ fs, Tryz.prog.underlying 31 = some (.struct fs) := ⟨_, Tryz.underlying31⟩
theorem types31 : Tryz.prog.cellTypes Tryz.prog.depth 31 = some [3, 3, 3, 3, 22, 23, 24, 25, 22, 22, 23, 26, 22, 27] := by kernel_rfl
theorem cells31 : Tryz.prog.cellsOf 31 = 14 := by kernel_rfl
set_option maxRecDepth 100000 in
theorem open_act {w : World} {r : Reach} {b0 : Nat} {v : Value} (hv : Value.okWide Tryz.prog w r b0 31 v) :
    ∃ x0 x1 x2 x3 x4 a5 n5 c5 a6 n6 c6 x7 x8 x9 a10 n10 c10 a11 n11 c11 x12 x13, v = .agg #[.int .i64 x0, .int .i64 x1, .int .i64 x2, .int .i64 x3, .int .u32 x4, .slice a5 n5 c5, .slice a6 n6 c6, .int .u8 x7, .int .u32 x8, .int .u32 x9, .slice a10 n10 c10, .slice a11 n11 c11, .int .u32 x12, .int .u8 x13] := by
  obtain ⟨fs, hu⟩ := under31
  simp only [Value.okWide, hu] at hv
  obtain ⟨cs, rfl, hsz, ts, hts, -, hc⟩ := hv
  rw [types31] at hts
  obtain rfl := (Option.some.inj hts).symm
  rw [cells31] at hsz
  have hl : cs.toList.length = 14 := by simpa using hsz
  obtain ⟨e0, e1, e2, e3, e4, e5, e6, e7, e8, e9, e10, e11, e12, e13, hcs⟩ : ∃ e0 e1 e2 e3 e4 e5 e6 e7 e8 e9 e10 e11 e12 e13, cs.toList = [e0, e1, e2, e3, e4, e5, e6, e7, e8, e9, e10, e11, e12, e13] := by
    match cs.toList, hl with
    | [e0, e1, e2, e3, e4, e5, e6, e7, e8, e9, e10, e11, e12, e13], _ => exact ⟨e0, e1, e2, e3, e4, e5, e6, e7, e8, e9, e10, e11, e12, e13, rfl⟩
  obtain rfl : cs = #[e0, e1, e2, e3, e4, e5, e6, e7, e8, e9, e10, e11, e12, e13] := by rw [← Array.toArray_toList (xs := cs), hcs]
  clear hcs hl hsz
  obtain ⟨t0, ht0, h0⟩ := hc 0 e0 rfl
  obtain rfl : 3 = t0 := Option.some.inj ht0
  obtain ⟨x0, rfl⟩ := cell_int Tryz.underlying3 h0
  obtain ⟨t1, ht1, h1⟩ := hc 1 e1 rfl
  obtain rfl : 3 = t1 := Option.some.inj ht1
  obtain ⟨x1, rfl⟩ := cell_int Tryz.underlying3 h1
  obtain ⟨t2, ht2, h2⟩ := hc 2 e2 rfl
  obtain rfl : 3 = t2 := Option.some.inj ht2
  obtain ⟨x2, rfl⟩ := cell_int Tryz.underlying3 h2
  obtain ⟨t3, ht3, h3⟩ := hc 3 e3 rfl
  obtain rfl : 3 = t3 := Option.some.inj ht3
  obtain ⟨x3, rfl⟩ := cell_int Tryz.underlying3 h3
  obtain ⟨t4, ht4, h4⟩ := hc 4 e4 rfl
  obtain rfl : 22 = t4 := Option.some.inj ht4
  obtain ⟨x4, rfl⟩ := cell_int Tryz.underlying22 h4
  obtain ⟨t5, ht5, h5⟩ := hc 5 e5 rfl
  obtain rfl : 23 = t5 := Option.some.inj ht5
  obtain ⟨a5, n5, c5, rfl⟩ := cell_slice Tryz.underlying23 h5
  obtain ⟨t6, ht6, h6⟩ := hc 6 e6 rfl
  obtain rfl : 24 = t6 := Option.some.inj ht6
  obtain ⟨a6, n6, c6, rfl⟩ := cell_slice Tryz.underlying24 h6
  obtain ⟨t7, ht7, h7⟩ := hc 7 e7 rfl
  obtain rfl : 25 = t7 := Option.some.inj ht7
  obtain ⟨x7, rfl⟩ := cell_int Tryz.underlying25 h7
  obtain ⟨t8, ht8, h8⟩ := hc 8 e8 rfl
  obtain rfl : 22 = t8 := Option.some.inj ht8
  obtain ⟨x8, rfl⟩ := cell_int Tryz.underlying22 h8
  obtain ⟨t9, ht9, h9⟩ := hc 9 e9 rfl
  obtain rfl : 22 = t9 := Option.some.inj ht9
  obtain ⟨x9, rfl⟩ := cell_int Tryz.underlying22 h9
  obtain ⟨t10, ht10, h10⟩ := hc 10 e10 rfl
  obtain rfl : 23 = t10 := Option.some.inj ht10
  obtain ⟨a10, n10, c10, rfl⟩ := cell_slice Tryz.underlying23 h10
  obtain ⟨t11, ht11, h11⟩ := hc 11 e11 rfl
  obtain rfl : 26 = t11 := Option.some.inj ht11
  obtain ⟨a11, n11, c11, rfl⟩ := cell_slice Tryz.underlying26 h11
  obtain ⟨t12, ht12, h12⟩ := hc 12 e12 rfl
  obtain rfl : 22 = t12 := Option.some.inj ht12
  obtain ⟨x12, rfl⟩ := cell_int Tryz.underlying22 h12
  obtain ⟨t13, ht13, h13⟩ := hc 13 e13 rfl
  obtain rfl : 27 = t13 := Option.some.inj ht13
  obtain ⟨x13, rfl⟩ := cell_int Tryz.underlying27 h13
  exact ⟨_, _, _, _, _, _, _, _, _, _, _, _, _, _, _, _, _, _, _, _, _, _, rfl⟩
end Go.Proofs.YtmbdbpfjgicnpaaGreat
