import Derived.Test.YtofkamnmgpkehabBase
/- The marks of playpenkit. -/
namespace Go.Proofs.Ytofkamnmgpkehab
open Go.RowKit
theorem mkB_is : ∃ f : Int → Int → Nat, ∀ k i, f k i < 256 ∧ (f k i : Int) = bits BinOp.xor IntKind.u32 ((wrap64 (k + 2) % 4294967296 * 2654435761 + i % 4294967296 * 2246822519) % 4294967296)
  ((wrap64 (k + 2) % 4294967296 * 2654435761 + i % 4294967296 * 2246822519) % 4294967296 / 32768) * 739982445 % 4294967296 / 16777216 := by
  refine ⟨fun k i => (bits BinOp.xor IntKind.u32 ((wrap64 (k + 2) % 4294967296 * 2654435761 + i % 4294967296 * 2246822519) % 4294967296)
  ((wrap64 (k + 2) % 4294967296 * 2654435761 + i % 4294967296 * 2246822519) % 4294967296 / 32768) * 739982445 % 4294967296 / 16777216).toNat, fun k i => ?_⟩
  dsimp only
  generalize bits BinOp.xor _ _ _ = x
  omega
/-- The mark of a byte. -/
noncomputable def mkB : Int → Int → Nat := mkB_is.choose
theorem mkB_lt (k i : Int) : mkB k i < 256 := (mkB_is.choose_spec k i).1
theorem mkB_eq (k i : Int) : (mkB k i : Int) = bits BinOp.xor IntKind.u32 ((wrap64 (k + 2) % 4294967296 * 2654435761 + i % 4294967296 * 2246822519) % 4294967296)
  ((wrap64 (k + 2) % 4294967296 * 2654435761 + i % 4294967296 * 2246822519) % 4294967296 / 32768) * 739982445 % 4294967296 / 16777216 := (mkB_is.choose_spec k i).2
theorem mkC_is : ∃ f : Int → Int → Nat × Nat, ∀ k i, ((f k i).1 < 256 ∧ (f k i).2 < 4294967296) ∧ ((f k i).1 : Int) = wrap64 (200 + k.tmod 50) % 256 ∧ ((f k i).2 : Int) = wrap64 (wrap64 (1000003 * wrap64 (k + 1)) + i) % 4294967296 := by
  refine ⟨fun k i => ((wrap64 (200 + k.tmod 50) % 256).toNat, (wrap64 (wrap64 (1000003 * wrap64 (k + 1)) + i) % 4294967296).toNat), fun k i => ?_⟩
  dsimp only
  omega
/-- The mark of an instruction. -/
noncomputable def mkC : Int → Int → Nat × Nat := mkC_is.choose
theorem mkC_lt (k i : Int) : (mkC k i).1 < 256 ∧ (mkC k i).2 < 4294967296 := (mkC_is.choose_spec k i).1
theorem mkC_eq (k i : Int) : ((mkC k i).1 : Int) = wrap64 (200 + k.tmod 50) % 256 ∧ ((mkC k i).2 : Int) = wrap64 (wrap64 (1000003 * wrap64 (k + 1)) + i) % 4294967296 := (mkC_is.choose_spec k i).2
theorem mkI_is : ∃ f : Int → Int → Int, ∀ k i, f k i = wrap64 (wrap64 (1000003 * wrap64 (k + 1)) + i) := ⟨_, fun _ _ => rfl⟩
/-- The mark of a number. -/
noncomputable def mkI : Int → Int → Int := mkI_is.choose
theorem mkI_eq (k i : Int) : mkI k i = wrap64 (wrap64 (1000003 * wrap64 (k + 1)) + i) := mkI_is.choose_spec k i
theorem ret_intE {k : IntKind} {a b : Int} (h : a = b) : Ending.returned (.int k a) = .returned (.int k b) := by rw [h]
set_option maxRecDepth 100000 in
theorem markCode_any (k i : Int) (w : World) : Calls Try.prog 37 #[.int .i64 k, .int .i64 i] w fun e w' => e = .returned (.agg #[.int .u8 (mkC k i).1, .int .u32 (mkC k i).2]) ∧ Below w.heap.size w w' := by
  go_enter Try.func37, Try.ntmps37
  go_wp2
  obtain ⟨h1, h2⟩ := mkC_eq k i
  rw [h1, h2]
  exact bodyPost_ret (v := .agg #[Value.int IntKind.u8 (wrap64 (200 + k.tmod 50) % 256),
          Value.int IntKind.u32 (wrap64 (wrap64 (1000003 * wrap64 (k + 1)) + i) % 4294967296)]) (by simp [results, Try.results37, go_sem]) rfl ⟨rfl, Bel.new _ _⟩
end Go.Proofs.Ytofkamnmgpkehab
