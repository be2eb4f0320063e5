import Derived.Test.YtofkamnmgpkehabReady
import Derived.Laws.StructEq
namespace Go.Proofs.Ytofkamnmgpkehab
open Go.RowKit
theorem part39 (x y z t : Int) (w : World) : (part 32 #[.int .u32 x, .int .u32 y, .int .u32 z, .int .i64 t] 0).run Try.prog w = .ok (.int .u32 x) w ∧ (part 32 #[.int .u32 x, .int .u32 y, .int .u32 z, .int .i64 t] 1).run Try.prog w = .ok (.int .u32 y) w ∧
    (part 32 #[.int .u32 x, .int .u32 y, .int .u32 z, .int .i64 t] 2).run Try.prog w = .ok (.int .u32 z) w ∧ (part 3 #[.int .u32 x, .int .u32 y, .int .u32 z, .int .i64 t] 3).run Try.prog w = .ok (.int .i64 t) w :=
  ⟨by kernel_rfl, by kernel_rfl, by kernel_rfl, by kernel_rfl⟩
theorem eq39 (x y z x' y' z' : Int) (w : World) : (Op.equalIn 10000 39 (.agg #[.int .u32 x, .int .u32 y, .int .u32 z, .int .i64 0]) (.agg #[.int .u32 x', .int .u32 y', .int .u32 z', .int .i64 0])).run Try.prog w = .ok (x == x' && (y == y' && z == z')) w := by
  rw [show (10000 : Nat) = 9998 + 1 + 1 from rfl, run_equalIn_agg w (9998 + 1) 39 _ _ (by kernel_rfl) (by kernel_rfl)]
  have hu := Try.underlying39
  have h32 := Try.underlying32
  have h3 := Try.underlying3
  have hp := fun x y z t w => (part39 x y z t w).1
  have hp1 := fun x y z t w => (part39 x y z t w).2.1
  have hp2 := fun x y z t w => (part39 x y z t w).2.2.1
  have hp3 := fun x y z t w => (part39 x y z t w).2.2.2
  simp only [Program.fieldsOf, hu]
  simp only [Op.eqFields]
  generalize 9998 = n
  have hq : ∀ (a b : Int), (Op.equalIn (n + 1) 32 (.int .u32 a) (.int .u32 b)).run Try.prog w = .ok (a == b) w := fun a b => run_equalIn_int w n 32 .u32 .u32 a b h32
  have hq3 : ∀ (a b : Int), (Op.equalIn (n + 1) 3 (.int .i64 a) (.int .i64 b)).run Try.prog w = .ok (a == b) w := fun a b => run_equalIn_int w n 3 .i64 .i64 a b h3
  cases hx : x == x' <;> cases hy : y == y' <;> cases hz : z == z' <;> simp [Sem.run_bind, hp, hp1, hp2, hp3, hq, hq3, hx, hy, hz, -beq_iff_eq, -beq_eq_false_iff_ne]
theorem eql39 (x y z x' y' z' : Int) (w : World) : (binOp .eql 39 (.agg #[.int .u32 x, .int .u32 y, .int .u32 z, .int .i64 0]) (.agg #[.int .u32 x', .int .u32 y', .int .u32 z', .int .i64 0])).run Try.prog w = .ok (.bool (x == x' && (y == y' && z == z'))) w := by
  rw [run_eql_struct, eq39]; rfl
theorem neql39 (x y z x' y' z' : Int) (w : World) : (binOp .neq 39 (.agg #[.int .u32 x, .int .u32 y, .int .u32 z, .int .i64 0]) (.agg #[.int .u32 x', .int .u32 y', .int .u32 z', .int .i64 0])).run Try.prog w = .ok (.bool (!(x == x' && (y == y' && z == z')))) w := by
  rw [run_neq_struct, eq39]; rfl
end Go.Proofs.Ytofkamnmgpkehab
