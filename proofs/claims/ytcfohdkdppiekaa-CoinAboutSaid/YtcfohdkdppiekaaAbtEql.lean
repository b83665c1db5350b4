/- Whether two abouts are alike, as the program asks it. -/
import Derived.Test.YtcfohdkdppiekaaWShort
import Derived.Laws.Cover2
import Derived.Laws.StructEq
import Derived.KernelRfl
namespace Go.Proofs.Ytcfohdkdppiekaa
open Go.RowKit Go.Proofs Go
theorem eqA3 (x y z m n o : Int) (w : World) : (Op.equalIn 9999 123 (.agg #[.int .u64 x, .int .u64 y, .int .u64 z]) (.agg #[.int .u64 m, .int .u64 n, .int .u64 o])).run Try.prog w = .ok (x == m && (y == n && z == o)) w := by
  have u3 := Try.underlying32
  have a3 := Try.isAgg32
  have z3 := Try.sizeOf32
  rw [show (9999 : Nat) = 9998 + 1 from rfl, Op.equalIn]
  simp only [Sem.run_bind, run_underlying Try.underlying123, Result.andThen_ok]
  simp only [Std.Legacy.Range.forIn_eq_forIn_range', Std.Legacy.Range.size, Nat.sub_zero, Nat.add_sub_cancel, Nat.div_one, List.range'_succ, List.range'_zero, List.forIn_cons, List.forIn_nil]
  go_simp
  by_cases h1 : x = m <;> by_cases h2 : y = n <;> by_cases h3 : z = o <;> simp [h1, h2, h3]
set_option maxRecDepth 100000 in
theorem eqAbt (a b c d e f : List UInt8) (x y z m n o : Int) (w : World) : (Op.equalIn 10000 125 (.agg #[.string ⟨a.toArray⟩, .string ⟨b.toArray⟩, .string ⟨c.toArray⟩, .int .u64 x, .int .u64 y, .int .u64 z]) (.agg #[.string ⟨d.toArray⟩, .string ⟨e.toArray⟩, .string ⟨f.toArray⟩, .int .u64 m, .int .u64 n, .int .u64 o])).run Try.prog w = .ok (decide (a = d) && (decide (b = e) && (decide (c = f) && (x == m && (y == n && z == o))))) w := by
  have u1 := Try.underlying9
  have a1 := Try.isAgg9
  have z1 := Try.sizeOf9
  have a2 := Try.isAgg123
  have z2 := Try.sizeOf123
  have hS : Try.prog.underlying 125 = some (.struct (Try.prog.fieldsOf 125)) := by kernel_rfl
  have hp : Try.prog.stoodInHeld 125 = false := by kernel_rfl
  rw [show (10000 : Nat) = 9999 + 1 from rfl, run_equalIn_agg w 9999 125 _ _ hS hp]
  simp only [Program.fieldsOf, Try.underlying125]
  have h3 := eqA3 x y z m n o w
  go_simp
  by_cases h1 : a = d <;> by_cases h2 : b = e <;> by_cases h3 : c = f <;> by_cases k1 : x = m <;> by_cases k2 : y = n <;> by_cases k3 : z = o <;> simp [h1, h2, h3, k1, k2, k3]
end Go.Proofs.Ytcfohdkdppiekaa
