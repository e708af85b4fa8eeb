import Derived.Test.YtaianhhmmacblaaRelOps
/-
  The two fields of a set of numbers.
-/
namespace Go.Proofs.Ytaianhhmmacblaa
open Go.RowKit

theorem run_field0 (x y : Value) (w : World) : (Instr.field 24 (.agg #[x, y]) 0).run Try.prog w = .ok x w := by
  have hu := Try.underlying24
  have h2 : ∀ w, (isAgg 22).run Try.prog w = .ok false w := fun w => Try.isAgg22 w
  simp [Instr.field, run_underlying hu, go_sem, part, asAgg, h2]
theorem run_field1 (x y : Value) (w : World) : (Instr.field 24 (.agg #[x, y]) 1).run Try.prog w = .ok y w := by
  have hu := Try.underlying24
  have h2 : ∀ w, (isAgg 22).run Try.prog w = .ok false w := fun w => Try.isAgg22 w
  simp [Instr.field, run_underlying hu, go_sem, part, asAgg, h2]
end Go.Proofs.Ytaianhhmmacblaa
