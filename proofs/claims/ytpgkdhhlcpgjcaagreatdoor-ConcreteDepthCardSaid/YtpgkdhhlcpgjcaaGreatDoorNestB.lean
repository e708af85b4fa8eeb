import Derived.Test.YtpgkdhhlcpgjcaaGreatDoorNestO
/-
  Lists in each other, however deep: the innermost list.
-/
namespace Go.Proofs.YtpgkdhhlcpgjcaaGreatDoor
open Ev Ev.Sh Go.RowKit
set_option maxRecDepth 100000
noncomputable def rowsO (K : Kind) (elems : List Nat) : List (Option Row1) := ((rows0 K).zip elems).map fun p => some ⟨p.1.cells, p.2, p.1.slack⟩
noncomputable def outNum : List (Nat × Option Row1) := [306, 298, 134, 214].zip (rowsO .num [99, 41, 57, 57])
noncomputable def outStr : List (Nat × Option Row1) := [745, 737, 382, 687, 373, 678, 371, 676, 369, 674].zip (rowsO .str [99, 41, 63, 63, 104, 104, 127, 127, 124, 124])
theorem canRun_num : canRun base1 (its .num 0) outNum = some (.tup [.agg (V0 (r 306 1)), bt]) := by kernel_rfl
theorem samRun_num : samRun base1 (its .num 0) = some bt := by kernel_rfl
theorem samRun_str : samRun base1 (its .str 0) = some bt := by kernel_rfl
end Go.Proofs.YtpgkdhhlcpgjcaaGreatDoor
