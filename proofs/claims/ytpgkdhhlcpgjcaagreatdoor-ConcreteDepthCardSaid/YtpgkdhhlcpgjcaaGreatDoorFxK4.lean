import Derived.Test.YtpgkdhhlcpgjcaaGreatDoorFxC0
/-
  Each is tested by the evaluator.
-/
namespace Go.Proofs.YtpgkdhhlcpgjcaaGreatDoor.Fx
open Ev Ev.Sh
set_option maxRecDepth 100000
theorem k213 : chk envT base1 [c212] c213 [3, 2, 21, 5, 14, 19, 23] = true := by kernel_rfl
theorem k214 : chk envT base1 [c211, c213, c185, c186, c187, c188, c189, c190, c192] c214 [15, 16] = true := by kernel_rfl
theorem k215 : chk envT base1 [] c215 [] = true := by kernel_rfl
theorem k216 : chk envT base1 [c215] c216 [] = true := by kernel_rfl
theorem k217 : chk envT base1 [c214, c216] c217 [] = true := by kernel_rfl
theorem k218 : chk envT base1 [] c218 [] = true := by kernel_rfl
theorem k219 : chk envT base1 [] c219 [] = true := by kernel_rfl
theorem k220 : chk envT base1 [] c220 [] = true := by kernel_rfl
theorem k221 : chk envT base1 [] c221 [] = true := by kernel_rfl
theorem k222 : chk envT base1 [] c222 [] = true := by kernel_rfl
theorem k223 : chk envT base1 [] c223 [] = true := by kernel_rfl
theorem k224 : chk envT base1 [] c224 [] = true := by kernel_rfl
theorem k225 : chk envT base1 [] c225 [] = true := by kernel_rfl
theorem k226 : chk envT base1 [] c226 [18] = true := by kernel_rfl
theorem k227 : chk envT base1 [c226] c227 [5, 4, 41, 7, 22, 31, 39, 43] = true := by kernel_rfl
theorem k228 : chk envT base1 [] c228 [] = true := by kernel_rfl
theorem k229 : chk envT base1 [] c229 [] = true := by kernel_rfl
theorem k230 : chk envT base1 [] c230 [] = true := by kernel_rfl
theorem k231 : chk envT base1 [] c231 [] = true := by kernel_rfl
theorem k232 : chk envT base1 [] c232 [] = true := by kernel_rfl
end Go.Proofs.YtpgkdhhlcpgjcaaGreatDoor.Fx
