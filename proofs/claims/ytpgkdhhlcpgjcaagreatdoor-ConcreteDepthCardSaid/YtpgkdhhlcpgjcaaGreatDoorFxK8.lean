import Derived.Test.YtpgkdhhlcpgjcaaGreatDoorFxC0
/-
  Each is tested by the evaluator.
-/
namespace Go.Proofs.YtpgkdhhlcpgjcaaGreatDoor.Fx
open Ev Ev.Sh
set_option maxRecDepth 100000
theorem k302 : chk envT base1 [] c302 [10] = true := by kernel_rfl
theorem k303 : chk envT base1 [] c303 [10] = true := by kernel_rfl
theorem k304 : chk envT base1 [] c304 [10] = true := by kernel_rfl
theorem k305 : chk envT base1 [] c305 [] = true := by kernel_rfl
theorem k306 : chk envT base1 [] c306 [15] = true := by kernel_rfl
theorem k307 : chk envT base1 [] c307 [10] = true := by kernel_rfl
theorem k308 : chk envT base1 [] c308 [] = true := by kernel_rfl
theorem k309 : chk envT base1 [] c309 [15] = true := by kernel_rfl
theorem k310 : chk envT base1 [] c310 [10] = true := by kernel_rfl
theorem k311 : chk envT base1 [c246, c247, c300, c301, c302, c251, c303, c253, c304, c305, c306, c307, c308, c309, c310] c311 [] = true := by kernel_rfl
theorem k312 : chk envT base1 [c311, c24] c312 [] = true := by kernel_rfl
theorem k313 : chk envT base1 [] c313 [14] = true := by kernel_rfl
theorem k314 : chk envT base1 [c313] c314 [12] = true := by kernel_rfl
theorem k315 : chk envT base1 [] c315 [] = true := by kernel_rfl
theorem k316 : chk envT base1 [c315] c316 [4] = true := by kernel_rfl
theorem k317 : chk envT base1 [c316, c11] c317 [6] = true := by kernel_rfl
theorem k318 : chk envT base1 [] c318 [] = true := by kernel_rfl
end Go.Proofs.YtpgkdhhlcpgjcaaGreatDoor.Fx
