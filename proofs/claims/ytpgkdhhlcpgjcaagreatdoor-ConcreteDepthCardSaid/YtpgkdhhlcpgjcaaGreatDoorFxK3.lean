import Derived.Test.YtpgkdhhlcpgjcaaGreatDoorFxC0
/-
  Each is tested by the evaluator.
-/
namespace Go.Proofs.YtpgkdhhlcpgjcaaGreatDoor.Fx
open Ev Ev.Sh
set_option maxRecDepth 100000
theorem k192 : chk envT base1 [c191] c192 [22, 17] = true := by kernel_rfl
theorem k193 : chk envT base1 [c182, c184, c185, c186, c187, c188, c189, c190, c192] c193 [15, 16] = true := by kernel_rfl
theorem k194 : chk envT base1 [] c194 [] = true := by kernel_rfl
theorem k195 : chk envT base1 [c194] c195 [] = true := by kernel_rfl
theorem k196 : chk envT base1 [c193, c195] c196 [] = true := by kernel_rfl
theorem k197 : chk envT base1 [] c197 [12, 7] = true := by kernel_rfl
theorem k198 : chk envT base1 [] c198 [] = true := by kernel_rfl
theorem k199 : chk envT base1 [] c199 [6] = true := by kernel_rfl
theorem k200 : chk envT base1 [c199] c200 [3, 2, 13, 5, 11, 15] = true := by kernel_rfl
theorem k201 : chk envT base1 [] c201 [] = true := by kernel_rfl
theorem k202 : chk envT base1 [] c202 [] = true := by kernel_rfl
theorem k203 : chk envT base1 [] c203 [] = true := by kernel_rfl
theorem k204 : chk envT base1 [] c204 [] = true := by kernel_rfl
theorem k205 : chk envT base1 [] c205 [7] = true := by kernel_rfl
theorem k206 : chk envT base1 [c205] c206 [16, 14] = true := by kernel_rfl
theorem k207 : chk envT base1 [c198, c200, c201, c202, c203, c204, c206] c207 [14, 15] = true := by kernel_rfl
theorem k208 : chk envT base1 [] c208 [] = true := by kernel_rfl
theorem k209 : chk envT base1 [c208] c209 [] = true := by kernel_rfl
theorem k210 : chk envT base1 [c207, c209] c210 [] = true := by kernel_rfl
theorem k211 : chk envT base1 [] c211 [] = true := by kernel_rfl
theorem k212 : chk envT base1 [] c212 [11] = true := by kernel_rfl
end Go.Proofs.YtpgkdhhlcpgjcaaGreatDoor.Fx
