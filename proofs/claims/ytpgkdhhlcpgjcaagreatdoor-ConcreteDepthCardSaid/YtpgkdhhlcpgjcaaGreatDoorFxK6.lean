import Derived.Test.YtpgkdhhlcpgjcaaGreatDoorFxC0
/-
  Each is tested by the evaluator.
-/
namespace Go.Proofs.YtpgkdhhlcpgjcaaGreatDoor.Fx
open Ev Ev.Sh
set_option maxRecDepth 100000
theorem k240 : chk envT base1 [c239] c240 [10, 11, 12, 13] = true := by kernel_rfl
theorem k241 : chk envT base1 [c180, c181, c196, c197, c240] c241 [24, 9, 7, 23, 19, 20, 21, 22] = true := by kernel_rfl
theorem k242 : chk envT base1 [] c242 [] = true := by kernel_rfl
theorem k243 : chk envT base1 [] c243 [] = true := by kernel_rfl
theorem k244 : chk envT base1 [] c244 [] = true := by kernel_rfl
theorem k245 : chk envT base1 [c242, c243, c244] c245 [] = true := by kernel_rfl
theorem k246 : chk envT base1 [c238, c245] c246 [] = true := by kernel_rfl
theorem k247 : chk envT base1 [] c247 [] = true := by kernel_rfl
theorem k248 : chk envT base1 [] c248 [] = true := by kernel_rfl
theorem k249 : chk envT base1 [] c249 [21] = true := by kernel_rfl
theorem k250 : chk envT base1 [] c250 [10] = true := by kernel_rfl
theorem k251 : chk envT base1 [] c251 [] = true := by kernel_rfl
theorem k252 : chk envT base1 [] c252 [10] = true := by kernel_rfl
theorem k253 : chk envT base1 [] c253 [] = true := by kernel_rfl
theorem k254 : chk envT base1 [] c254 [10] = true := by kernel_rfl
theorem k255 : chk envT base1 [] c255 [] = true := by kernel_rfl
theorem k256 : chk envT base1 [] c256 [15] = true := by kernel_rfl
end Go.Proofs.YtpgkdhhlcpgjcaaGreatDoor.Fx
