import Derived.Test.YtpgkdhhlcpgjcaaGreatDoorFxC0
/-
  Each is tested by the evaluator.
-/
namespace Go.Proofs.YtpgkdhhlcpgjcaaGreatDoor.Fx
open Ev Ev.Sh
set_option maxRecDepth 100000
theorem k233 : chk envT base1 [] c233 [] = true := by kernel_rfl
theorem k234 : chk envT base1 [] c234 [] = true := by kernel_rfl
theorem k235 : chk envT base1 [] c235 [] = true := by kernel_rfl
theorem k236 : chk envT base1 [] c236 [9] = true := by kernel_rfl
theorem k237 : chk envT base1 [c236] c237 [36, 24, 29, 34] = true := by kernel_rfl
theorem k238 : chk envT base1 [c225, c227, c228, c229, c230, c231, c232, c233, c234, c235, c237] c238 [18, 19, 20, 21] = true := by kernel_rfl
theorem k239 : chk envT base1 [c210, c217, c218, c219, c220, c221, c222, c223, c224, c238] c239 [64, 65, 66, 67] = true := by kernel_rfl
end Go.Proofs.YtpgkdhhlcpgjcaaGreatDoor.Fx
