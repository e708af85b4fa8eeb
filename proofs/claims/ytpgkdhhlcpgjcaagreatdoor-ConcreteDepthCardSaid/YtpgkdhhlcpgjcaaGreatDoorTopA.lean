import Derived.Test.YtpgkdhhlcpgjcaaGreatDoorSndO
import Derived.Test.YtpgkdhhlcpgjcaaGreatDoorFxC0
/-
  The runs of the whole function, A.
-/
namespace Go.Proofs.YtpgkdhhlcpgjcaaGreatDoor
open Ev Ev.Sh Go.RowKit
set_option maxRecDepth 100000
theorem tn1 : chk envT (extT .num 0 Fx.c377) [] (topF 1 false) [] = true := by kernel_rfl
theorem tn2 : chk envT (extT .num 1 Fx.c377) [] (topF 2 false) [] = true := by kernel_rfl
theorem tn3 : chk envT (extT .num 2 Fx.c377) [] (topF 3 false) [] = true := by kernel_rfl
theorem tn4 : chk envT (extT .num 3 Fx.c377) [] (topF 4 false) [] = true := by kernel_rfl
theorem tn5 : chk envT (extT .num 4 Fx.c377) [] (topF 5 false) [] = true := by kernel_rfl
theorem tn6 : chk envT (extT .num 5 Fx.c377) [] (topF 6 false) [] = true := by kernel_rfl
theorem tn7 : chk envT (extT .num 6 Fx.c377) [] (topF 7 false) [] = true := by kernel_rfl
end Go.Proofs.YtpgkdhhlcpgjcaaGreatDoor
