import Derived.Test.YtpgkdhhlcpgjcaaGreatDoorSndO
import Derived.Test.YtpgkdhhlcpgjcaaGreatDoorFxC0
/-
  The runs of the whole function, B.
-/
namespace Go.Proofs.YtpgkdhhlcpgjcaaGreatDoor
open Ev Ev.Sh Go.RowKit
set_option maxRecDepth 100000
theorem tn8 : chk envT (extT .num 7 Fx.c377) [] (topF 8 false) [] = true := by kernel_rfl
theorem tn9 : chk envT (extT .num 8 Fx.c377) [] (topF 9 false) [] = true := by kernel_rfl
theorem tn10 : chk envT (extT .num 9 Fx.c377) [] (topF 10 false) [] = true := by kernel_rfl
theorem tn11 : chk envT (extT .num 10 Fx.c377) [] (topF 11 false) [] = true := by kernel_rfl
theorem tn12 : chk envT (extT .num 11 Fx.c377) [] (topF 12 false) [] = true := by kernel_rfl
theorem tn13 : chk envT (extT .num 12 Fx.c377) [] (topF 13 false) [] = true := by kernel_rfl
theorem tn14 : chk envT (extT .num 13 Fx.c377) [] (topF 14 false) [] = true := by kernel_rfl
theorem tn15 : chk envT (extT .num 14 Fx.c377) [] (topF 15 false) [] = true := by kernel_rfl
end Go.Proofs.YtpgkdhhlcpgjcaaGreatDoor
