import Derived.Test.YtpgkdhhlcpgjcaaGreatDoorSndO
import Derived.Test.YtpgkdhhlcpgjcaaGreatDoorFxC0
/-
  The runs of the whole function, C.
-/
namespace Go.Proofs.YtpgkdhhlcpgjcaaGreatDoor
open Ev Ev.Sh Go.RowKit
set_option maxRecDepth 100000
theorem ts1 : chk envT (extT .str 0 Fx.c377) [] (topF 1 true) [] = true := by kernel_rfl
theorem ts2 : chk envT (extT .str 1 Fx.c377) [] (topF 2 true) [] = true := by kernel_rfl
theorem ts3 : chk envT (extT .str 2 Fx.c377) [] (topF 3 true) [] = true := by kernel_rfl
theorem ts4 : chk envT (extT .str 3 Fx.c377) [] (topF 4 true) [] = true := by kernel_rfl
theorem ts5 : chk envT (extT .str 4 Fx.c377) [] (topF 5 true) [] = true := by kernel_rfl
theorem ts6 : chk envT (extT .str 5 Fx.c377) [] (topF 6 true) [] = true := by kernel_rfl
theorem ts7 : chk envT (extT .str 6 Fx.c377) [] (topF 7 true) [] = true := by kernel_rfl
end Go.Proofs.YtpgkdhhlcpgjcaaGreatDoor
