import Derived.Test.YtpgkdhhlcpgjcaaGreatDoorSndO
import Derived.Test.YtpgkdhhlcpgjcaaGreatDoorFxC0
/-
  The runs of the whole function, D.
-/
namespace Go.Proofs.YtpgkdhhlcpgjcaaGreatDoor
open Ev Ev.Sh Go.RowKit
set_option maxRecDepth 100000
theorem ts8 : chk envT (extT .str 7 Fx.c377) [] (topF 8 true) [] = true := by kernel_rfl
theorem ts9 : chk envT (extT .str 8 Fx.c377) [] (topF 9 true) [] = true := by kernel_rfl
theorem ts10 : chk envT (extT .str 9 Fx.c377) [] (topF 10 true) [] = true := by kernel_rfl
theorem ts11 : chk envT (extT .str 10 Fx.c377) [] (topF 11 true) [] = true := by kernel_rfl
theorem ts12 : chk envT (extT .str 11 Fx.c377) [] (topF 12 true) [] = true := by kernel_rfl
theorem ts13 : chk envT (extT .str 12 Fx.c377) [] (topF 13 true) [] = true := by kernel_rfl
theorem ts14 : chk envT (extT .str 13 Fx.c377) [] (topF 14 true) [] = true := by kernel_rfl
theorem ts15 : chk envT (extT .str 14 Fx.c377) [] (topF 15 true) [] = true := by kernel_rfl
end Go.Proofs.YtpgkdhhlcpgjcaaGreatDoor
