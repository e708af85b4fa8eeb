import Derived.Test.YtpgkdhhlcpgjcaaGreatDoorSndO
import Derived.Test.YtpgkdhhlcpgjcaaGreatDoorFxC0
/-
  The runs of the whole function, E.
-/
namespace Go.Proofs.YtpgkdhhlcpgjcaaGreatDoor
open Ev Ev.Sh Go.RowKit
set_option maxRecDepth 100000
theorem tn16 : chk envT (extT .num 0 Fx.c377) [] (topF 16 false) [] = true := by kernel_rfl
theorem tn17 : chk envT (extT .num 0 Fx.c377) [] (topF 17 false) [] = true := by kernel_rfl
theorem tn18 : chk envT (extT .num 0 Fx.c377) [] (topF 18 false) [] = true := by kernel_rfl
theorem tn19 : chk envT (extT .num 0 Fx.c377) [] (topF 19 false) [] = true := by kernel_rfl
theorem tn20 : chk envT (extT .num 0 Fx.c377) [] (topF 20 false) [] = true := by kernel_rfl
theorem ts16 : chk envT (extT .str 0 Fx.c377) [] (topF 16 true) [] = true := by kernel_rfl
theorem ts17 : chk envT (extT .str 0 Fx.c377) [] (topF 17 true) [] = true := by kernel_rfl
theorem ts18 : chk envT (extT .str 0 Fx.c377) [] (topF 18 true) [] = true := by kernel_rfl
theorem ts19 : chk envT (extT .str 0 Fx.c377) [] (topF 19 true) [] = true := by kernel_rfl
theorem ts20 : chk envT (extT .str 0 Fx.c377) [] (topF 20 true) [] = true := by kernel_rfl
end Go.Proofs.YtpgkdhhlcpgjcaaGreatDoor
