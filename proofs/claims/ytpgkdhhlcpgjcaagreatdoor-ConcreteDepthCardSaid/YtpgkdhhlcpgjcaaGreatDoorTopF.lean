import Derived.Test.YtpgkdhhlcpgjcaaGreatDoorSndO
import Derived.Test.YtpgkdhhlcpgjcaaGreatDoorFxC0
/-
  The runs of the whole function, F.
-/
namespace Go.Proofs.YtpgkdhhlcpgjcaaGreatDoor
open Ev Ev.Sh Go.RowKit
set_option maxRecDepth 100000
theorem tn0 : chk envT (extT .num 0 Fx.c377) [] (topF 0 false) [] = true := by kernel_rfl
end Go.Proofs.YtpgkdhhlcpgjcaaGreatDoor
