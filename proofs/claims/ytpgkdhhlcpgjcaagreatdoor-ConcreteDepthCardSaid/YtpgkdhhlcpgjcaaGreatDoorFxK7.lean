import Derived.Test.YtpgkdhhlcpgjcaaGreatDoorFxC0
/-
  Each is tested by the evaluator.
-/
namespace Go.Proofs.YtpgkdhhlcpgjcaaGreatDoor.Fx
open Ev Ev.Sh
set_option maxRecDepth 100000
theorem k257 : chk envT base1 [] c257 [10] = true := by kernel_rfl
theorem k258 : chk envT base1 [] c258 [] = true := by kernel_rfl
theorem k259 : chk envT base1 [] c259 [15] = true := by kernel_rfl
theorem k260 : chk envT base1 [] c260 [10] = true := by kernel_rfl
theorem k261 : chk envT base1 [c246, c247, c248, c249, c250, c251, c252, c253, c254, c255, c256, c257, c258, c259, c260] c261 [] = true := by kernel_rfl
theorem k262 : chk envT base1 [c261, c24] c262 [] = true := by kernel_rfl
theorem k263 : chk envT base1 [] c263 [14] = true := by kernel_rfl
theorem k264 : chk envT base1 [c263] c264 [12] = true := by kernel_rfl
theorem k265 : chk envT base1 [c176, c11] c265 [6] = true := by kernel_rfl
theorem k266 : chk envT base1 [] c266 [] = true := by kernel_rfl
theorem k267 : chk envT base1 [c265, c266, c18] c267 [] = true := by kernel_rfl
theorem k268 : chk envT base1 [] c268 [] = true := by kernel_rfl
theorem k269 : chk envT base1 [c262, c264, c267, c268] c269 [10] = true := by kernel_rfl
theorem k270 : chk envT base1 [c269] c270 [] = true := by kernel_rfl
theorem k271 : chk envT base1 [] c271 [2] = true := by kernel_rfl
theorem k272 : chk envT base1 [c271, c26, c265] c272 [7] = true := by kernel_rfl
theorem k273 : chk envT base1 [c267, c24, c272, c28] c273 [8] = true := by kernel_rfl
theorem k274 : chk envT base1 [c273, c30, c31] c274 [8] = true := by kernel_rfl
theorem k275 : chk envT base1 [] c275 [] = true := by kernel_rfl
theorem k276 : chk envT base1 [c275] c276 [] = true := by kernel_rfl
theorem k277 : chk envT base1 [c276, c36] c277 [] = true := by kernel_rfl
theorem k278 : chk envT base1 [c274, c277] c278 [4, 6] = true := by kernel_rfl
theorem k279 : chk envT base1 [] c279 [] = true := by kernel_rfl
theorem k280 : chk envT base1 [c265] c280 [] = true := by kernel_rfl
theorem k281 : chk envT base1 [c267, c280] c281 [] = true := by kernel_rfl
theorem k282 : chk envT base1 [c279, c281] c282 [] = true := by kernel_rfl
theorem k283 : chk envT base1 [] c283 [] = true := by kernel_rfl
theorem k284 : chk envT base1 [] c284 [21, 9, 14, 19] = true := by kernel_rfl
theorem k285 : chk envT base1 [c246, c284] c285 [9, 10, 11, 12] = true := by kernel_rfl
theorem k286 : chk envT base1 [] c286 [] = true := by kernel_rfl
theorem k287 : chk envT base1 [c278, c282, c283, c285, c286] c287 [16, 12, 13, 24, 19, 20, 21, 22] = true := by kernel_rfl
theorem k288 : chk envT base1 [] c288 [] = true := by kernel_rfl
theorem k289 : chk envT base1 [c288] c289 [13] = true := by kernel_rfl
theorem k290 : chk envT base1 [c97, c287, c30, c289] c290 [30, 18, 19, 20, 21, 22, 23, 24, 25] = true := by kernel_rfl
theorem k291 : chk envT base1 [c276] c291 [] = true := by kernel_rfl
theorem k292 : chk envT base1 [c291] c292 [] = true := by kernel_rfl
theorem k293 : chk envT base1 [c35] c293 [] = true := by kernel_rfl
theorem k294 : chk envT base1 [c245, c293] c294 [] = true := by kernel_rfl
theorem k295 : chk envT base1 [c294] c295 [] = true := by kernel_rfl
theorem k296 : chk envT base1 [c35, c292, c295] c296 [] = true := by kernel_rfl
theorem k297 : chk envT base1 [c296, c36] c297 [] = true := by kernel_rfl
theorem k298 : chk envT base1 [c290, c297] c298 [20, 21, 22, 23, 24, 25, 26, 27, 28, 30, 31, 32, 33, 34, 35, 36, 37, 38] = true := by kernel_rfl
theorem k299 : chk envT base1 [c168, c241, c270, c298] c299 [16, 17, 18, 19, 20, 21, 22, 23, 24, 25, 26, 27, 28, 29, 30, 31, 32, 33] = true := by kernel_rfl
theorem k300 : chk envT base1 [] c300 [] = true := by kernel_rfl
theorem k301 : chk envT base1 [] c301 [21] = true := by kernel_rfl
end Go.Proofs.YtpgkdhhlcpgjcaaGreatDoor.Fx
