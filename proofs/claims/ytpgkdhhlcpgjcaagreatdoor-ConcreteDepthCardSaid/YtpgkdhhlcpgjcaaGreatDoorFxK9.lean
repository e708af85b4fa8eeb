import Derived.Test.YtpgkdhhlcpgjcaaGreatDoorFxC0
/-
  Each is tested by the evaluator.
-/
namespace Go.Proofs.YtpgkdhhlcpgjcaaGreatDoor.Fx
open Ev Ev.Sh
set_option maxRecDepth 100000
theorem k319 : chk envT base1 [c317, c318, c18] c319 [] = true := by kernel_rfl
theorem k320 : chk envT base1 [c312, c314, c319, c268] c320 [10] = true := by kernel_rfl
theorem k321 : chk envT base1 [c320] c321 [] = true := by kernel_rfl
theorem k322 : chk envT base1 [] c322 [2] = true := by kernel_rfl
theorem k323 : chk envT base1 [c316, c11] c323 [6] = true := by kernel_rfl
theorem k324 : chk envT base1 [c322, c26, c323] c324 [7] = true := by kernel_rfl
theorem k325 : chk envT base1 [c319, c24, c324, c28] c325 [8] = true := by kernel_rfl
theorem k326 : chk envT base1 [c325, c30, c31] c326 [8] = true := by kernel_rfl
theorem k327 : chk envT base1 [] c327 [] = true := by kernel_rfl
theorem k328 : chk envT base1 [c327] c328 [] = true := by kernel_rfl
theorem k329 : chk envT base1 [c328, c36] c329 [] = true := by kernel_rfl
theorem k330 : chk envT base1 [c326, c329] c330 [4, 6] = true := by kernel_rfl
theorem k331 : chk envT base1 [] c331 [] = true := by kernel_rfl
theorem k332 : chk envT base1 [] c332 [] = true := by kernel_rfl
theorem k333 : chk envT base1 [c323, c332, c18] c333 [] = true := by kernel_rfl
theorem k334 : chk envT base1 [c323] c334 [] = true := by kernel_rfl
theorem k335 : chk envT base1 [c333, c334] c335 [] = true := by kernel_rfl
theorem k336 : chk envT base1 [c331, c335] c336 [] = true := by kernel_rfl
theorem k337 : chk envT base1 [c330, c336, c283, c285, c286] c337 [16, 12, 13, 24, 19, 20, 21, 22] = true := by kernel_rfl
theorem k338 : chk envT base1 [] c338 [] = true := by kernel_rfl
theorem k339 : chk envT base1 [c338] c339 [13] = true := by kernel_rfl
theorem k340 : chk envT base1 [c97, c337, c30, c339] c340 [30, 18, 19, 20, 21, 22, 23, 24, 25] = true := by kernel_rfl
theorem k341 : chk envT base1 [c328] c341 [] = true := by kernel_rfl
theorem k342 : chk envT base1 [c341] c342 [] = true := by kernel_rfl
theorem k343 : chk envT base1 [c35, c342, c295] c343 [] = true := by kernel_rfl
theorem k344 : chk envT base1 [c343, c36] c344 [] = true := by kernel_rfl
theorem k345 : chk envT base1 [c340, c344] c345 [20, 21, 22, 23, 24, 25, 26, 27, 28, 30, 31, 32, 33, 34, 35, 36, 37, 38] = true := by kernel_rfl
theorem k346 : chk envT base1 [] c346 [] = true := by kernel_rfl
theorem k347 : chk envT base1 [c346] c347 [] = true := by kernel_rfl
theorem k348 : chk envT base1 [c347] c348 [] = true := by kernel_rfl
theorem k349 : chk envT base1 [c348] c349 [] = true := by kernel_rfl
theorem k350 : chk envT base1 [c35, c349, c295] c350 [] = true := by kernel_rfl
theorem k351 : chk envT base1 [c350] c351 [] = true := by kernel_rfl
theorem k352 : chk envT base1 [c321, c345, c351] c352 [] = true := by kernel_rfl
theorem k353 : chk envT base1 [] c353 [] = true := by kernel_rfl
theorem k354 : chk envT base1 [c317] c354 [] = true := by kernel_rfl
theorem k355 : chk envT base1 [c319, c354] c355 [] = true := by kernel_rfl
theorem k356 : chk envT base1 [c353, c355] c356 [] = true := by kernel_rfl
theorem k357 : chk envT base1 [] c357 [] = true := by kernel_rfl
theorem k358 : chk envT base1 [c357] c358 [] = true := by kernel_rfl
theorem k359 : chk envT base1 [c358] c359 [] = true := by kernel_rfl
theorem k360 : chk envT base1 [c359] c360 [7] = true := by kernel_rfl
theorem k361 : chk envT base1 [c360, c106] c361 [13, 14] = true := by kernel_rfl
theorem k362 : chk envT base1 [c265, c361] c362 [21, 22] = true := by kernel_rfl
theorem k363 : chk envT base1 [] c363 [8] = true := by kernel_rfl
theorem k364 : chk envT base1 [] c364 [] = true := by kernel_rfl
theorem k365 : chk envT base1 [c364] c365 [4] = true := by kernel_rfl
theorem k366 : chk envT base1 [c365, c11] c366 [6] = true := by kernel_rfl
theorem k367 : chk envT base1 [c317, c361, c363, c366] c367 [12] = true := by kernel_rfl
theorem k368 : chk envT base1 [c319, c267, c362, c367] c368 [14] = true := by kernel_rfl
theorem k369 : chk envT base1 [] c369 [] = true := by kernel_rfl
theorem k370 : chk envT base1 [c366, c369, c18] c370 [] = true := by kernel_rfl
theorem k371 : chk envT base1 [c366] c371 [] = true := by kernel_rfl
theorem k372 : chk envT base1 [c370, c371] c372 [] = true := by kernel_rfl
theorem k373 : chk envT base1 [c368, c372] c373 [] = true := by kernel_rfl
theorem k374 : chk envT base1 [c355, c179, c373] c374 [] = true := by kernel_rfl
theorem k375 : chk envT base1 [c352, c112, c356, c374, c355] c375 [47, 45, 37] = true := by kernel_rfl
theorem k376 : chk envT base1 [] c376 [] = true := by kernel_rfl
theorem k377 : chk envT base1 [c39, c67, c134, c160, c161, c299, c375, c376] c377 [] = true := by kernel_rfl
end Go.Proofs.YtpgkdhhlcpgjcaaGreatDoor.Fx
