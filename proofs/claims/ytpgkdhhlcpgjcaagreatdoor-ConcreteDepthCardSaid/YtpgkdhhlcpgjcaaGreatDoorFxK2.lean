import Derived.Test.YtpgkdhhlcpgjcaaGreatDoorFxC0
/-
  Each is tested by the evaluator.
-/
namespace Go.Proofs.YtpgkdhhlcpgjcaaGreatDoor.Fx
open Ev Ev.Sh
set_option maxRecDepth 100000
theorem k163 : chk envT base1 [c162] c163 [] = true := by kernel_rfl
theorem k164 : chk envT base1 [] c164 [4] = true := by kernel_rfl
theorem k165 : chk envT base1 [] c165 [] = true := by kernel_rfl
theorem k166 : chk envT base1 [c165] c166 [] = true := by kernel_rfl
theorem k167 : chk envT base1 [c166] c167 [] = true := by kernel_rfl
theorem k168 : chk envT base1 [c163, c164, c167] c168 [] = true := by kernel_rfl
theorem k169 : chk envT base1 [c166] c169 [] = true := by kernel_rfl
theorem k170 : chk envT base1 [] c170 [] = true := by kernel_rfl
theorem k171 : chk envT base1 [c170] c171 [4] = true := by kernel_rfl
theorem k172 : chk envT base1 [] c172 [] = true := by kernel_rfl
theorem k173 : chk envT base1 [c172] c173 [4] = true := by kernel_rfl
theorem k174 : chk envT base1 [c171, c173] c174 [10, 11] = true := by kernel_rfl
theorem k175 : chk envT base1 [] c175 [] = true := by kernel_rfl
theorem k176 : chk envT base1 [c175] c176 [4] = true := by kernel_rfl
theorem k177 : chk envT base1 [c176, c11] c177 [8] = true := by kernel_rfl
theorem k178 : chk envT base1 [c3, c174, c177] c178 [9] = true := by kernel_rfl
theorem k179 : chk envT base1 [c169, c178] c179 [5] = true := by kernel_rfl
theorem k180 : chk envT base1 [c179] c180 [3] = true := by kernel_rfl
theorem k181 : chk envT base1 [] c181 [6, 2] = true := by kernel_rfl
theorem k182 : chk envT base1 [] c182 [] = true := by kernel_rfl
theorem k183 : chk envT base1 [] c183 [11] = true := by kernel_rfl
theorem k184 : chk envT base1 [c183] c184 [3, 2, 21, 5, 14, 19, 23] = true := by kernel_rfl
theorem k185 : chk envT base1 [] c185 [] = true := by kernel_rfl
theorem k186 : chk envT base1 [] c186 [] = true := by kernel_rfl
theorem k187 : chk envT base1 [] c187 [] = true := by kernel_rfl
theorem k188 : chk envT base1 [] c188 [] = true := by kernel_rfl
theorem k189 : chk envT base1 [] c189 [] = true := by kernel_rfl
theorem k190 : chk envT base1 [] c190 [] = true := by kernel_rfl
theorem k191 : chk envT base1 [] c191 [8] = true := by kernel_rfl
end Go.Proofs.YtpgkdhhlcpgjcaaGreatDoor.Fx
