import Derived.Test.YtpgkdhhlcpgjcaaGreatDoorFxC0
/-
  Each is tested by the evaluator.
-/
namespace Go.Proofs.YtpgkdhhlcpgjcaaGreatDoor.Fx
open Ev Ev.Sh
set_option maxRecDepth 100000
theorem k0 : chk envT base1 [] c0 [] = true := by kernel_rfl
theorem k1 : chk envT base1 [c0] c1 [] = true := by kernel_rfl
theorem k2 : chk envT base1 [c1] c2 [] = true := by kernel_rfl
theorem k3 : chk envT base1 [] c3 [] = true := by kernel_rfl
theorem k4 : chk envT base1 [] c4 [] = true := by kernel_rfl
theorem k5 : chk envT base1 [c4] c5 [4] = true := by kernel_rfl
theorem k6 : chk envT base1 [] c6 [] = true := by kernel_rfl
theorem k7 : chk envT base1 [c6] c7 [4] = true := by kernel_rfl
theorem k8 : chk envT base1 [c5, c7] c8 [10, 11] = true := by kernel_rfl
theorem k9 : chk envT base1 [] c9 [] = true := by kernel_rfl
theorem k10 : chk envT base1 [c9] c10 [4] = true := by kernel_rfl
theorem k11 : chk envT base1 [] c11 [] = true := by kernel_rfl
theorem k12 : chk envT base1 [c10, c11] c12 [8] = true := by kernel_rfl
theorem k13 : chk envT base1 [c3, c8, c12] c13 [9] = true := by kernel_rfl
theorem k14 : chk envT base1 [c2, c13] c14 [5] = true := by kernel_rfl
theorem k15 : chk envT base1 [c14] c15 [3] = true := by kernel_rfl
theorem k16 : chk envT base1 [c10, c11] c16 [6] = true := by kernel_rfl
theorem k17 : chk envT base1 [] c17 [] = true := by kernel_rfl
theorem k18 : chk envT base1 [] c18 [] = true := by kernel_rfl
theorem k19 : chk envT base1 [c16, c17, c18] c19 [] = true := by kernel_rfl
theorem k20 : chk envT base1 [c19] c20 [2] = true := by kernel_rfl
theorem k21 : chk envT base1 [c20] c21 [] = true := by kernel_rfl
theorem k22 : chk envT base1 [c11] c22 [] = true := by kernel_rfl
theorem k23 : chk envT base1 [] c23 [] = true := by kernel_rfl
theorem k24 : chk envT base1 [c22, c23, c18] c24 [] = true := by kernel_rfl
theorem k25 : chk envT base1 [] c25 [2] = true := by kernel_rfl
theorem k26 : chk envT base1 [] c26 [] = true := by kernel_rfl
theorem k27 : chk envT base1 [c25, c26, c16] c27 [7] = true := by kernel_rfl
theorem k28 : chk envT base1 [c18] c28 [] = true := by kernel_rfl
theorem k29 : chk envT base1 [c19, c24, c27, c28] c29 [8] = true := by kernel_rfl
theorem k30 : chk envT base1 [] c30 [] = true := by kernel_rfl
theorem k31 : chk envT base1 [] c31 [] = true := by kernel_rfl
theorem k32 : chk envT base1 [c29, c30, c31] c32 [8] = true := by kernel_rfl
theorem k33 : chk envT base1 [] c33 [] = true := by kernel_rfl
theorem k34 : chk envT base1 [c33] c34 [] = true := by kernel_rfl
theorem k35 : chk envT base1 [] c35 [] = true := by kernel_rfl
theorem k36 : chk envT base1 [c35] c36 [] = true := by kernel_rfl
theorem k37 : chk envT base1 [c34, c36] c37 [] = true := by kernel_rfl
theorem k38 : chk envT base1 [c32, c37] c38 [4, 6] = true := by kernel_rfl
theorem k39 : chk envT base1 [c2, c15, c21, c38] c39 [8, 9] = true := by kernel_rfl
theorem k40 : chk envT base1 [] c40 [] = true := by kernel_rfl
theorem k41 : chk envT base1 [c40] c41 [] = true := by kernel_rfl
theorem k42 : chk envT base1 [c41] c42 [] = true := by kernel_rfl
theorem k43 : chk envT base1 [] c43 [] = true := by kernel_rfl
theorem k44 : chk envT base1 [c43] c44 [4] = true := by kernel_rfl
theorem k45 : chk envT base1 [] c45 [] = true := by kernel_rfl
theorem k46 : chk envT base1 [c45] c46 [4] = true := by kernel_rfl
theorem k47 : chk envT base1 [c44, c46] c47 [10, 11] = true := by kernel_rfl
theorem k48 : chk envT base1 [] c48 [] = true := by kernel_rfl
theorem k49 : chk envT base1 [c48] c49 [4] = true := by kernel_rfl
theorem k50 : chk envT base1 [c49, c11] c50 [8] = true := by kernel_rfl
theorem k51 : chk envT base1 [c3, c47, c50] c51 [9] = true := by kernel_rfl
theorem k52 : chk envT base1 [c42, c51] c52 [5] = true := by kernel_rfl
theorem k53 : chk envT base1 [c52] c53 [3] = true := by kernel_rfl
theorem k54 : chk envT base1 [c49, c11] c54 [6] = true := by kernel_rfl
theorem k55 : chk envT base1 [] c55 [] = true := by kernel_rfl
theorem k56 : chk envT base1 [c54, c55, c18] c56 [] = true := by kernel_rfl
theorem k57 : chk envT base1 [c56] c57 [2] = true := by kernel_rfl
theorem k58 : chk envT base1 [c57] c58 [] = true := by kernel_rfl
theorem k59 : chk envT base1 [] c59 [2] = true := by kernel_rfl
theorem k60 : chk envT base1 [c59, c26, c54] c60 [7] = true := by kernel_rfl
theorem k61 : chk envT base1 [c56, c24, c60, c28] c61 [8] = true := by kernel_rfl
theorem k62 : chk envT base1 [c61, c30, c31] c62 [8] = true := by kernel_rfl
theorem k63 : chk envT base1 [] c63 [] = true := by kernel_rfl
theorem k64 : chk envT base1 [c63] c64 [] = true := by kernel_rfl
theorem k65 : chk envT base1 [c64, c36] c65 [] = true := by kernel_rfl
theorem k66 : chk envT base1 [c62, c65] c66 [4, 6] = true := by kernel_rfl
theorem k67 : chk envT base1 [c42, c53, c58, c66] c67 [8, 9] = true := by kernel_rfl
theorem k68 : chk envT base1 [c34] c68 [] = true := by kernel_rfl
theorem k69 : chk envT base1 [c21, c38, c68] c69 [] = true := by kernel_rfl
theorem k70 : chk envT base1 [c64] c70 [] = true := by kernel_rfl
theorem k71 : chk envT base1 [c58, c66, c70] c71 [] = true := by kernel_rfl
theorem k72 : chk envT base1 [] c72 [2] = true := by kernel_rfl
theorem k73 : chk envT base1 [c72, c26, c16] c73 [7] = true := by kernel_rfl
theorem k74 : chk envT base1 [c24, c19, c73, c28] c74 [8] = true := by kernel_rfl
theorem k75 : chk envT base1 [] c75 [] = true := by kernel_rfl
theorem k76 : chk envT base1 [] c76 [3] = true := by kernel_rfl
theorem k77 : chk envT base1 [] c77 [] = true := by kernel_rfl
theorem k78 : chk envT base1 [c77] c78 [] = true := by kernel_rfl
theorem k79 : chk envT base1 [c78] c79 [] = true := by kernel_rfl
theorem k80 : chk envT base1 [c79] c80 [4] = true := by kernel_rfl
theorem k81 : chk envT base1 [c80, c11] c81 [9] = true := by kernel_rfl
end Go.Proofs.YtpgkdhhlcpgjcaaGreatDoor.Fx
