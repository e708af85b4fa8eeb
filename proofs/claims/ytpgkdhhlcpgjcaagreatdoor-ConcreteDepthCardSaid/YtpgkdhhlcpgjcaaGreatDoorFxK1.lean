import Derived.Test.YtpgkdhhlcpgjcaaGreatDoorFxC0
/-
  Each is tested by the evaluator.
-/
namespace Go.Proofs.YtpgkdhhlcpgjcaaGreatDoor.Fx
open Ev Ev.Sh
set_option maxRecDepth 100000
theorem k82 : chk envT base1 [c76, c26, c81] c82 [8] = true := by kernel_rfl
theorem k83 : chk envT base1 [c19, c56, c82, c28] c83 [9] = true := by kernel_rfl
theorem k84 : chk envT base1 [] c84 [] = true := by kernel_rfl
theorem k85 : chk envT base1 [c84] c85 [4] = true := by kernel_rfl
theorem k86 : chk envT base1 [c85, c11] c86 [6] = true := by kernel_rfl
theorem k87 : chk envT base1 [] c87 [] = true := by kernel_rfl
theorem k88 : chk envT base1 [c86, c87, c18] c88 [] = true := by kernel_rfl
theorem k89 : chk envT base1 [c88] c89 [3] = true := by kernel_rfl
theorem k90 : chk envT base1 [c24] c90 [1] = true := by kernel_rfl
theorem k91 : chk envT base1 [c89, c90] c91 [] = true := by kernel_rfl
theorem k92 : chk envT base1 [] c92 [2] = true := by kernel_rfl
theorem k93 : chk envT base1 [c92, c26, c86] c93 [7] = true := by kernel_rfl
theorem k94 : chk envT base1 [c88, c24, c93, c28] c94 [8] = true := by kernel_rfl
theorem k95 : chk envT base1 [c94, c30, c31] c95 [9] = true := by kernel_rfl
theorem k96 : chk envT base1 [c26, c22] c96 [] = true := by kernel_rfl
theorem k97 : chk envT base1 [c24, c96, c28] c97 [] = true := by kernel_rfl
theorem k98 : chk envT base1 [c97, c30, c31] c98 [] = true := by kernel_rfl
theorem k99 : chk envT base1 [] c99 [] = true := by kernel_rfl
theorem k100 : chk envT base1 [c99] c100 [] = true := by kernel_rfl
theorem k101 : chk envT base1 [] c101 [] = true := by kernel_rfl
theorem k102 : chk envT base1 [c101] c102 [] = true := by kernel_rfl
theorem k103 : chk envT base1 [c102] c103 [] = true := by kernel_rfl
theorem k104 : chk envT base1 [c103] c104 [7] = true := by kernel_rfl
theorem k105 : chk envT base1 [] c105 [] = true := by kernel_rfl
theorem k106 : chk envT base1 [c105] c106 [4] = true := by kernel_rfl
theorem k107 : chk envT base1 [c104, c106] c107 [13, 14] = true := by kernel_rfl
theorem k108 : chk envT base1 [c86, c107] c108 [21, 22] = true := by kernel_rfl
theorem k109 : chk envT base1 [c22, c107] c109 [] = true := by kernel_rfl
theorem k110 : chk envT base1 [c24, c88, c108, c109] c110 [] = true := by kernel_rfl
theorem k111 : chk envT base1 [c22] c111 [] = true := by kernel_rfl
theorem k112 : chk envT base1 [c24, c111] c112 [] = true := by kernel_rfl
theorem k113 : chk envT base1 [c110, c112] c113 [] = true := by kernel_rfl
theorem k114 : chk envT base1 [c100, c113] c114 [] = true := by kernel_rfl
theorem k115 : chk envT base1 [c95, c98, c114] c115 [4] = true := by kernel_rfl
theorem k116 : chk envT base1 [c74, c75, c83, c91, c115] c116 [21] = true := by kernel_rfl
theorem k117 : chk envT base1 [c19] c117 [3] = true := by kernel_rfl
theorem k118 : chk envT base1 [c117, c90] c118 [] = true := by kernel_rfl
theorem k119 : chk envT base1 [c29, c30, c31] c119 [9] = true := by kernel_rfl
theorem k120 : chk envT base1 [] c120 [] = true := by kernel_rfl
theorem k121 : chk envT base1 [c120] c121 [] = true := by kernel_rfl
theorem k122 : chk envT base1 [] c122 [] = true := by kernel_rfl
theorem k123 : chk envT base1 [c122] c123 [] = true := by kernel_rfl
theorem k124 : chk envT base1 [c123] c124 [] = true := by kernel_rfl
theorem k125 : chk envT base1 [c124] c125 [7] = true := by kernel_rfl
theorem k126 : chk envT base1 [c125, c106] c126 [13, 14] = true := by kernel_rfl
theorem k127 : chk envT base1 [c16, c126] c127 [21, 22] = true := by kernel_rfl
theorem k128 : chk envT base1 [c22, c126] c128 [] = true := by kernel_rfl
theorem k129 : chk envT base1 [c24, c19, c127, c128] c129 [] = true := by kernel_rfl
theorem k130 : chk envT base1 [c129, c112] c130 [] = true := by kernel_rfl
theorem k131 : chk envT base1 [c121, c130] c131 [] = true := by kernel_rfl
theorem k132 : chk envT base1 [c119, c98, c131] c132 [4] = true := by kernel_rfl
theorem k133 : chk envT base1 [c74, c75, c118, c132] c133 [13] = true := by kernel_rfl
theorem k134 : chk envT base1 [c69, c71, c116, c133] c134 [15, 16] = true := by kernel_rfl
theorem k135 : chk envT base1 [c88] c135 [2] = true := by kernel_rfl
theorem k136 : chk envT base1 [c135, c20] c136 [] = true := by kernel_rfl
theorem k137 : chk envT base1 [c94, c30, c31] c137 [8] = true := by kernel_rfl
theorem k138 : chk envT base1 [] c138 [] = true := by kernel_rfl
theorem k139 : chk envT base1 [c138] c139 [] = true := by kernel_rfl
theorem k140 : chk envT base1 [] c140 [] = true := by kernel_rfl
theorem k141 : chk envT base1 [c16, c107, c140, c22] c141 [] = true := by kernel_rfl
theorem k142 : chk envT base1 [c19, c88, c108, c141] c142 [] = true := by kernel_rfl
theorem k143 : chk envT base1 [c142, c112] c143 [] = true := by kernel_rfl
theorem k144 : chk envT base1 [c139, c143] c144 [] = true := by kernel_rfl
theorem k145 : chk envT base1 [c137, c32, c144] c145 [4, 6] = true := by kernel_rfl
theorem k146 : chk envT base1 [] c146 [] = true := by kernel_rfl
theorem k147 : chk envT base1 [c146] c147 [] = true := by kernel_rfl
theorem k148 : chk envT base1 [c147, c34] c148 [] = true := by kernel_rfl
theorem k149 : chk envT base1 [c136, c145, c148] c149 [] = true := by kernel_rfl
theorem k150 : chk envT base1 [] c150 [] = true := by kernel_rfl
theorem k151 : chk envT base1 [c16] c151 [] = true := by kernel_rfl
theorem k152 : chk envT base1 [c19, c151] c152 [] = true := by kernel_rfl
theorem k153 : chk envT base1 [c150, c152] c153 [] = true := by kernel_rfl
theorem k154 : chk envT base1 [] c154 [] = true := by kernel_rfl
theorem k155 : chk envT base1 [c16, c126, c154, c22] c155 [] = true := by kernel_rfl
theorem k156 : chk envT base1 [c19, c127, c155] c156 [] = true := by kernel_rfl
theorem k157 : chk envT base1 [c156, c112] c157 [] = true := by kernel_rfl
theorem k158 : chk envT base1 [c152, c14, c157] c158 [] = true := by kernel_rfl
theorem k159 : chk envT base1 [c153, c158, c152] c159 [] = true := by kernel_rfl
theorem k160 : chk envT base1 [c149, c159] c160 [] = true := by kernel_rfl
theorem k161 : chk envT base1 [] c161 [] = true := by kernel_rfl
theorem k162 : chk envT base1 [] c162 [] = true := by kernel_rfl
end Go.Proofs.YtpgkdhhlcpgjcaaGreatDoor.Fx
