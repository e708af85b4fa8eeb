import Derived.Test.YtpgkdhhlcpgjcaaGreatDoorFxC0
import Derived.Test.YtpgkdhhlcpgjcaaGreatDoorSndO
import Derived.Test.YtpgkdhhlcpgjcaaGreatDoorFxO
/-
  What calls hand back at strings that lie in no list, by their contents.
-/
namespace Go.Proofs.YtpgkdhhlcpgjcaaGreatDoor.Fs
open Ev Ev.Sh
set_option maxRecDepth 100000
noncomputable def c0 : Fct := ⟨165, [(x 0 1)], [⟨[bt, (x 1 1)], none⟩, ⟨[(u 0), (u 255), (i 0)], none⟩], (r 2 1), [⟨[(i 0)], 3, (some 1)⟩]⟩
noncomputable def c1 : Fct := ⟨58, [(.agg [(x 0 1)]), (.agg [.nilSl])], [⟨[bt, (x 1 1)], none⟩, ⟨[(u 0), (u 255), (i 0)], none⟩], (.agg [(r 2 1)]), [⟨[bt, (r 3 1)], 127, (some 2)⟩, ⟨[(u 0), (u 255), (i 0)], 124, (some 3)⟩]⟩
noncomputable def c2 : Fct := ⟨165, [(r 0 1)], [⟨[bt, (r 1 1)], (some 2)⟩, ⟨[(u 0), (u 255), (i 0)], (some 3)⟩], (r 2 1), [⟨[(i 0)], 3, (some 1)⟩]⟩
noncomputable def c3 : Fct := ⟨206, [(.agg [.nilSl, (x 0 1)]), (x 1 1)], [⟨[(r 2 1), bf, bf, bf, bf, .nilSl, .nilSl, .nilSl, .nilSl, .nilSl, bf, bf, bf, bf, .nilSl, .nilSl, .nilSl, .nilSl, .nilSl], none⟩, ⟨[(i 0)], none⟩, ⟨[bt, (r 3 1)], (some 2)⟩, ⟨[(u 0), (u 255), (i 0)], (some 3)⟩], (r 4 1), [⟨[(u 0)], 5, (some 1)⟩]⟩
noncomputable def c4 : Fct := ⟨176, [(.agg [.nilSl, (x 0 1)])], [⟨[(r 1 1), bf, bf, bf, bf, .nilSl, .nilSl, .nilSl, .nilSl, .nilSl, bf, bf, bf, bf, .nilSl, .nilSl, .nilSl, .nilSl, .nilSl], none⟩, ⟨[bt, (r 2 1)], (some 2)⟩, ⟨[(u 0), (u 255), (i 0)], (some 3)⟩], bt, []⟩
noncomputable def c5 : Fct := ⟨24, [(.agg [bf, bf, bf, bf, .nilSl, .nilSl, .nilSl, .nilSl, (x 0 1), bf, bf, bf, bf, .nilSl, .nilSl, .nilSl, .nilSl, (x 1 1)])], [⟨[.nilSl, (x 2 1)], none⟩, ⟨[.nilSl, (x 3 1)], none⟩, ⟨[(r 4 1), bf, bf, bf, bf, .nilSl, .nilSl, .nilSl, .nilSl, .nilSl, bf, bf, bf, bf, .nilSl, .nilSl, .nilSl, .nilSl, .nilSl], none⟩, ⟨[(r 5 1), bf, bf, bf, bf, .nilSl, .nilSl, .nilSl, .nilSl, .nilSl, bf, bf, bf, bf, .nilSl, .nilSl, .nilSl, .nilSl, .nilSl], none⟩, ⟨[bt, (r 6 1)], (some 2)⟩, ⟨[bt, (r 7 1)], (some 2)⟩, ⟨[(u 0), (u 255), (i 0)], (some 3)⟩, ⟨[(u 0), (u 255), (i 0)], (some 3)⟩], bt, []⟩
noncomputable def c6 : Fct := ⟨41, [(.agg [bf, bf, bf, bf, .nilSl, .nilSl, .nilSl, .nilSl, .nilSl, bf, bf, bf, bf, .nilSl, .nilSl, .nilSl, .nilSl, .nilSl])], [], (.tup [(.agg [bf, bf, bf, bf, .nilSl, .nilSl, .nilSl, .nilSl, .nilSl, bf, bf, bf, bf, .nilSl, .nilSl, .nilSl, .nilSl, .nilSl]), bt]), []⟩
noncomputable def c7 : Fct := ⟨35, [(.agg [(r 0 1)]), (.agg [.nilSl])], [⟨[bt, (r 1 1)], (some 2)⟩, ⟨[(u 0), (u 255), (i 0)], (some 3)⟩], (.agg [(r 2 1)]), [⟨[bt, (r 3 1)], 127, (some 2)⟩, ⟨[(u 0), (u 255), (i 0)], 124, (some 3)⟩]⟩
noncomputable def c8 : Fct := ⟨41, [(.agg [bf, bf, bf, bf, .nilSl, .nilSl, .nilSl, .nilSl, (x 0 1), bf, bf, bf, bf, .nilSl, .nilSl, .nilSl, .nilSl, (x 1 1)])], [⟨[.nilSl, (x 2 1)], none⟩, ⟨[.nilSl, (x 3 1)], none⟩, ⟨[(r 4 1), bf, bf, bf, bf, .nilSl, .nilSl, .nilSl, .nilSl, .nilSl, bf, bf, bf, bf, .nilSl, .nilSl, .nilSl, .nilSl, .nilSl], none⟩, ⟨[(r 5 1), bf, bf, bf, bf, .nilSl, .nilSl, .nilSl, .nilSl, .nilSl, bf, bf, bf, bf, .nilSl, .nilSl, .nilSl, .nilSl, .nilSl], none⟩, ⟨[bt, (r 6 1)], (some 2)⟩, ⟨[bt, (r 7 1)], (some 2)⟩, ⟨[(u 0), (u 255), (i 0)], (some 3)⟩, ⟨[(u 0), (u 255), (i 0)], (some 3)⟩], (.tup [(.agg [bf, bf, bf, bf, .nilSl, .nilSl, .nilSl, .nilSl, (r 8 1), bf, bf, bf, bf, .nilSl, .nilSl, .nilSl, .nilSl, (r 12 1)]), bt]), [⟨[.nilSl, (r 9 1)], 63, (some 2)⟩, ⟨[(r 10 1), bf, bf, bf, bf, .nilSl, .nilSl, .nilSl, .nilSl, .nilSl, bf, bf, bf, bf, .nilSl, .nilSl, .nilSl, .nilSl, .nilSl], 104, (some 19)⟩, ⟨[bt, (r 11 1)], 127, (some 2)⟩, ⟨[(u 0), (u 255), (i 0)], 124, (some 3)⟩, ⟨[.nilSl, (r 13 1)], 63, (some 2)⟩, ⟨[(r 14 1), bf, bf, bf, bf, .nilSl, .nilSl, .nilSl, .nilSl, .nilSl, bf, bf, bf, bf, .nilSl, .nilSl, .nilSl, .nilSl, .nilSl], 104, (some 19)⟩, ⟨[bt, (r 15 1)], 127, (some 2)⟩, ⟨[(u 0), (u 255), (i 0)], 124, (some 3)⟩]⟩
noncomputable def c9 : Fct := ⟨206, [(.agg [.nilSl, (r 0 1)]), (x 1 1)], [⟨[(r 2 1), bf, bf, bf, bf, .nilSl, .nilSl, .nilSl, .nilSl, .nilSl, bf, bf, bf, bf, .nilSl, .nilSl, .nilSl, .nilSl, .nilSl], (some 19)⟩, ⟨[(i 0)], none⟩, ⟨[bt, (r 3 1)], (some 2)⟩, ⟨[(u 0), (u 255), (i 0)], (some 3)⟩], (r 4 1), [⟨[(u 0)], 5, (some 1)⟩]⟩
noncomputable def c10 : Fct := ⟨176, [(.agg [.nilSl, (r 0 1)])], [⟨[(r 1 1), bf, bf, bf, bf, .nilSl, .nilSl, .nilSl, .nilSl, .nilSl, bf, bf, bf, bf, .nilSl, .nilSl, .nilSl, .nilSl, .nilSl], (some 19)⟩, ⟨[bt, (r 2 1)], (some 2)⟩, ⟨[(u 0), (u 255), (i 0)], (some 3)⟩], bt, []⟩
noncomputable def c11 : Fct := ⟨43, [(.agg [bf, bf, bf, .nilSl, .nilSl, .nilSl]), (.agg [bf, bf, bf, .nilSl, .nilSl, .nilSl]), (fn 160), (fn 161), (fn 58)], [], (.agg [bf, bf, bf, .nilSl, .nilSl, .nilSl]), []⟩
noncomputable def c12 : Fct := ⟨41, [(.agg [bf, bf, bf, bf, .nilSl, .nilSl, .nilSl, .nilSl, (r 0 1), bf, bf, bf, bf, .nilSl, .nilSl, .nilSl, .nilSl, .nilSl])], [⟨[.nilSl, (r 1 1)], (some 2)⟩, ⟨[(r 2 1), bf, bf, bf, bf, .nilSl, .nilSl, .nilSl, .nilSl, .nilSl, bf, bf, bf, bf, .nilSl, .nilSl, .nilSl, .nilSl, .nilSl], (some 19)⟩, ⟨[bt, (r 3 1)], (some 2)⟩, ⟨[(u 0), (u 255), (i 0)], (some 3)⟩], (.tup [(.agg [bf, bf, bf, bf, .nilSl, .nilSl, .nilSl, .nilSl, (r 4 1), bf, bf, bf, bf, .nilSl, .nilSl, .nilSl, .nilSl, .nilSl]), bt]), [⟨[.nilSl, (r 5 1)], 63, (some 2)⟩, ⟨[(r 6 1), bf, bf, bf, bf, .nilSl, .nilSl, .nilSl, .nilSl, .nilSl, bf, bf, bf, bf, .nilSl, .nilSl, .nilSl, .nilSl, .nilSl], 104, (some 19)⟩, ⟨[bt, (r 7 1)], 127, (some 2)⟩, ⟨[(u 0), (u 255), (i 0)], 124, (some 3)⟩]⟩
noncomputable def c13 : Fct := ⟨16, [(.agg [bf, bf, bf, bf, .nilSl, .nilSl, .nilSl, .nilSl, (r 0 1), bf, bf, bf, bf, .nilSl, .nilSl, .nilSl, .nilSl, .nilSl])], [⟨[.nilSl, (r 1 1)], (some 2)⟩, ⟨[(r 2 1), bf, bf, bf, bf, .nilSl, .nilSl, .nilSl, .nilSl, .nilSl, bf, bf, bf, bf, .nilSl, .nilSl, .nilSl, .nilSl, .nilSl], (some 19)⟩, ⟨[bt, (r 3 1)], (some 2)⟩, ⟨[(u 0), (u 255), (i 0)], (some 3)⟩], bt, []⟩
theorem k0 : chk envT base1 [] c0 [6] = true := by kernel_rfl
theorem k1 : chk envT base1 [c0] c1 [66, 64] = true := by kernel_rfl
theorem k2 : chk envT base1 [] c2 [6] = true := by kernel_rfl
theorem k3 : chk envT base1 [] c3 [9] = true := by kernel_rfl
theorem k4 : chk envT base1 [c2, c3] c4 [] = true := by kernel_rfl
theorem k5 : chk envT base1 [c4] c5 [] = true := by kernel_rfl
theorem k6 : chk envT base1 [] c6 [] = true := by kernel_rfl
theorem k7 : chk envT base1 [c2] c7 [66, 64] = true := by kernel_rfl
theorem k8 : chk envT base1 [c6, c7] c8 [91, 82, 79, 80, 175, 166, 163, 164] = true := by kernel_rfl
theorem k9 : chk envT base1 [] c9 [9] = true := by kernel_rfl
theorem k10 : chk envT base1 [c2, c9] c10 [] = true := by kernel_rfl
theorem k11 : chk envT base1 [] c11 [] = true := by kernel_rfl
theorem k12 : chk envT base1 [c6, c7, c11] c12 [87, 78, 75, 76] = true := by kernel_rfl
theorem k13 : chk envT base1 [c10, c12] c13 [] = true := by kernel_rfl
theorem o0 [Fam] : CallAt Tryz.prog c0.f (useF c0) := chk_ok env_ok base1_ok .nil k0
theorem o1 [Fam] : CallAt Tryz.prog c1.f (useF c1) := chk_ok env_ok base1_ok (.cons o0 .nil) k1
theorem o2 [Fam] : CallAt Tryz.prog c2.f (useF c2) := chk_ok env_ok base1_ok .nil k2
theorem o3 [Fam] : CallAt Tryz.prog c3.f (useF c3) := chk_ok env_ok base1_ok .nil k3
theorem o4 [Fam] : CallAt Tryz.prog c4.f (useF c4) := chk_ok env_ok base1_ok (.cons o2 (.cons o3 .nil)) k4
theorem o5 [Fam] : CallAt Tryz.prog c5.f (useF c5) := chk_ok env_ok base1_ok (.cons o4 .nil) k5
theorem o6 [Fam] : CallAt Tryz.prog c6.f (useF c6) := chk_ok env_ok base1_ok .nil k6
theorem o7 [Fam] : CallAt Tryz.prog c7.f (useF c7) := chk_ok env_ok base1_ok (.cons o2 .nil) k7
theorem o8 [Fam] : CallAt Tryz.prog c8.f (useF c8) := chk_ok env_ok base1_ok (.cons o6 (.cons o7 .nil)) k8
theorem o9 [Fam] : CallAt Tryz.prog c9.f (useF c9) := chk_ok env_ok base1_ok .nil k9
theorem o10 [Fam] : CallAt Tryz.prog c10.f (useF c10) := chk_ok env_ok base1_ok (.cons o2 (.cons o9 .nil)) k10
theorem o11 [Fam] : CallAt Tryz.prog c11.f (useF c11) := chk_ok env_ok base1_ok .nil k11
theorem o12 [Fam] : CallAt Tryz.prog c12.f (useF c12) := chk_ok env_ok base1_ok (.cons o6 (.cons o7 (.cons o11 .nil))) k12
theorem o13 [Fam] : CallAt Tryz.prog c13.f (useF c13) := chk_ok env_ok base1_ok (.cons o10 (.cons o12 .nil)) k13
end Go.Proofs.YtpgkdhhlcpgjcaaGreatDoor.Fs
/-
  The run of the whole function at strings that lie in no list.
-/
namespace Go.Proofs.YtpgkdhhlcpgjcaaGreatDoor
open Ev Ev.Sh Go.RowKit
set_option maxRecDepth 100000
theorem ts0 : chk envT base1 [Fx.c377, Fs.c1, Fs.c5, Fs.c8, Fs.c13, Fs.c0] (topF 0 true) [] = true := by kernel_rfl
theorem ts0_calls (w : World) : Calls Tryz.prog 3 #[.int .i64 0, .bool true] w fun e w' => e = .returned (.bool true) ∧ Stands w w' := by
  letI : Fam := famK .num 0
  refine Calls.mono (calls_closed (chk_calls env_ok base1_ok (.cons Fx.o377 (.cons Fs.o1 (.cons Fs.o5 (.cons Fs.o8 (.cons Fs.o13 (.cons Fs.o0 .nil)))))) ts0) (args := [.int .i64 0, .bool true]) (s := bt) (by kernel_rfl) (vs := [.int .i64 0, .bool true]) rfl w) ?_
  rintro e w' ⟨v, rfl, ⟨ρ, hv⟩, hw⟩
  have hv : some (Value.bool true) = some v := hv
  cases hv
  exact ⟨rfl, hw⟩
end Go.Proofs.YtpgkdhhlcpgjcaaGreatDoor
