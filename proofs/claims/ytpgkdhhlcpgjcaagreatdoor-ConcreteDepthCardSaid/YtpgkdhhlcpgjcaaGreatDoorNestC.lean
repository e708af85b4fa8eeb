import Derived.Test.YtpgkdhhlcpgjcaaGreatDoorNestB
/-
  Lists in each other, however deep: the innermost list, with an empty struct in it.
-/
namespace Go.Proofs.YtpgkdhhlcpgjcaaGreatDoor
open Ev Ev.Sh Go.RowKit
set_option maxRecDepth 100000
theorem canRun_str : canRun base1 (its .str 0) outStr = some (.tup [.agg (V0 (r 745 1)), bt]) := by kernel_rfl
theorem can_base (K : Kind) : CanP K 0 ∧ SamP K 0 := by
  cases K with
  | num => exact ⟨can_of_run (K := .num) (t := 0) (@base1_ok (famK .num 0)) canRun_num (by intro p hp; simp [outNum, rowsO, rows0] at hp; rcases hp with rfl | rfl | rfl | rfl <;> simp [its, rows0]) rfl rfl, sam_of_run (K := .num) (t := 0) (@base1_ok (famK .num 0)) samRun_num⟩
  | str => exact ⟨can_of_run (K := .str) (t := 0) (@base1_ok (famK .str 0)) canRun_str (by intro p hp; simp [outStr, rowsO, rows0] at hp; rcases hp with rfl | rfl | rfl | rfl | rfl | rfl | rfl | rfl | rfl | rfl <;> simp [its, rows0]) rfl rfl, sam_of_run (K := .str) (t := 0) (@base1_ok (famK .str 0)) samRun_str⟩
theorem can_all (K : Kind) : ∀ t, CanP K t ∧ SamP K t
  | 0 => can_base K
  | t + 1 => ⟨can_step (can_all K t).1 (can_all K t).2, sam_step (can_all K t).1 (can_all K t).2⟩
end Go.Proofs.YtpgkdhhlcpgjcaaGreatDoor
