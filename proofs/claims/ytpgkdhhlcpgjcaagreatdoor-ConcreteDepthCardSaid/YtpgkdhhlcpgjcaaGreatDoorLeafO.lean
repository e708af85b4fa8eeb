import Derived.Test.YtpgkdhhlcpgjcaaGreatDoorProg
import Derived.Test.YtpgkdhhlcpgjcaaGreatDoorMath0
import Derived.WalkKit
import Derived.Outline
import Derived.WalkSpells
import Derived.WalkLawsBesides
import Derived.Lib.Hide
import Derived.BigQuiet
import Derived.Deep.QuietTactic
/-
  Contracts of the functions of integers.
-/
namespace Go.Proofs.YtpgkdhhlcpgjcaaGreatDoor
open Go.RowKit

theorem whole_any (u : Int) (w : World) (h1 : -4000000000000000000 ≤ u) (h2 : u ≤ 4000000000000000000) :
    Calls Tryz.prog 106 #[.int .i64 u] w fun e w' => e = .returned (.int .i64 (u + 1)) ∧ w = w' := by
  go_enter Tryz.func106, Tryz.ntmps106
  go_wp2
  go_ret
  exact ⟨rfl, rfl⟩

theorem back_any (u : Int) (w : World) (h1 : -4000000000000000000 ≤ u) (h2 : u ≤ 4000000000000000000) :
    Calls Tryz.prog 173 #[.int .i64 u] w fun e w' => e = .returned (.int .i64 (u - 1)) ∧ w = w' := by
  go_enter Tryz.func173, Tryz.ntmps173
  go_wp2
  go_ret
  exact ⟨rfl, rfl⟩

theorem after_any (u : Int) (w : World) (h1 : -4000000000000000000 ≤ u) (h2 : u ≤ 4000000000000000000) :
    Calls Tryz.prog 107 #[.int .i64 u] w fun e w' => e = .returned (.int .i64 (afterI u)) ∧ w = w' := by
  have hz := tmod_zero (u + 1) 10000
  unfold afterI
  by_cases h : (u + 1) % 10000 = 0
  · have h' : ((u + 1).tmod 10000 == 0) = true := beq_iff_eq.2 (hz.2 h)
    rw [if_pos h]
    clear hz h
    go_enter Tryz.func107, Tryz.ntmps107
    go_wp2
    go_ret
    exact ⟨rfl, rfl⟩
  · have h' : ((u + 1).tmod 10000 == 0) = false := by rw [beq_eq_false_iff_ne]; exact fun e => h (hz.1 e)
    rw [if_neg h]
    clear hz h
    go_enter Tryz.func107, Tryz.ntmps107
    go_wp2
    go_ret
    exact ⟨rfl, rfl⟩

theorem before_any (u : Int) (w : World) (h1 : -4000000000000000000 ≤ u) (h2 : u ≤ 4000000000000000000) :
    Calls Tryz.prog 174 #[.int .i64 u] w fun e w' => e = .returned (.int .i64 (beforeI u)) ∧ w = w' := by
  have hz := tmod_zero (u - 1) 10000
  unfold beforeI
  by_cases h : (u - 1) % 10000 = 0
  · have h' : ((u - 1).tmod 10000 == 0) = true := beq_iff_eq.2 (hz.2 h)
    rw [if_pos h]
    clear hz h
    go_enter Tryz.func174, Tryz.ntmps174
    go_wp2
    go_ret
    exact ⟨rfl, rfl⟩
  · have h' : ((u - 1).tmod 10000 == 0) = false := by rw [beq_eq_false_iff_ne]; exact fun e => h (hz.1 e)
    rw [if_neg h]
    clear hz h
    go_enter Tryz.func174, Tryz.ntmps174
    go_wp2
    go_ret
    exact ⟨rfl, rfl⟩

end Go.Proofs.YtpgkdhhlcpgjcaaGreatDoor
