import Derived.Test.YtpgkdhhlcpgjcaaGreatDoorTopA
import Derived.Test.YtpgkdhhlcpgjcaaGreatDoorTopB
import Derived.Test.YtpgkdhhlcpgjcaaGreatDoorTopC
import Derived.Test.YtpgkdhhlcpgjcaaGreatDoorTopD
import Derived.Test.YtpgkdhhlcpgjcaaGreatDoorTopE
import Derived.Test.YtpgkdhhlcpgjcaaGreatDoorTopF
import Derived.Test.YtpgkdhhlcpgjcaaGreatDoorTopG
import Derived.WalkKit
import Derived.ProofKit
/-
  The walk.
-/
namespace Go.Proofs.YtpgkdhhlcpgjcaaGreatDoor
open Ev Ev.Sh Go.RowKit
set_option maxRecDepth 100000
theorem example_calls (w : World) : Calls Tryz.prog 4 #[] w fun e w' => e = .returned (.bool true) ∧ Stands w w' := by
  letI : Fam := famK .num 0
  refine Calls.mono (calls_closed (chk_calls env_ok base1_ok (.cons Fx.o39 (.cons Fx.o67 (.cons Fx.o134 (.cons Fx.o160 (.cons Fx.o161 (.cons Fx.o299 (.cons Fx.o375 (.cons Fx.o376 .nil)))))))) Fx.k377) (args := []) (s := bt) (by kernel_rfl) (vs := []) rfl w) ?_
  rintro e w' ⟨v, rfl, ⟨ρ, hv⟩, hw⟩
  have hv : some (Value.bool true) = some v := hv
  cases hv
  exact ⟨rfl, hw⟩
theorem in_calls (m : Nat) (hm : m ≤ 20) (b : Bool) (w : World) : Calls Tryz.prog 3 #[.int .i64 (m : Int), .bool b] w fun e w' => e = .returned (.bool true) ∧ Stands w w' := by
  have h : m = 0 ∨ m = 1 ∨ m = 2 ∨ m = 3 ∨ m = 4 ∨ m = 5 ∨ m = 6 ∨ m = 7 ∨ m = 8 ∨ m = 9 ∨ m = 10 ∨ m = 11 ∨ m = 12 ∨ m = 13 ∨ m = 14 ∨ m = 15 ∨ m = 16 ∨ m = 17 ∨ m = 18 ∨ m = 19 ∨ m = 20 := by omega
  rcases h with rfl | rfl | rfl | rfl | rfl | rfl | rfl | rfl | rfl | rfl | rfl | rfl | rfl | rfl | rfl | rfl | rfl | rfl | rfl | rfl | rfl <;> cases b
  · exact top_calls (K := .num) (T := 0) (by omega) (@Fx.o377 (famK .num 1)) tn0 w
  · exact ts0_calls w
  · exact top_calls (K := .num) (T := 0) (by omega) (@Fx.o377 (famK .num 1)) tn1 w
  · exact top_calls (K := .str) (T := 0) (by omega) (@Fx.o377 (famK .str 1)) ts1 w
  · exact top_calls (K := .num) (T := 1) (by omega) (@Fx.o377 (famK .num 2)) tn2 w
  · exact top_calls (K := .str) (T := 1) (by omega) (@Fx.o377 (famK .str 2)) ts2 w
  · exact top_calls (K := .num) (T := 2) (by omega) (@Fx.o377 (famK .num 3)) tn3 w
  · exact top_calls (K := .str) (T := 2) (by omega) (@Fx.o377 (famK .str 3)) ts3 w
  · exact top_calls (K := .num) (T := 3) (by omega) (@Fx.o377 (famK .num 4)) tn4 w
  · exact top_calls (K := .str) (T := 3) (by omega) (@Fx.o377 (famK .str 4)) ts4 w
  · exact top_calls (K := .num) (T := 4) (by omega) (@Fx.o377 (famK .num 5)) tn5 w
  · exact top_calls (K := .str) (T := 4) (by omega) (@Fx.o377 (famK .str 5)) ts5 w
  · exact top_calls (K := .num) (T := 5) (by omega) (@Fx.o377 (famK .num 6)) tn6 w
  · exact top_calls (K := .str) (T := 5) (by omega) (@Fx.o377 (famK .str 6)) ts6 w
  · exact top_calls (K := .num) (T := 6) (by omega) (@Fx.o377 (famK .num 7)) tn7 w
  · exact top_calls (K := .str) (T := 6) (by omega) (@Fx.o377 (famK .str 7)) ts7 w
  · exact top_calls (K := .num) (T := 7) (by omega) (@Fx.o377 (famK .num 8)) tn8 w
  · exact top_calls (K := .str) (T := 7) (by omega) (@Fx.o377 (famK .str 8)) ts8 w
  · exact top_calls (K := .num) (T := 8) (by omega) (@Fx.o377 (famK .num 9)) tn9 w
  · exact top_calls (K := .str) (T := 8) (by omega) (@Fx.o377 (famK .str 9)) ts9 w
  · exact top_calls (K := .num) (T := 9) (by omega) (@Fx.o377 (famK .num 10)) tn10 w
  · exact top_calls (K := .str) (T := 9) (by omega) (@Fx.o377 (famK .str 10)) ts10 w
  · exact top_calls (K := .num) (T := 10) (by omega) (@Fx.o377 (famK .num 11)) tn11 w
  · exact top_calls (K := .str) (T := 10) (by omega) (@Fx.o377 (famK .str 11)) ts11 w
  · exact top_calls (K := .num) (T := 11) (by omega) (@Fx.o377 (famK .num 12)) tn12 w
  · exact top_calls (K := .str) (T := 11) (by omega) (@Fx.o377 (famK .str 12)) ts12 w
  · exact top_calls (K := .num) (T := 12) (by omega) (@Fx.o377 (famK .num 13)) tn13 w
  · exact top_calls (K := .str) (T := 12) (by omega) (@Fx.o377 (famK .str 13)) ts13 w
  · exact top_calls (K := .num) (T := 13) (by omega) (@Fx.o377 (famK .num 14)) tn14 w
  · exact top_calls (K := .str) (T := 13) (by omega) (@Fx.o377 (famK .str 14)) ts14 w
  · exact top_calls (K := .num) (T := 14) (by omega) (@Fx.o377 (famK .num 15)) tn15 w
  · exact top_calls (K := .str) (T := 14) (by omega) (@Fx.o377 (famK .str 15)) ts15 w
  · exact top_calls (K := .num) (T := 0) (by omega) (@Fx.o377 (famK .num 1)) tn16 w
  · exact top_calls (K := .str) (T := 0) (by omega) (@Fx.o377 (famK .str 1)) ts16 w
  · exact top_calls (K := .num) (T := 0) (by omega) (@Fx.o377 (famK .num 1)) tn17 w
  · exact top_calls (K := .str) (T := 0) (by omega) (@Fx.o377 (famK .str 1)) ts17 w
  · exact top_calls (K := .num) (T := 0) (by omega) (@Fx.o377 (famK .num 1)) tn18 w
  · exact top_calls (K := .str) (T := 0) (by omega) (@Fx.o377 (famK .str 1)) ts18 w
  · exact top_calls (K := .num) (T := 0) (by omega) (@Fx.o377 (famK .num 1)) tn19 w
  · exact top_calls (K := .str) (T := 0) (by omega) (@Fx.o377 (famK .str 1)) ts19 w
  · exact top_calls (K := .num) (T := 0) (by omega) (@Fx.o377 (famK .num 1)) tn20 w
  · exact top_calls (K := .str) (T := 0) (by omega) (@Fx.o377 (famK .str 1)) ts20 w
theorem out_calls (a0 : Int) (a1 : Bool) (_w0 : (Lit.int .i64 a0).wf = true) (h : ¬ (0 ≤ a0 ∧ a0 ≤ 20)) (w : World) : Calls Tryz.prog 3 #[.int .i64 a0, .bool a1] w fun e w' => e = .returned (.bool true) ∧ Stands w w' := by
  by_cases h1 : a0 < 0
  · have d1 : decide (a0 < 0) = true := decide_eq_true h1
    go_enter Tryz.func3, Tryz.ntmps3
    go_wp2_with (go_at_call 4; refine (example_calls _).mono ?_; rintro e w' ⟨rfl, hS⟩)
    go_ret
    exact ⟨rfl, hS⟩
  · have h2 : 20 < a0 := by omega
    have d1 : decide (a0 < 0) = false := decide_eq_false h1
    have d2 : decide (20 < a0) = true := decide_eq_true h2
    go_enter Tryz.func3, Tryz.ntmps3
    go_wp2_with (go_at_call 4; refine (example_calls _).mono ?_; rintro e w' ⟨rfl, hS⟩)
    go_ret
    exact ⟨rfl, hS⟩
theorem walk_all (a0 : Int) (a1 : Bool) (w0 : (Lit.int .i64 a0).wf = true) (w : World) : Calls Tryz.prog 3 #[.int .i64 a0, .bool a1] w fun e w' => e = .returned (.bool true) ∧ Stands w w' := by
  by_cases h : 0 ≤ a0 ∧ a0 ≤ 20
  · obtain ⟨m, rfl⟩ := Int.eq_ofNat_of_zero_le h.1
    exact in_calls m (by omega) a1 w
  · exact out_calls a0 a1 w0 h w
end Go.Proofs.YtpgkdhhlcpgjcaaGreatDoor
