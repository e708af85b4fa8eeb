import Derived.Test.YtpgkdhhlcpgjcaaGreatDoorVisO
/-
  Lists in each other, however deep: the visit of the innermost list.
-/
namespace Go.Proofs.YtpgkdhhlcpgjcaaGreatDoor
open Ev Ev.Sh Go.RowKit
set_option maxRecDepth 100000
noncomputable def vgoodF : Fct := ⟨122, [.agg [bf, bf, bf, bf, .nilSl, .nilSl, .nilSl, .nilSl, r 0 1]], [⟨[.nilSl, r 1 1], some 2⟩, ⟨[r 2 1, bf, bf, bf, bf, .nilSl, .nilSl, .nilSl, .nilSl, .nilSl, bf, bf, bf, bf, .nilSl, .nilSl, .nilSl, .nilSl, .nilSl], some 19⟩, ⟨[bt, r 3 1], some 2⟩, ⟨[u 0, u 255, i 0], some 3⟩], bt, []⟩
theorem vgoodF_chk : chk envT base1 [] vgoodF [] = true := by kernel_rfl
noncomputable def extG : FuncId → Option (List SVal → St → M (SVal × St)) := withF [vgoodF] base1
theorem extG_ok [Fam] : ExtOk Tryz.prog extG := withF_ok (FactsOk.cons (chk_ok env_ok base1_ok FactsOk.nil vgoodF_chk) FactsOk.nil) base1_ok
theorem num_end (c d lev : Int) (b : Bool) : some (wrapF .i64 (wrapF .i64 (wrapF .i64 (c + 1) + 1) + 1), mxI (mxI (mxI d lev) (lev + 1)) (lev + 1), b) = some (wrapF .i64 (c + Nv .num 0), mxI d (Mv .num 0 lev), (b || false)) := by
  rw [wrap2, Int.add_assoc, wrap2, Bool.or_false]
  simp only [mxI_eq, Nv, Mv, Option.some.injEq, Prod.mk.injEq]
  exact ⟨by congr 1; omega, by omega, trivial⟩
theorem str_end (c d lev : Int) : (wrapF .i64 ((wrapF .i64 ((wrapF .i64 ((wrapF .i64 ((wrapF .i64 ((wrapF .i64 ((wrapF .i64 (c + 1)) + 1)) + 1)) + 1)) + 1)) + 1)) + 1)) = wrapF .i64 (c + Nv .str 0) ∧ (mxI (mxI (mxI (mxI (mxI (mxI (mxI d lev) (lev + 1)) (lev + 2)) (lev + 2)) (lev + 1)) (lev + 2)) (lev + 2)) = mxI d (Mv .str 0 lev) := by
  simp only [wrap2, mxI_eq, Nv, Mv]
  exact ⟨by congr 1; omega, by omega⟩
theorem vn_1 (c d : Int) (b : Bool) : visRun base1 (its .num 0) 1 c d b = some (wrapF .i64 (wrapF .i64 (wrapF .i64 (c + 1) + 1) + 1), mxI (mxI (mxI d 1) 2) 2, b) := by kernel_rfl
theorem vn_2 (c d : Int) (b : Bool) : visRun base1 (its .num 0) 2 c d b = some (wrapF .i64 (wrapF .i64 (wrapF .i64 (c + 1) + 1) + 1), mxI (mxI (mxI d 2) 3) 3, b) := by kernel_rfl
theorem vn_3 (c d : Int) (b : Bool) : visRun base1 (its .num 0) 3 c d b = some (wrapF .i64 (wrapF .i64 (wrapF .i64 (c + 1) + 1) + 1), mxI (mxI (mxI d 3) 4) 4, b) := by kernel_rfl
theorem vn_4 (c d : Int) (b : Bool) : visRun base1 (its .num 0) 4 c d b = some (wrapF .i64 (wrapF .i64 (wrapF .i64 (c + 1) + 1) + 1), mxI (mxI (mxI d 4) 5) 5, b) := by kernel_rfl
theorem vn_5 (c d : Int) (b : Bool) : visRun base1 (its .num 0) 5 c d b = some (wrapF .i64 (wrapF .i64 (wrapF .i64 (c + 1) + 1) + 1), mxI (mxI (mxI d 5) 6) 6, b) := by kernel_rfl
theorem vn_6 (c d : Int) (b : Bool) : visRun base1 (its .num 0) 6 c d b = some (wrapF .i64 (wrapF .i64 (wrapF .i64 (c + 1) + 1) + 1), mxI (mxI (mxI d 6) 7) 7, b) := by kernel_rfl
theorem vn_7 (c d : Int) (b : Bool) : visRun base1 (its .num 0) 7 c d b = some (wrapF .i64 (wrapF .i64 (wrapF .i64 (c + 1) + 1) + 1), mxI (mxI (mxI d 7) 8) 8, b) := by kernel_rfl
theorem vn_8 (c d : Int) (b : Bool) : visRun base1 (its .num 0) 8 c d b = some (wrapF .i64 (wrapF .i64 (wrapF .i64 (c + 1) + 1) + 1), mxI (mxI (mxI d 8) 9) 9, b) := by kernel_rfl
theorem vn_9 (c d : Int) (b : Bool) : visRun base1 (its .num 0) 9 c d b = some (wrapF .i64 (wrapF .i64 (wrapF .i64 (c + 1) + 1) + 1), mxI (mxI (mxI d 9) 10) 10, b) := by kernel_rfl
theorem vn_10 (c d : Int) (b : Bool) : visRun base1 (its .num 0) 10 c d b = some (wrapF .i64 (wrapF .i64 (wrapF .i64 (c + 1) + 1) + 1), mxI (mxI (mxI d 10) 11) 11, b) := by kernel_rfl
theorem vn_11 (c d : Int) (b : Bool) : visRun base1 (its .num 0) 11 c d b = some (wrapF .i64 (wrapF .i64 (wrapF .i64 (c + 1) + 1) + 1), mxI (mxI (mxI d 11) 12) 12, b) := by kernel_rfl
theorem vn_12 (c d : Int) (b : Bool) : visRun base1 (its .num 0) 12 c d b = some (wrapF .i64 (wrapF .i64 (wrapF .i64 (c + 1) + 1) + 1), mxI (mxI (mxI d 12) 13) 13, b) := by kernel_rfl
theorem vn_13 (c d : Int) (b : Bool) : visRun base1 (its .num 0) 13 c d b = some (wrapF .i64 (wrapF .i64 (wrapF .i64 (c + 1) + 1) + 1), mxI (mxI (mxI d 13) 14) 14, b) := by kernel_rfl
theorem vn_14 (c d : Int) (b : Bool) : visRun base1 (its .num 0) 14 c d b = some (wrapF .i64 (wrapF .i64 (wrapF .i64 (c + 1) + 1) + 1), mxI (mxI (mxI d 14) 15) 15, b) := by kernel_rfl
theorem vn_15 (c d : Int) (b : Bool) : visRun base1 (its .num 0) 15 c d b = some (wrapF .i64 (wrapF .i64 (wrapF .i64 (c + 1) + 1) + 1), mxI (mxI (mxI d 15) 16) 16, b) := by kernel_rfl
theorem vis_num : ∀ {lev : Nat}, 1 ≤ lev → lev ≤ 15 → VisP .num 0 (lev : Nat) (Nv .num 0) (Mv .num 0 (lev : Nat)) (Bv .num 0 (lev : Nat))
  | 1, _, _ => vis_of_run (K := .num) (t := 0) (lev := 1) (@base1_ok (famK .num 0)) fun c d b => (vn_1 c d b).trans (num_end c d 1 b)
  | 2, _, _ => vis_of_run (K := .num) (t := 0) (lev := 2) (@base1_ok (famK .num 0)) fun c d b => (vn_2 c d b).trans (num_end c d 2 b)
  | 3, _, _ => vis_of_run (K := .num) (t := 0) (lev := 3) (@base1_ok (famK .num 0)) fun c d b => (vn_3 c d b).trans (num_end c d 3 b)
  | 4, _, _ => vis_of_run (K := .num) (t := 0) (lev := 4) (@base1_ok (famK .num 0)) fun c d b => (vn_4 c d b).trans (num_end c d 4 b)
  | 5, _, _ => vis_of_run (K := .num) (t := 0) (lev := 5) (@base1_ok (famK .num 0)) fun c d b => (vn_5 c d b).trans (num_end c d 5 b)
  | 6, _, _ => vis_of_run (K := .num) (t := 0) (lev := 6) (@base1_ok (famK .num 0)) fun c d b => (vn_6 c d b).trans (num_end c d 6 b)
  | 7, _, _ => vis_of_run (K := .num) (t := 0) (lev := 7) (@base1_ok (famK .num 0)) fun c d b => (vn_7 c d b).trans (num_end c d 7 b)
  | 8, _, _ => vis_of_run (K := .num) (t := 0) (lev := 8) (@base1_ok (famK .num 0)) fun c d b => (vn_8 c d b).trans (num_end c d 8 b)
  | 9, _, _ => vis_of_run (K := .num) (t := 0) (lev := 9) (@base1_ok (famK .num 0)) fun c d b => (vn_9 c d b).trans (num_end c d 9 b)
  | 10, _, _ => vis_of_run (K := .num) (t := 0) (lev := 10) (@base1_ok (famK .num 0)) fun c d b => (vn_10 c d b).trans (num_end c d 10 b)
  | 11, _, _ => vis_of_run (K := .num) (t := 0) (lev := 11) (@base1_ok (famK .num 0)) fun c d b => (vn_11 c d b).trans (num_end c d 11 b)
  | 12, _, _ => vis_of_run (K := .num) (t := 0) (lev := 12) (@base1_ok (famK .num 0)) fun c d b => (vn_12 c d b).trans (num_end c d 12 b)
  | 13, _, _ => vis_of_run (K := .num) (t := 0) (lev := 13) (@base1_ok (famK .num 0)) fun c d b => (vn_13 c d b).trans (num_end c d 13 b)
  | 14, _, _ => vis_of_run (K := .num) (t := 0) (lev := 14) (@base1_ok (famK .num 0)) fun c d b => (vn_14 c d b).trans (num_end c d 14 b)
  | 15, _, _ => vis_of_run (K := .num) (t := 0) (lev := 15) (@base1_ok (famK .num 0)) fun c d b => (vn_15 c d b).trans (num_end c d 15 b)
  | 0, h, _ => by omega
  | n + 16, _, h => by omega
theorem vs_1 (c d : Int) (b : Bool) : visRun extG (its .str 0) 1 c d b = some ((wrapF .i64 ((wrapF .i64 ((wrapF .i64 ((wrapF .i64 ((wrapF .i64 ((wrapF .i64 ((wrapF .i64 (c + 1)) + 1)) + 1)) + 1)) + 1)) + 1)) + 1)), (mxI (mxI (mxI (mxI (mxI (mxI (mxI d 1) 2) 3) 3) 2) 3) 3), b) := by kernel_rfl
theorem vs_2 (c d : Int) (b : Bool) : visRun extG (its .str 0) 2 c d b = some ((wrapF .i64 ((wrapF .i64 ((wrapF .i64 ((wrapF .i64 ((wrapF .i64 ((wrapF .i64 ((wrapF .i64 (c + 1)) + 1)) + 1)) + 1)) + 1)) + 1)) + 1)), (mxI (mxI (mxI (mxI (mxI (mxI (mxI d 2) 3) 4) 4) 3) 4) 4), b) := by kernel_rfl
theorem vs_3 (c d : Int) (b : Bool) : visRun extG (its .str 0) 3 c d b = some ((wrapF .i64 ((wrapF .i64 ((wrapF .i64 ((wrapF .i64 ((wrapF .i64 ((wrapF .i64 ((wrapF .i64 (c + 1)) + 1)) + 1)) + 1)) + 1)) + 1)) + 1)), (mxI (mxI (mxI (mxI (mxI (mxI (mxI d 3) 4) 5) 5) 4) 5) 5), b) := by kernel_rfl
theorem vs_4 (c d : Int) (b : Bool) : visRun extG (its .str 0) 4 c d b = some ((wrapF .i64 ((wrapF .i64 ((wrapF .i64 ((wrapF .i64 ((wrapF .i64 ((wrapF .i64 ((wrapF .i64 (c + 1)) + 1)) + 1)) + 1)) + 1)) + 1)) + 1)), (mxI (mxI (mxI (mxI (mxI (mxI (mxI d 4) 5) 6) 6) 5) 6) 6), b) := by kernel_rfl
theorem vs_5 (c d : Int) (b : Bool) : visRun extG (its .str 0) 5 c d b = some ((wrapF .i64 ((wrapF .i64 ((wrapF .i64 ((wrapF .i64 ((wrapF .i64 ((wrapF .i64 ((wrapF .i64 (c + 1)) + 1)) + 1)) + 1)) + 1)) + 1)) + 1)), (mxI (mxI (mxI (mxI (mxI (mxI (mxI d 5) 6) 7) 7) 6) 7) 7), b) := by kernel_rfl
theorem vs_6 (c d : Int) (b : Bool) : visRun extG (its .str 0) 6 c d b = some ((wrapF .i64 ((wrapF .i64 ((wrapF .i64 ((wrapF .i64 ((wrapF .i64 ((wrapF .i64 ((wrapF .i64 (c + 1)) + 1)) + 1)) + 1)) + 1)) + 1)) + 1)), (mxI (mxI (mxI (mxI (mxI (mxI (mxI d 6) 7) 8) 8) 7) 8) 8), b) := by kernel_rfl
theorem vs_7 (c d : Int) (b : Bool) : visRun extG (its .str 0) 7 c d b = some ((wrapF .i64 ((wrapF .i64 ((wrapF .i64 ((wrapF .i64 ((wrapF .i64 ((wrapF .i64 ((wrapF .i64 (c + 1)) + 1)) + 1)) + 1)) + 1)) + 1)) + 1)), (mxI (mxI (mxI (mxI (mxI (mxI (mxI d 7) 8) 9) 9) 8) 9) 9), b) := by kernel_rfl
theorem vs_8 (c d : Int) (b : Bool) : visRun extG (its .str 0) 8 c d b = some ((wrapF .i64 ((wrapF .i64 ((wrapF .i64 ((wrapF .i64 ((wrapF .i64 ((wrapF .i64 ((wrapF .i64 (c + 1)) + 1)) + 1)) + 1)) + 1)) + 1)) + 1)), (mxI (mxI (mxI (mxI (mxI (mxI (mxI d 8) 9) 10) 10) 9) 10) 10), b) := by kernel_rfl
theorem vs_9 (c d : Int) (b : Bool) : visRun extG (its .str 0) 9 c d b = some ((wrapF .i64 ((wrapF .i64 ((wrapF .i64 ((wrapF .i64 ((wrapF .i64 ((wrapF .i64 ((wrapF .i64 (c + 1)) + 1)) + 1)) + 1)) + 1)) + 1)) + 1)), (mxI (mxI (mxI (mxI (mxI (mxI (mxI d 9) 10) 11) 11) 10) 11) 11), b) := by kernel_rfl
theorem vs_10 (c d : Int) (b : Bool) : visRun extG (its .str 0) 10 c d b = some ((wrapF .i64 ((wrapF .i64 ((wrapF .i64 ((wrapF .i64 ((wrapF .i64 ((wrapF .i64 ((wrapF .i64 (c + 1)) + 1)) + 1)) + 1)) + 1)) + 1)) + 1)), (mxI (mxI (mxI (mxI (mxI (mxI (mxI d 10) 11) 12) 12) 11) 12) 12), b) := by kernel_rfl
theorem vs_11 (c d : Int) (b : Bool) : visRun extG (its .str 0) 11 c d b = some ((wrapF .i64 ((wrapF .i64 ((wrapF .i64 ((wrapF .i64 ((wrapF .i64 ((wrapF .i64 ((wrapF .i64 (c + 1)) + 1)) + 1)) + 1)) + 1)) + 1)) + 1)), (mxI (mxI (mxI (mxI (mxI (mxI (mxI d 11) 12) 13) 13) 12) 13) 13), b) := by kernel_rfl
theorem vs_12 (c d : Int) (b : Bool) : visRun extG (its .str 0) 12 c d b = some ((wrapF .i64 ((wrapF .i64 ((wrapF .i64 ((wrapF .i64 ((wrapF .i64 ((wrapF .i64 ((wrapF .i64 (c + 1)) + 1)) + 1)) + 1)) + 1)) + 1)) + 1)), (mxI (mxI (mxI (mxI (mxI (mxI (mxI d 12) 13) 14) 14) 13) 14) 14), b) := by kernel_rfl
theorem vs_13 (c d : Int) (b : Bool) : visRun extG (its .str 0) 13 c d b = some ((wrapF .i64 ((wrapF .i64 ((wrapF .i64 ((wrapF .i64 ((wrapF .i64 ((wrapF .i64 ((wrapF .i64 (c + 1)) + 1)) + 1)) + 1)) + 1)) + 1)) + 1)), (mxI (mxI (mxI (mxI (mxI (mxI (mxI d 13) 14) 15) 15) 14) 15) 15), b) := by kernel_rfl
theorem vs_14 (c d : Int) (b : Bool) : visRun extG (its .str 0) 14 c d b = some ((wrapF .i64 ((wrapF .i64 ((wrapF .i64 ((wrapF .i64 ((wrapF .i64 ((wrapF .i64 ((wrapF .i64 (c + 1)) + 1)) + 1)) + 1)) + 1)) + 1)) + 1)), (mxI (mxI (mxI (mxI (mxI (mxI (mxI d 14) 15) 16) 16) 15) 16) 16), b) := by kernel_rfl
theorem vs_15 (c d : Int) (b : Bool) : visRun extG (its .str 0) 15 c d b = some ((wrapF .i64 ((wrapF .i64 ((wrapF .i64 ((wrapF .i64 ((wrapF .i64 ((wrapF .i64 ((wrapF .i64 (c + 1)) + 1)) + 1)) + 1)) + 1)) + 1)) + 1)), (mxI (mxI (mxI (mxI (mxI (mxI (mxI d 15) 16) 17) 17) 16) 17) 17), true) := by kernel_rfl
theorem vis_str : ∀ {lev : Nat}, 1 ≤ lev → lev ≤ 15 → VisP .str 0 (lev : Nat) (Nv .str 0) (Mv .str 0 (lev : Nat)) (Bv .str 0 (lev : Nat))
  | 1, _, _ => vis_of_run (K := .str) (t := 0) (lev := 1) (@extG_ok (famK .str 0)) fun c d b => (vs_1 c d b).trans (by
      obtain ⟨h1, h2⟩ := str_end c d 1
      rw [h1, show Bv .str 0 (1 : Nat) = false from rfl, Bool.or_false]
      exact congrArg (fun x => some (wrapF .i64 (c + Nv .str 0), x, b)) h2)
  | 2, _, _ => vis_of_run (K := .str) (t := 0) (lev := 2) (@extG_ok (famK .str 0)) fun c d b => (vs_2 c d b).trans (by
      obtain ⟨h1, h2⟩ := str_end c d 2
      rw [h1, show Bv .str 0 (2 : Nat) = false from rfl, Bool.or_false]
      exact congrArg (fun x => some (wrapF .i64 (c + Nv .str 0), x, b)) h2)
  | 3, _, _ => vis_of_run (K := .str) (t := 0) (lev := 3) (@extG_ok (famK .str 0)) fun c d b => (vs_3 c d b).trans (by
      obtain ⟨h1, h2⟩ := str_end c d 3
      rw [h1, show Bv .str 0 (3 : Nat) = false from rfl, Bool.or_false]
      exact congrArg (fun x => some (wrapF .i64 (c + Nv .str 0), x, b)) h2)
  | 4, _, _ => vis_of_run (K := .str) (t := 0) (lev := 4) (@extG_ok (famK .str 0)) fun c d b => (vs_4 c d b).trans (by
      obtain ⟨h1, h2⟩ := str_end c d 4
      rw [h1, show Bv .str 0 (4 : Nat) = false from rfl, Bool.or_false]
      exact congrArg (fun x => some (wrapF .i64 (c + Nv .str 0), x, b)) h2)
  | 5, _, _ => vis_of_run (K := .str) (t := 0) (lev := 5) (@extG_ok (famK .str 0)) fun c d b => (vs_5 c d b).trans (by
      obtain ⟨h1, h2⟩ := str_end c d 5
      rw [h1, show Bv .str 0 (5 : Nat) = false from rfl, Bool.or_false]
      exact congrArg (fun x => some (wrapF .i64 (c + Nv .str 0), x, b)) h2)
  | 6, _, _ => vis_of_run (K := .str) (t := 0) (lev := 6) (@extG_ok (famK .str 0)) fun c d b => (vs_6 c d b).trans (by
      obtain ⟨h1, h2⟩ := str_end c d 6
      rw [h1, show Bv .str 0 (6 : Nat) = false from rfl, Bool.or_false]
      exact congrArg (fun x => some (wrapF .i64 (c + Nv .str 0), x, b)) h2)
  | 7, _, _ => vis_of_run (K := .str) (t := 0) (lev := 7) (@extG_ok (famK .str 0)) fun c d b => (vs_7 c d b).trans (by
      obtain ⟨h1, h2⟩ := str_end c d 7
      rw [h1, show Bv .str 0 (7 : Nat) = false from rfl, Bool.or_false]
      exact congrArg (fun x => some (wrapF .i64 (c + Nv .str 0), x, b)) h2)
  | 8, _, _ => vis_of_run (K := .str) (t := 0) (lev := 8) (@extG_ok (famK .str 0)) fun c d b => (vs_8 c d b).trans (by
      obtain ⟨h1, h2⟩ := str_end c d 8
      rw [h1, show Bv .str 0 (8 : Nat) = false from rfl, Bool.or_false]
      exact congrArg (fun x => some (wrapF .i64 (c + Nv .str 0), x, b)) h2)
  | 9, _, _ => vis_of_run (K := .str) (t := 0) (lev := 9) (@extG_ok (famK .str 0)) fun c d b => (vs_9 c d b).trans (by
      obtain ⟨h1, h2⟩ := str_end c d 9
      rw [h1, show Bv .str 0 (9 : Nat) = false from rfl, Bool.or_false]
      exact congrArg (fun x => some (wrapF .i64 (c + Nv .str 0), x, b)) h2)
  | 10, _, _ => vis_of_run (K := .str) (t := 0) (lev := 10) (@extG_ok (famK .str 0)) fun c d b => (vs_10 c d b).trans (by
      obtain ⟨h1, h2⟩ := str_end c d 10
      rw [h1, show Bv .str 0 (10 : Nat) = false from rfl, Bool.or_false]
      exact congrArg (fun x => some (wrapF .i64 (c + Nv .str 0), x, b)) h2)
  | 11, _, _ => vis_of_run (K := .str) (t := 0) (lev := 11) (@extG_ok (famK .str 0)) fun c d b => (vs_11 c d b).trans (by
      obtain ⟨h1, h2⟩ := str_end c d 11
      rw [h1, show Bv .str 0 (11 : Nat) = false from rfl, Bool.or_false]
      exact congrArg (fun x => some (wrapF .i64 (c + Nv .str 0), x, b)) h2)
  | 12, _, _ => vis_of_run (K := .str) (t := 0) (lev := 12) (@extG_ok (famK .str 0)) fun c d b => (vs_12 c d b).trans (by
      obtain ⟨h1, h2⟩ := str_end c d 12
      rw [h1, show Bv .str 0 (12 : Nat) = false from rfl, Bool.or_false]
      exact congrArg (fun x => some (wrapF .i64 (c + Nv .str 0), x, b)) h2)
  | 13, _, _ => vis_of_run (K := .str) (t := 0) (lev := 13) (@extG_ok (famK .str 0)) fun c d b => (vs_13 c d b).trans (by
      obtain ⟨h1, h2⟩ := str_end c d 13
      rw [h1, show Bv .str 0 (13 : Nat) = false from rfl, Bool.or_false]
      exact congrArg (fun x => some (wrapF .i64 (c + Nv .str 0), x, b)) h2)
  | 14, _, _ => vis_of_run (K := .str) (t := 0) (lev := 14) (@extG_ok (famK .str 0)) fun c d b => (vs_14 c d b).trans (by
      obtain ⟨h1, h2⟩ := str_end c d 14
      rw [h1, show Bv .str 0 (14 : Nat) = false from rfl, Bool.or_false]
      exact congrArg (fun x => some (wrapF .i64 (c + Nv .str 0), x, b)) h2)
  | 15, _, _ => vis_of_run (K := .str) (t := 0) (lev := 15) (@extG_ok (famK .str 0)) fun c d b => (vs_15 c d b).trans (by
      obtain ⟨h1, h2⟩ := str_end c d 15
      rw [h1, show Bv .str 0 (15 : Nat) = true from rfl, Bool.or_true]
      exact congrArg (fun x => some (wrapF .i64 (c + Nv .str 0), x, true)) h2)
  | 0, h, _ => by omega
  | n + 16, _, h => by omega
/-- all levels -/
theorem vis_all (K : Kind) : ∀ (t : Nat) {lev : Nat}, 1 ≤ lev → lev + t ≤ 15 → VisP K t (lev : Nat) (Nv K t) (Mv K t (lev : Nat)) (Bv K t (lev : Nat))
  | 0, lev, h1, h2 => by
    cases K with
    | num => exact vis_num h1 h2
    | str => exact vis_str h1 h2
  | t + 1, lev, h1, h2 => vis_step h1 (by omega) (vis_all K t (by omega) (by omega))
end Go.Proofs.YtpgkdhhlcpgjcaaGreatDoor
