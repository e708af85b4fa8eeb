/-
  PROVED: ConcreteHidden of configlanglaw19 answers true for every value that it reads, ends without a panic, and leaves what was there as it was: what concrete.Data finds with hidden members left in, stripped of them, is what it finds without them. CONDITIONS: those of the given statement (Rows.ConcreteHiddenCardSaid), no others.
-/
import Derived.Test.YtmjddpeookapaaaGreatDoorOD
set_option linter.unusedVariables false
set_option linter.unusedSimpArgs false
set_option linter.unusedSectionVars false
namespace Go.Proofs.YtmjddpeookapaaaGreatDoor.concreteHidden
open Go.ChangeShapes Go.WideShapes Go.ChangeAt Go.RowKit
def py : Value := .agg #[.bool false, .bool false, .bool false, .bool false, .slice none 0 0, .slice none 0 0, .slice none 0 0, .slice none 0 0, .slice none 0 0, .bool false, .bool false, .bool false, .bool false, .slice none 0 0, .slice none 0 0, .slice none 0 0, .slice none 0 0, .slice none 0 0]
theorem laid_met (os : Os) : laidMetH Tryz.prog Rows.concreteHiddenRow.laid ((World.laidAll Tryz.prog os ud).forCall (fun _ _ => 0) ⟨#[], #[py], []⟩).memory := by
 show laidMetH Tryz.prog ud _
 rw [MakeChecks.laidMetH_plain _ _ _ (by kernel_rfl)]
 exact laidMet_laidAll _ (by kernel_rfl) (by kernel_rfl)
theorem reads (os : Os) {H : Type} (enc : TypeId × Value → H) : ∃ x, DataW.whole enc Tryz.prog ((World.laidAll Tryz.prog os ud).forCall (fun _ _ => 0) ⟨#[], #[py], []⟩).memory Tryz.f3.params.toList Rows.concreteHiddenSpec.vars false #[py].toList 8 = some x :=
 ⟨([.agg [.agg [.lit (.bool false), .agg [.lit (.bool false), .lit (.bool false), .lit (.bool false), .agg [.nil, .nil], .agg [.nil]], .nil, .nil], .agg [.lit (.bool false), .agg [.lit (.bool false), .lit (.bool false), .lit (.bool false), .agg [.nil, .nil], .agg [.nil]], .nil, .nil]]], [], []), by kernel_rfl⟩
set_option maxRecDepth 100000 in
theorem lifted (os : Os) (started : os.Started) (H : Type) (enc : TypeId × Value → H) (F : Stop.Interp) :
  ReturnsInHanded {} Tryz.checked os 3 .any ((OpenSpec.ofChange Rows.concreteHiddenSpec).preRow enc Tryz.prog Tryz.f3 Rows.concreteHiddenRow.domain false Rows.concreteHiddenRow.laid) (((OpenSpec.ofChange Rows.concreteHiddenSpec).at F).post enc Tryz.prog Tryz.f3 false true false false) := by
 obtain ⟨x, hx⟩ := reads os enc
 refine returnsInHanded_of_row (C := Tryz.checked) (s := OpenSpec.ofChange Rows.concreteHiddenSpec) own started (by kernel_rfl) Tryz.func3
  (witness_row_at (enc := enc) (C := Tryz.checked) false (World.laidAll Tryz.prog os ud) #[py] (World.laidAll_os _ _ _) (by kernel_rfl) (by kernel_rfl) (by kernel_rfl)
   (OpenSpec.preRow_of_cond 8 hx (by kernel_rfl) (fun k hk => by cases hk) (by kernel_rfl) (laid_met os))) ?_
 intro W base args ds gs before hval hW _ _ _ hL _ _
 exact y9 H enc W base args ds gs before hval hW hL
theorem c_fn : Tryz.pinned.checked.prog.funcNamed Rows.concreteHiddenRow.func = some 3 := by kernel_rfl
theorem c_closed : joinedFacts Tryz.pinned.checked.prog 3 Tryz.f3 (OpenSpec.ofChange Rows.concreteHiddenSpec).bare Rows.concreteHiddenRow = true := by kernel_rfl
theorem c_inst : (Tryz.f3).isInstance Tryz.pinned.checked.prog Rows.concreteHiddenRow.origin Rows.concreteHiddenRow.targs := of_decide_eq_true (by kernel_rfl)
theorem c_wrap : (Tryz.f3).isWrapper Tryz.pinned.checked.prog Rows.concreteHiddenRow.wrapper Rows.concreteHiddenRow.mainSum := by
 unfold Func.isWrapper
 first | (rw [if_pos (by decide +kernel)]; kernel_rfl) | (rw [if_neg (by decide +kernel)]; exact ⟨rfl, rfl⟩)
theorem said : Rows.ConcreteHiddenSaid :=
 OpenClaim.holds_of_cond 3 Tryz.f3 rfl rfl rfl rfl rfl rfl rfl ⟨rfl, rfl, rfl, rfl, rfl⟩ rfl rfl rfl rfl rfl c_fn Tryz.func3 c_closed c_inst c_wrap
  (fun os started H enc _ F => by rw [OpenClaim.pre_eq_preRow]; exact lifted os started H enc F)
theorem plain (f : FuncId) (fn : Func) (hf : Tryz.pinned.checked.prog.funcNamed "configlang/configlanglaw19.ConcreteHidden" = some f) (hfn : Tryz.pinned.checked.prog.funcs[f]? = some fn) :
  false = Tryz.pinned.checked.prog.looks [] ∧ ∀ (j : Nat) t, fn.params[j]? = some t → Tryz.pinned.checked.prog.wantsStandIn t = false := by
 obtain rfl : f = 3 := Option.some.inj ((show Tryz.prog.funcNamed "configlang/configlanglaw19.ConcreteHidden" = some 3 by kernel_rfl).symm.trans hf) |>.symm
 obtain rfl : fn = Tryz.f3 := (Option.some.inj (Tryz.func3.symm.trans hfn)).symm
 refine ⟨by kernel_rfl, fun j t ht => ?_⟩
 rw [Tryz.params3] at ht
 obtain rfl : t = 35 := by simpa using Array.mem_of_getElem? ht
 exact (show Tryz.prog.wantsStandIn 35 = false by kernel_rfl)
theorem card : Rows.ConcreteHiddenCardSaid :=
 Claim7.holds_tied_plain_at .later [] _ _ _ _ said (fun _ h => by cases h) (by kernel_rfl) (fun _ h => by cases h) concreteHidden_row_tie rfl ⟨rfl, rfl⟩ (by kernel_rfl) rfl plain (by kernel_rfl)
end Go.Proofs.YtmjddpeookapaaaGreatDoor.concreteHidden
namespace Go.Proofs.YtmjddpeookapaaaGreatDoor
theorem concreteHidden_holds : Rows.ConcreteHiddenCardSaid := concreteHidden.card
end Go.Proofs.YtmjddpeookapaaaGreatDoor
#print axioms Go.Proofs.YtmjddpeookapaaaGreatDoor.concreteHidden_holds
