/- For ConcreteHidden: the contract of the law. -/
import Derived.Test.YtmjddpeookapaaaGreatDoorOC
import Derived.Test.YtmjddpeookapaaaGreatDoorNh
import Derived.Test.YtmjddpeookapaaaGreatDoorTie
import Derived.Test.YtmjddpeookapaaaGreatDoorCards
import Derived.WalkKit
import Derived.ProofKit
import Derived.OpenShut
import Derived.Carry
import Derived.Lay
import Derived.SevenTiedAt
import Derived.Deep.DeepHandedRow
set_option linter.unusedVariables false
set_option linter.unusedSimpArgs false
set_option linter.unusedSectionVars false
namespace Go.Proofs.YtmjddpeookapaaaGreatDoor.concreteHidden
open Go.ChangeShapes Go.WideShapes Go.ChangeAt Go.RowKit
theorem own : ownKnob Tryz.prog.godebug = none := by kernel_rfl
theorem laidOut : laidOutB Tryz.prog = true := by kernel_rfl
theorem walk {W : World} (ht : PowAt W) {x : Sv.Va} (hx : WtX 9223372036854775807 3 x) {cs : List Value} (hd : ∀ c : Sv.Ctx, c.fz = fzW W → Sv.aM c (Sv.eVa x) cs) : Calls Tryz.prog 3 #[.agg cs.toArray] W fun e W' => e = .returned (.bool true) ∧ Below W.heap.size W W' :=
 run_law (vs := [.agg cs.toArray]) (lawH_ok (lawH_true (by omega) hx)) ht fun c hc => ⟨_, _, ⟨cs, by rw [← Sv.bX]; exact hd c hc, rfl⟩, rfl, rfl⟩
theorem y9 (H : Type) (enc : TypeId × Value → H) (W : World) (base : Nat) (args : Array Value) (ds gs : List (DataW H)) (before : List MemPlace)
  (hval : ∀ (j : Nat) t v, Tryz.f3.params[j]? = some t → args[j]? = some v → Value.okWide Tryz.prog W .any base t v)
  (hW : DataW.Whole enc Tryz.prog Tryz.f3.params.toList Rows.concreteHiddenSpec.vars false W args.toList ds gs before) (hL : laidMetH Tryz.prog ud W) :
  Calls Tryz.prog 3 args W fun e W' => ∃ v, e = .returned v ∧ Rows.concreteHiddenSpec.post enc Tryz.prog Tryz.f3 false true false false W args v W' := by
 have hW' := hW
 obtain ⟨p, q, hA0, hV, rfl, hfz, hnd⟩ := hW
 have hA : DataW.TrodAll enc Tryz.prog W 0 (fun _ => true) true Tryz.f3.params.toList args.toList ds p := hA0
 rw [Tryz.params3] at hA hval
 obtain ⟨v0, vs0, d0, ds0, p0, q0, hargs, rfl, rfl, h0, r0⟩ := trodAll_cons hA
 obtain ⟨rfl, rfl, rfl⟩ := trodAll_nil r0
 obtain rfl : args = #[v0] := by cases args; simp_all
 obtain ⟨rfl, rfl⟩ := trodVars_none hV
 clear hA0
 simp only [List.append_nil] at hW'
 have hlt0 : ∀ x ∈ p0, x.block < W.heap.size := fun x hx => by simpa using hW'.lt x (by simp [hx])
 obtain ⟨fuel, hf⟩ := h0
 obtain ⟨x, hx, hw⟩ := op_val (c := Sv.bare (fzW W)) rfl fuel _ _ hf
 have hlen : v0.cells.toList.length = 18 := by rw [Sv.aM.length hx.1, Sv.bX]; rfl
 have hv0 : v0 = .agg v0.cells.toList.toArray := by
  cases v0 with
  | agg a => simp [Value.cells]
  | _ => simp [Value.cells] at hlen
 have hd : ∀ c : Sv.Ctx, c.fz = fzW W → Sv.aM c (Sv.eVa x) v0.cells.toList := fun c hc => Sv.aM.le (c := Sv.bare (fzW W)) ⟨fun k l h => (by cases h), fun b i v h => by rw [hc]; exact h⟩ _ _ hx.1
 have hrun := walk (pow_at hL) (hw 3) hd
 rw [← hv0] at hrun
 have h0 : DataW.Trod enc Tryz.prog W 0 (fun _ => true) true 35 v0 d0 p0 := ⟨fuel, hf⟩
 refine hrun.mono fun e W' ⟨he, hE⟩ => ?_
 subst he
 have harg0 : DataW.Trod enc Tryz.prog W' 0 (fun b => decide (b < W.heap.size)) true 35 v0 d0 p0 := Below.trod laidOut (by kernel_rfl) (of_decide_eq_true (by kernel_rfl)) h0 hE hlt0
 exact ⟨_, rfl, _, _, _, [], p0, [], hW', trodAll_mk1 (shut_bool Tryz.underlying4 true), trodAll_mk1 harg0, rfl, hE.frame _, fun h => by cases h⟩
end Go.Proofs.YtmjddpeookapaaaGreatDoor.concreteHidden
