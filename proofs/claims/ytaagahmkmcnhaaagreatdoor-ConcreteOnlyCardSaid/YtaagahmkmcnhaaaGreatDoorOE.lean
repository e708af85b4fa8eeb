/-
  PROVED: ConcreteOnly of configlanglaw19 answers true for every two data that it reads, ends without a panic, and leaves what was there as it was: the value that concrete.Of makes of data has that data as its only instance. CONDITIONS: those of the given statement Rows.ConcreteOnlyCardSaid, no others.
-/
import Derived.Test.YtaagahmkmcnhaaaGreatDoorOD
set_option linter.unusedVariables false
set_option linter.unusedSimpArgs false
set_option linter.unusedSectionVars false
namespace Go.Proofs.YtaagahmkmcnhaaaGreatDoor.concreteOnly
open Go.ChangeShapes Go.WideShapes Go.ChangeAt Go.RowKit
def eY:Value:= .agg #[.int .i64 0,.int .i64 0,.string ⟨#[]⟩,.slice none 0 0,.slice none 0 0]
theorem uT (os:Os):laidMetH Tryz.prog Rows.concreteOnlyRow.laid ((World.laidAll Tryz.prog os mB).forCall (fun _ _=>0) ⟨#[],#[eY,eY],[]⟩).memory:=by
 show laidMetH Tryz.prog mB _
 rw[MakeChecks.laidMetH_plain _ _ _ (by kernel_rfl)]
 exact laidMet_laidAll _ (by kernel_rfl) (by kernel_rfl)
theorem reads (os:Os) {H:Type} (enc:TypeId×Value->H):∃x,DataW.whole enc Tryz.prog ((World.laidAll Tryz.prog os mB).forCall (fun _ _=>0) ⟨#[],#[eY,eY],[]⟩).memory Tryz.f4.params.toList Rows.concreteOnlySpec.vars false #[eY,eY].toList 8=some x:=
 ⟨([.agg [.lit (.int .i64 0),.lit (.int .i64 0),.lit (.string []),.nil,.nil],.agg [.lit (.int .i64 0),.lit (.int .i64 0),.lit (.string []),.nil,.nil]],[],[]),by kernel_rfl⟩
set_option maxRecDepth 100000 in
theorem lifted (os:Os) (started:os.Started) (H:Type) (enc:TypeId×Value->H) (F:Stop.Interp):
  ReturnsInHanded {} Tryz.checked os 4 .any ((OpenSpec.ofChange Rows.concreteOnlySpec).preRow enc Tryz.prog Tryz.f4 Rows.concreteOnlyRow.domain false Rows.concreteOnlyRow.laid) (((OpenSpec.ofChange Rows.concreteOnlySpec).at F).post enc Tryz.prog Tryz.f4 false true false false):=by
 obtain⟨x,hx⟩:=reads os enc
 refine returnsInHanded_of_row (C:=Tryz.checked) (s:=OpenSpec.ofChange Rows.concreteOnlySpec) own started (by kernel_rfl) Tryz.func4
  (witness_row_at (enc:=enc) (C:=Tryz.checked) false (World.laidAll Tryz.prog os mB) #[eY,eY] (World.laidAll_os _ _ _) (by kernel_rfl) (by kernel_rfl) (by kernel_rfl)
   (OpenSpec.preRow_of_cond 8 hx (by kernel_rfl) (fun k hk=>by cases hk) (by kernel_rfl) (uT os))) ?_
 intro W base args ds gs before hval hW _ _ _ hL _ _
 exact mI H enc W base args ds gs before hval hW hL
theorem SR:Tryz.pinned.checked.prog.funcNamed Rows.concreteOnlyRow.func=some 4:=by kernel_rfl
theorem vJ:joinedFacts Tryz.pinned.checked.prog 4 Tryz.f4 (OpenSpec.ofChange Rows.concreteOnlySpec).bare Rows.concreteOnlyRow=true:=by kernel_rfl
theorem E6:(Tryz.f4).isInstance Tryz.pinned.checked.prog Rows.concreteOnlyRow.origin Rows.concreteOnlyRow.targs:=TF (by kernel_rfl)
theorem E5:(Tryz.f4).isWrapper Tryz.pinned.checked.prog Rows.concreteOnlyRow.wrapper Rows.concreteOnlyRow.mainSum:=by
 unfold Func.isWrapper
 first|(rw[Th (by decide+kernel)];kernel_rfl)|(rw[Ti (by decide+kernel)];exact⟨rfl,rfl⟩)
theorem said:Rows.ConcreteOnlySaid:=
 OpenClaim.holds_of_cond 4 Tryz.f4 rfl rfl rfl rfl rfl rfl rfl ⟨rfl,rfl,rfl,rfl,rfl⟩ rfl rfl rfl rfl rfl SR Tryz.func4 vJ E6 E5
  (fun os started H enc _ F=>by rw[OpenClaim.pre_eq_preRow];exact lifted os started H enc F)
theorem plain (f:FuncId) (fn:Func) (hf:Tryz.pinned.checked.prog.funcNamed "configlang/configlanglaw19.ConcreteOnly"=some f) (hfn:Tryz.pinned.checked.prog.funcs[f]? =some fn):
  false=Tryz.pinned.checked.prog.looks []/\∀(j:Nat) t,fn.params[j]? =some t->Tryz.pinned.checked.prog.wantsStandIn t=false:=by
 obtain rfl:f=4:=TD ((show Tryz.prog.funcNamed "configlang/configlanglaw19.ConcreteOnly"=some 4 by kernel_rfl).symm.trans hf)|>.symm
 obtain rfl:fn=Tryz.f4:=(TD (Tryz.func4.symm.trans hfn)).symm
 refine⟨by kernel_rfl,fun j t ht=> ?_⟩
 rw[Tryz.params4] at ht
 obtain rfl:t=25:=by simpa using Array.mem_of_getElem? ht
 exact(show Tryz.prog.wantsStandIn 25=false by kernel_rfl)
theorem SO:Rows.ConcreteOnlyCardSaid:=
 Claim7.holds_tied_plain_at .later [] _ _ _ _ said (fun _ h=>by cases h) (by kernel_rfl) (fun _ h=>by cases h) concreteOnly_row_tie rfl ⟨rfl,rfl⟩ (by kernel_rfl) rfl plain (by kernel_rfl)
end Go.Proofs.YtaagahmkmcnhaaaGreatDoor.concreteOnly
namespace Go.Proofs.YtaagahmkmcnhaaaGreatDoor
theorem concreteOnly_holds:Rows.ConcreteOnlyCardSaid:=concreteOnly.SO
end Go.Proofs.YtaagahmkmcnhaaaGreatDoor
#print axioms Go.Proofs.YtaagahmkmcnhaaaGreatDoor.concreteOnly_holds
