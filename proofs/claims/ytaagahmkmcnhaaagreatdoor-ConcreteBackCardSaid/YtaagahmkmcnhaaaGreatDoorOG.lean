/-
  PROVED: ConcreteBack of configlanglaw19 answers true for every data that it reads, ends without a panic, and leaves what was there as it was: concrete.Data of what concrete.Of or concrete.Loose makes of data is that data, and the first is below the second. CONDITIONS: those of the given statement Rows.ConcreteBackCardSaid, no others.
-/
import Derived.Test.YtaagahmkmcnhaaaGreatDoorOF
set_option linter.unusedVariables false
set_option linter.unusedSimpArgs false
set_option linter.unusedSectionVars false
namespace Go.Proofs.YtaagahmkmcnhaaaGreatDoor.concreteBack
open Go.ChangeShapes Go.WideShapes Go.ChangeAt Go.RowKit
def eY:Value:= .agg #[.int .i64 0,.int .i64 0,.string ⟨#[]⟩,.slice none 0 0,.slice none 0 0]
theorem uT (os:Os):laidMetH Tryz.prog Rows.concreteBackRow.laid ((World.laidAll Tryz.prog os mB).forCall (fun _ _=>0) ⟨#[],#[eY],[]⟩).memory:=by
 show laidMetH Tryz.prog mB _
 rw[MakeChecks.laidMetH_plain _ _ _ (by kernel_rfl)]
 exact laidMet_laidAll _ (by kernel_rfl) (by kernel_rfl)
theorem reads (os:Os) {H:Type} (enc:TypeId×Value->H):∃x,DataW.whole enc Tryz.prog ((World.laidAll Tryz.prog os mB).forCall (fun _ _=>0) ⟨#[],#[eY],[]⟩).memory Tryz.f3.params.toList Rows.concreteBackSpec.vars false #[eY].toList 8=some x:=
 ⟨([.agg [.lit (.int .i64 0),.lit (.int .i64 0),.lit (.string []),.nil,.nil]],[],[]),by kernel_rfl⟩
set_option maxRecDepth 100000 in
theorem lifted (os:Os) (started:os.Started) (H:Type) (enc:TypeId×Value->H) (F:Stop.Interp):
  ReturnsInHanded {} Tryz.checked os 3 .any ((OpenSpec.ofChange Rows.concreteBackSpec).preRow enc Tryz.prog Tryz.f3 Rows.concreteBackRow.domain false Rows.concreteBackRow.laid) (((OpenSpec.ofChange Rows.concreteBackSpec).at F).post enc Tryz.prog Tryz.f3 false true false false):=by
 obtain⟨x,hx⟩:=reads os enc
 refine returnsInHanded_of_row (C:=Tryz.checked) (s:=OpenSpec.ofChange Rows.concreteBackSpec) own started (by kernel_rfl) Tryz.func3
  (witness_row_at (enc:=enc) (C:=Tryz.checked) false (World.laidAll Tryz.prog os mB) #[eY] (World.laidAll_os _ _ _) (by kernel_rfl) (by kernel_rfl) (by kernel_rfl)
   (OpenSpec.preRow_of_cond 8 hx (by kernel_rfl) (fun k hk=>by cases hk) (by kernel_rfl) (uT os))) ?_
 intro W base args ds gs before hval hW _ _ _ hL _ _
 exact mI H enc W base args ds gs before hval hW hL
theorem SR:Tryz.pinned.checked.prog.funcNamed Rows.concreteBackRow.func=some 3:=by kernel_rfl
theorem vJ:joinedFacts Tryz.pinned.checked.prog 3 Tryz.f3 (OpenSpec.ofChange Rows.concreteBackSpec).bare Rows.concreteBackRow=true:=by kernel_rfl
theorem E6:(Tryz.f3).isInstance Tryz.pinned.checked.prog Rows.concreteBackRow.origin Rows.concreteBackRow.targs:=TF (by kernel_rfl)
theorem E5:(Tryz.f3).isWrapper Tryz.pinned.checked.prog Rows.concreteBackRow.wrapper Rows.concreteBackRow.mainSum:=by
 unfold Func.isWrapper
 first|(rw[Th (by decide+kernel)];kernel_rfl)|(rw[Ti (by decide+kernel)];exact⟨rfl,rfl⟩)
theorem said:Rows.ConcreteBackSaid:=
 OpenClaim.holds_of_cond 3 Tryz.f3 rfl rfl rfl rfl rfl rfl rfl ⟨rfl,rfl,rfl,rfl,rfl⟩ rfl rfl rfl rfl rfl SR Tryz.func3 vJ E6 E5
  (fun os started H enc _ F=>by rw[OpenClaim.pre_eq_preRow];exact lifted os started H enc F)
theorem plain (f:FuncId) (fn:Func) (hf:Tryz.pinned.checked.prog.funcNamed "configlang/configlanglaw19.ConcreteBack"=some f) (hfn:Tryz.pinned.checked.prog.funcs[f]? =some fn):
  false=Tryz.pinned.checked.prog.looks []/\∀(j:Nat) t,fn.params[j]? =some t->Tryz.pinned.checked.prog.wantsStandIn t=false:=by
 obtain rfl:f=3:=TD ((show Tryz.prog.funcNamed "configlang/configlanglaw19.ConcreteBack"=some 3 by kernel_rfl).symm.trans hf)|>.symm
 obtain rfl:fn=Tryz.f3:=(TD (Tryz.func3.symm.trans hfn)).symm
 refine⟨by kernel_rfl,fun j t ht=> ?_⟩
 rw[Tryz.params3] at ht
 obtain rfl:t=25:=by simpa using Array.mem_of_getElem? ht
 exact(show Tryz.prog.wantsStandIn 25=false by kernel_rfl)
theorem SO:Rows.ConcreteBackCardSaid:=
 Claim7.holds_tied_plain_at .later [] _ _ _ _ said (fun _ h=>by cases h) (by kernel_rfl) (fun _ h=>by cases h) concreteBack_row_tie rfl ⟨rfl,rfl⟩ (by kernel_rfl) rfl plain (by kernel_rfl)
end Go.Proofs.YtaagahmkmcnhaaaGreatDoor.concreteBack
namespace Go.Proofs.YtaagahmkmcnhaaaGreatDoor
theorem concreteBack_holds:Rows.ConcreteBackCardSaid:=concreteBack.SO
end Go.Proofs.YtaagahmkmcnhaaaGreatDoor
#print axioms Go.Proofs.YtaagahmkmcnhaaaGreatDoor.concreteBack_holds
