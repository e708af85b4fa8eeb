/-
  PROVED: ConcreteWithin of configlanglaw19 answers true for every value that it reads, ends without a panic, and leaves what was there as it was: what concrete.Data finds is valid data and an instance of the value, and its error is that of the first problem. CONDITIONS: those of the given statement Rows.ConcreteWithinCardSaid, no others.
-/
import Derived.Test.YtcejopopgcglpaaGreatDoorOA
set_option linter.unusedVariables false
set_option linter.unusedSimpArgs false
set_option linter.unusedSectionVars false
namespace Go.Proofs.YtcejopopgcglpaaGreatDoor.concreteWithin
open Go.ChangeShapes Go.WideShapes Go.ChangeAt Go.RowKit
def tm:Value:= .agg #[.bool false,.bool false,.bool false,.bool false,.slice none 0 0,.slice none 0 0,.slice none 0 0,.slice none 0 0,.slice none 0 0,.bool false,.bool false,.bool false,.bool false,.slice none 0 0,.slice none 0 0,.slice none 0 0,.slice none 0 0,.slice none 0 0]
theorem NW (os:Os):laidMetH Tryz.prog Rows.concreteWithinRow.laid ((World.laidAll Tryz.prog os yY).forCall (fun _ _=>0) ⟨#[],#[tm],[]⟩).memory:=by
 show laidMetH Tryz.prog yY _
 rw[MakeChecks.laidMetH_plain _ _ _ (by kernel_rfl)]
 exact laidMet_laidAll _ (by kernel_rfl) (by kernel_rfl)
theorem reads (os:Os) {H:Type} (enc:TypeId×Value->H):∃x,DataW.whole enc Tryz.prog ((World.laidAll Tryz.prog os yY).forCall (fun _ _=>0) ⟨#[],#[tm],[]⟩).memory Tryz.f3.params.toList Rows.concreteWithinSpec.vars false #[tm].toList 8=some x:=
 ⟨([.agg [.agg [.lit (.bool false),.agg [.lit (.bool false),.lit (.bool false),.lit (.bool false),.agg [.nil,.nil],.agg [.nil]],.nil,.nil],.agg [.lit (.bool false),.agg [.lit (.bool false),.lit (.bool false),.lit (.bool false),.agg [.nil,.nil],.agg [.nil]],.nil,.nil]]],[],[]),by kernel_rfl⟩
set_option maxRecDepth 100000 in
theorem lifted (os:Os) (started:os.Started) (H:Type) (enc:TypeId×Value->H) (F:Stop.Interp):
  ReturnsInHanded {} Tryz.checked os 3 .any ((OpenSpec.ofChange Rows.concreteWithinSpec).preRow enc Tryz.prog Tryz.f3 Rows.concreteWithinRow.domain false Rows.concreteWithinRow.laid) (((OpenSpec.ofChange Rows.concreteWithinSpec).at F).post enc Tryz.prog Tryz.f3 false true false false):=by
 obtain⟨x,hx⟩:=reads os enc
 refine returnsInHanded_of_row (C:=Tryz.checked) (s:=OpenSpec.ofChange Rows.concreteWithinSpec) own started (by kernel_rfl) Tryz.func3
  (witness_row_at (enc:=enc) (C:=Tryz.checked) false (World.laidAll Tryz.prog os yY) #[tm] (World.laidAll_os _ _ _) (by kernel_rfl) (by kernel_rfl) (by kernel_rfl)
   (OpenSpec.preRow_of_cond 8 hx (by kernel_rfl) (fun k hk=>by cases hk) (by kernel_rfl) (NW os))) ?_
 intro W base args ds gs before hval hW _ _ _ hL _ _
 exact Ew H enc W base args ds gs before hval hW hL
theorem c_fn:Tryz.pinned.checked.prog.funcNamed Rows.concreteWithinRow.func=some 3:=by kernel_rfl
theorem Pl:joinedFacts Tryz.pinned.checked.prog 3 Tryz.f3 (OpenSpec.ofChange Rows.concreteWithinSpec).bare Rows.concreteWithinRow=true:=by kernel_rfl
theorem Vt:(Tryz.f3).isInstance Tryz.pinned.checked.prog Rows.concreteWithinRow.origin Rows.concreteWithinRow.targs:=Wp (by kernel_rfl)
theorem Vs:(Tryz.f3).isWrapper Tryz.pinned.checked.prog Rows.concreteWithinRow.wrapper Rows.concreteWithinRow.mainSum:=by
 unfold Func.isWrapper
 first|(rw[HP (by decide+kernel)];kernel_rfl)|(rw[TP (by decide+kernel)];exact⟨rfl,rfl⟩)
theorem said:Rows.ConcreteWithinSaid:=
 OpenClaim.holds_of_cond 3 Tryz.f3 rfl rfl rfl rfl rfl rfl rfl ⟨rfl,rfl,rfl,rfl,rfl⟩ rfl rfl rfl rfl rfl c_fn Tryz.func3 Pl Vt Vs
  (fun os started H enc _ F=>by rw[OpenClaim.pre_eq_preRow];exact lifted os started H enc F)
theorem plain (f:FuncId) (fn:Func) (hf:Tryz.pinned.checked.prog.funcNamed "configlang/configlanglaw19.ConcreteWithin"=some f) (hfn:Tryz.pinned.checked.prog.funcs[f]? =some fn):
  false=Tryz.pinned.checked.prog.looks []/\∀(j:Nat) t,fn.params[j]? =some t->Tryz.pinned.checked.prog.wantsStandIn t=false:=by
 obtain rfl:f=3:=Wm ((show Tryz.prog.funcNamed "configlang/configlanglaw19.ConcreteWithin"=some 3 by kernel_rfl).symm.trans hf)|>.symm
 obtain rfl:fn=Tryz.f3:=(Wm (Tryz.func3.symm.trans hfn)).symm
 refine⟨by kernel_rfl,fun j t ht=> ?_⟩
 rw[Tryz.params3] at ht
 obtain rfl:t=35:=by simpa using Array.mem_of_getElem? ht
 exact(show Tryz.prog.wantsStandIn 35=false by kernel_rfl)
theorem card:Rows.ConcreteWithinCardSaid:=
 Claim7.holds_tied_plain_at .later [] _ _ _ _ said (fun _ h=>by cases h) (by kernel_rfl) (fun _ h=>by cases h) concreteWithin_row_tie rfl ⟨rfl,rfl⟩ (by kernel_rfl) rfl plain (by kernel_rfl)
end Go.Proofs.YtcejopopgcglpaaGreatDoor.concreteWithin
namespace Go.Proofs.YtcejopopgcglpaaGreatDoor
theorem concreteWithin_holds:Rows.ConcreteWithinCardSaid:=concreteWithin.card
end Go.Proofs.YtcejopopgcglpaaGreatDoor
#print axioms Go.Proofs.YtcejopopgcglpaaGreatDoor.concreteWithin_holds
