/- For ConcreteOnly and ConcreteBack: the contract of the law. -/
import Derived.Test.YtaagahmkmcnhaaaGreatDoorOA
import Derived.Test.YtaagahmkmcnhaaaGreatDoorNf
import Derived.Test.YtaagahmkmcnhaaaGreatDoorTie
import Derived.Test.YtaagahmkmcnhaaaGreatDoorCards
import Derived.ProofKit
import Derived.OpenShut
import Derived.Carry
import Derived.Lay
import Derived.SevenTiedAt
import Derived.Deep.DeepHandedRow
set_option linter.unusedVariables false
set_option linter.unusedSimpArgs false
set_option linter.unusedSectionVars false
namespace Go.Proofs.YtaagahmkmcnhaaaGreatDoor.concreteBack
open Go.ChangeShapes Go.WideShapes Go.ChangeAt Go.RowKit
theorem own:ownKnob Tryz.prog.godebug=none:=by kernel_rfl
theorem laidOut:laidOutB Tryz.prog=true:=by kernel_rfl
theorem walk {W:World} (ht:Hm W) {x:Sv.aO} (hx:JB 9223372036854775807 50 x) {cs:List Value} (hd:∀c:Sv.Ctx,c.fz=yi W->Sv.aJ c (Sv.de x) cs):Calls Tryz.prog 3 #[.agg cs.toArray] W fun e W'=>e= .returned (.bool true)/\Below W.heap.size W W':=
 F5 (vs:=[.agg cs.toArray]) (OR (IF (Tp _) hx)) ht fun c hc=>⟨_,_,⟨cs,by rw[<-Sv.cK];exact hd c hc,rfl⟩,rfl,rfl⟩
theorem qq {W:World} {v:Value} {x:Sv.aO} (h:Sv.aJ (Sv.bare (yi W)) (Sv.de x) v.cells.toList):v= .agg v.cells.toList.toArray/\∀c:Sv.Ctx,c.fz=yi W->Sv.aJ c (Sv.de x) v.cells.toList:=by
 have hlen:v.cells.toList.length=5:=by rw[Sv.aJ.length h,Sv.cK];rfl
 refine⟨?_,fun c hc=>Sv.aJ.le (c:=Sv.bare (yi W)) ⟨fun k l h=>(by cases h),fun b i v h=>by rw[hc];exact h⟩ _ _ h⟩
 cases v with
 |agg a=>simp[Value.cells]
 |_=>simp[Value.cells] at hlen
theorem mI (H:Type) (enc:TypeId×Value->H) (W:World) (base:Nat) (args:Array Value) (ds gs:List (DataW H)) (before:List MemPlace)
  (hval:∀(j:Nat) t v,Tryz.f3.params[j]? =some t->args[j]? =some v->Value.okWide Tryz.prog W .any base t v)
  (hW:DataW.Whole enc Tryz.prog Tryz.f3.params.toList Rows.concreteBackSpec.vars false W args.toList ds gs before) (hL:laidMetH Tryz.prog mB W):
  Calls Tryz.prog 3 args W fun e W'=>∃v,e= .returned v/\Rows.concreteBackSpec.post enc Tryz.prog Tryz.f3 false true false false W args v W':=by
 have hW':=hW
 obtain⟨p,q,hA0,hV,rfl,hfz,hnd⟩:=hW
 have hA:DataW.TrodAll enc Tryz.prog W 0 (fun _=>true) true Tryz.f3.params.toList args.toList ds p:=hA0
 rw[Tryz.params3] at hA hval
 obtain⟨v0,vs0,d0,ds0,p0,q0,hargs,rfl,rfl,h0,r0⟩:=trodAll_cons hA
 obtain⟨rfl,rfl,rfl⟩:=trodAll_nil r0
 obtain rfl:args= #[v0]:=by cases args;simp_all
 obtain⟨rfl,rfl⟩:=trodVars_none hV
 clear hA0
 simp only[TK] at hW'
 have hlt0:∀x∈p0,x.block<W.heap.size:=fun x hx=>by simpa using hW'.lt x (by simp[hx])
 obtain⟨fuel,hf⟩:=h0
 obtain⟨x,hx,hw⟩:=El (c:=Sv.bare (yi W)) rfl fuel _ _ hf
 obtain⟨hv0,hd⟩:=qq hx.1
 have hrun:=walk (KE hL) (hw 50) hd
 rw[<-hv0] at hrun
 have h0:DataW.Trod enc Tryz.prog W 0 (fun _=>true) true 25 v0 d0 p0:=⟨fuel,hf⟩
 refine hrun.mono fun e W' ⟨he,hE⟩=> ?_
 subst he
 have harg0:DataW.Trod enc Tryz.prog W' 0 (fun b=>decide (b<W.heap.size)) true 25 v0 d0 p0:=Below.trod laidOut (by kernel_rfl) (TF (by kernel_rfl)) h0 hE hlt0
 exact⟨_,rfl,_,_,_,[],p0,[],hW',trodAll_mk1 (shut_bool Tryz.underlying4 true),trodAll_mk1 harg0,rfl,hE.frame _,fun h=>by cases h⟩
end Go.Proofs.YtaagahmkmcnhaaaGreatDoor.concreteBack
