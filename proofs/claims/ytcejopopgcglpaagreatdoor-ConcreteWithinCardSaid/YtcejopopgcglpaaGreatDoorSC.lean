/- For ConcreteWithin: contracts of functions, and the rules once more. -/
import Derived.Test.YtcejopopgcglpaaGreatDoorSB
import Derived.KernelRfl
set_option linter.unusedVariables false
set_option linter.unusedSimpArgs false
set_option linter.unusedSectionVars false
namespace Sv
open Go Go.RowKit
theorem Bd {ks:List Nat} {n:Nat} (h:n∈ks):∃i,i<ks.length/\ks[i]? =some n:=by
 obtain⟨i,hi,e⟩:=List.getElem_of_mem h
 exact⟨i,hi,by rw[VV hi,e]⟩
open Classical in
theorem vn {P:Program} {f:FuncId} {objs objs':List bo} {args:List SVal} {s:SVal} (h:xi P f objs args s objs') {big:St} {ks:List Nat} {σ:Nat->Nat} (hσ:∀i,σ i=ks.getD i 0) (hlen:ks.length=objs.length) (hnd:ks.Nodup)
  (hbig:∀(i k:Nat) (o:bo),ks[i]? =some k->objs[i]? =some o->big.look k=some (fw σ o)):hJ P f (cz σ args) big (du σ s) (hU σ ks objs' big):=by
 have hsome:∀k∈ks,∃o,big.look k=some o:=fun k hk=>by
  obtain⟨i,hi,e⟩:=Bd hk
  exact⟨_,hbig i k _ e (VV (hlen▸hi))⟩
 obtain⟨p1,p2,p3,p4⟩:=nD (σ:=σ) (ks:=ks) (os:=objs') (st:=big) (hlen.trans h.len.symm) hnd hsome
 have hget:∀i,i<objs.length->ks[i]? =some (σ i):=fun i hi=>by
  rw[hσ,Wg,VV (hlen▸hi)]
  rfl
 have hinj:∀i j,i<objs.length->j<objs.length->σ i=σ j->i=j:=fun i j hi hj e=>by
  have h1:=hget i hi
  have h2:=hget j hj
  rw[<-e] at h2
  exact(List.getElem?_inj (hlen▸hi) hnd).1 (h1.trans h2.symm)
 have hmem:∀n,n∈ks->∃i,i<objs.length/\σ i=n:=fun n hn=>by
  obtain⟨i,hi,e⟩:=Bd hn
  have:=hget i (hlen▸hi)
  rw[e] at this
  cases this
  exact⟨i,hlen▸hi,rfl⟩
 have hin:∀i,i<objs.length->σ i∈ks:=fun i hi=>V6 (hget i hi)
 refine⟨h.sem.body,p1,fun{c w} hr hwf hfree {vs} hd=> ?_⟩
 let m:=objs.length
 let c0:Ctx:=⟨fun i=>if i<m then c.ρ (σ i) else none,c.fz⟩
 have hρ0:∀k,k<m->c.ρ (σ k)=c0.ρ k:=fun k hk=>(HP hk).symm
 have hr0:dM c0 (gH objs).look w:=by
  refine⟨fun k o hk=> ?_,fun k j o o' l l' r hk hj hne hl hl' hb=> ?_,hr.fz⟩
  ·rw[eI] at hk
   have hlt:k<m:=(VZ.1 hk).1
   obtain⟨l,h1,h2⟩:=hr.dO _ _ (hbig k _ o (hget k hlt) hk)
   obtain⟨g1,g2⟩:=h.po o (V6 hk)
   exact⟨l,(hρ0 k hlt)▸h1,(eT.du hρ0 rfl g1 g2 l w).1 h2⟩
  ·rw[eI] at hk hj
   have hlt:k<m:=(VZ.1 hk).1
   have hlt':j<m:=(VZ.1 hj).1
   rw[<-hρ0 k hlt] at hl
   rw[<-hρ0 j hlt'] at hl'
   exact hr.sep _ _ _ _ l l' r (hbig k _ o (hget k hlt) hk) (hbig j _ o' (hget j hlt') hj) (fun e=>hne (hinj k j hlt hlt' e)) hl hl' hb
 have hwf0:Wf (gH objs):=⟨fun k hk=>by
   show bB (tc 0 objs) k=none
   rw[jk,HP (Wd _)]
   have hk:objs.length<=k:=hk
   exact Xc ii,fun k hk=>(by cases hk),Wd _⟩
 have hn0:(gH objs').next=(gH objs).next:=h.len
 have hd0:aQ c0 args vs:=(aQ.du hρ0 rfl args vs h.na).1 hd
 refine(h.sem.ok hr0 hwf0 (fun k h1 h2=>by rw[hn0] at h2;omega) hd0).mono fun e w' he=> ?_
 obtain⟨v,rfl,c1,gd⟩:=he
 refine⟨v,rfl,?_⟩
 let c':Ctx:=⟨fun n=>if hx:∃i,i<m/\σ i=n then c1.ρ hx.choose else c.ρ n,c1.fz⟩
 have hin':∀i,i<m->c'.ρ (σ i)=c1.ρ i:=fun i hi=>by
  have hx:∃j,j<m/\σ j=σ i:=⟨i,hi,rfl⟩
  show(if hx:∃j,j<m/\σ j=σ i then c1.ρ hx.choose else c.ρ (σ i))=_
  rw[dif_pos hx]
  rw[hinj _ _ hx.choose_spec.1 hi hx.choose_spec.2]
 have hout:∀n,n∉ks->c'.ρ n=c.ρ n:=fun n hn=>by
  have hx:¬∃j,j<m/\σ j=n:=fun⟨j,h1,h2⟩=>hn (h2▸hin j h1)
  show(if hx:∃j,j<m/\σ j=n then c1.ρ hx.choose else c.ρ n)=_
  rw[dif_neg hx]
 have hown0:∀r,fU c0 (gH objs).look r->fU c big.look r:=fun r ⟨k,o,l,h1,h2,h3⟩=>by
  rw[eI] at h1
  have hlt:k<m:=(VZ.1 h1).1
  exact⟨σ k,_,l,hbig k _ o (hget k hlt) h1,(hρ0 k hlt).trans h2,h3⟩
 have hle:Le c c':=by
  refine⟨fun n l hl=> ?_,gd.step.le.fz⟩
  by_cases hn:n∈ks
  ·obtain⟨i,hi,rfl⟩:=hmem n hn
   rw[hρ0 i hi] at hl
   obtain⟨l',h1,h2⟩:=gd.step.le.ρ i l hl
   exact⟨l',(hin' i hi).trans h1,h2⟩
  ·exact⟨l,(hout n hn).trans hl,dJ.refl l⟩
 have hfar:∀n o l b,n∉ks->big.look n=some o->c.ρ n=some l->iO l=some b->¬fU c0 (gH objs).look b:=fun n o l b hn ho hl hb ⟨k,o',l',h1,h2,h3⟩=>by
  rw[eI] at h1
  have hlt:k<m:=(VZ.1 h1).1
  exact hr.sep n (σ k) o _ l l' b ho (hbig k _ o' (hget k hlt) h1) (fun e=>hn (e▸hin k hlt)) hl ((hρ0 k hlt).trans h2) hb h3
 have hown1:∀r,fU c' (hU σ ks objs' big).look r->fU c big.look r\/w.heap.size<=r:=fun r ⟨n,o,l,h1,h2,h3⟩=>by
  by_cases hn:n∈ks
  ·obtain⟨i,hi,rfl⟩:=hmem n hn
   rw[hin' i hi] at h2
   exact(gd.step.owns r ⟨i,_,l,by rw[eI];exact VV (h.len▸hi),h2,h3⟩).imp (hown0 r) id
  ·rw[p3 n hn] at h1
   exact .inl ⟨n,o,l,h1,(hout n hn)▸h2,h3⟩
 refine⟨c',(Den.du hin' rfl s v h.ns).2 gd.val,⟨fun n o ho=> ?_,fun n j o o' l l' r hn hj hne hl hl' hb=> ?_,gd.rep.fz⟩,hle,fun n hn e=> ?_,fun n l hn hl=> ?_,gd.step.os,gd.step.tape,gd.step.output,gd.step.size,fun r hlt hno=>gd.step.kept r hlt fun ho=>hno (hown0 r ho),hown1,fun b i v hv=> ?_⟩
 ·by_cases hn:n∈ks
  ·obtain⟨i,hi,rfl⟩:=hmem n hn
   have hi':i<objs'.length:=h.len▸hi
   have h1:=p4 i (σ i) _ (hget i hi) (VV hi')
   rw[h1] at ho
   cases ho
   obtain⟨l,h2,h3⟩:=gd.rep.dO i _ (by rw[eI];exact VV hi')
   obtain⟨g1,g2⟩:=h.po' _ (WC hi')
   exact⟨l,(hin' i hi).trans h2,(eT.du hin' rfl g1 g2 l w').2 h3⟩
  ·rw[p3 n hn] at ho
   obtain⟨l,h1,h2⟩:=hr.dO n o ho
   refine⟨l,(hout n hn).trans h1,h2.s9 hle (fun b hb=>gd.step.kept b (h2.lt hb) (hfar n o l b hn ho h1 hb)) fun b hb i v hv=> ?_⟩
   rcases gd.step.xV b i v hv with h3|h3|h3
   ·exact h3
   ·exact(hfar n o l b hn ho h1 hb h3).elim
   ·have:=h2.lt hb;omega
 ·have key:∀n j o o' l l' r,(hU σ ks objs' big).look n=some o->(hU σ ks objs' big).look j=some o'->n∈ks->j∉ks->c'.ρ n=some l->c'.ρ j=some l'->iO l=some r->iO l'≠some r:=fun n j o o' l l' r hn hj h1 h2 hl hl' hb hb'=>by
   obtain⟨i,hi,rfl⟩:=hmem n h1
   rw[hin' i hi] at hl
   rw[hout j h2] at hl'
   rw[p3 j h2] at hj
   obtain⟨l2,h5,h6⟩:=hr.dO j o' hj
   rw[hl'] at h5
   cases h5
   rcases gd.step.owns r ⟨i,_,l,by rw[eI];exact VV (h.len▸hi),hl,hb⟩ with h3|h3
   ·exact hfar j o' l' r h2 hj hl' hb' h3
   ·have:=h6.lt hb';omega
  by_cases h1:n∈ks<;>by_cases h2:j∈ks
  ·obtain⟨i,hi,rfl⟩:=hmem n h1
   obtain⟨i',hi',rfl⟩:=hmem j h2
   rw[hin' i hi] at hl
   rw[hin' i' hi'] at hl'
   exact gd.rep.sep i i' _ _ l l' r (by rw[eI];exact VV (h.len▸hi)) (by rw[eI];exact VV (h.len▸hi')) (fun e=>hne (by rw[e])) hl hl' hb
  ·exact key n j o o' l l' r hn hj h1 h2 hl hl' hb
  ·exact fun hb'=>key j n o' o l' l r hj hn h2 h1 hl' hl hb' hb
  ·rw[p3 n h1] at hn
   rw[p3 j h2] at hj
   exact hr.sep n j o o' l l' r hn hj hne ((hout n h1)▸hl) ((hout j h2)▸hl') hb
 ·by_cases h1:n∈ks
  ·obtain⟨o,ho⟩:=hsome n h1
   obtain⟨l,hl,_⟩:=hr.dO n o ho
   rw[hl] at e
   cases e
  ·exact(hout n h1).trans e
 ·have h1:n∉ks:=fun h1=>by
   obtain⟨o,ho⟩:=hsome n h1
   rw[hn] at ho
   cases ho
  exact⟨(p3 n h1).trans hn,(hout n h1).trans hl⟩
 ·rcases gd.step.xV b i v hv with h3|h3|h3
  ·exact .inl h3
  ·exact .inr (.inl (hown0 b h3))
  ·exact .inr (.inr h3)
structure ka (m:Nat) (l:List SVal) (st:St) (K:List SVal->List bo->Prop):Prop where
 out:∃objs',kS m (gH objs') st/\objs'.length=m/\(∀o∈objs',plainO o=true/\gN m o=true)/\cX m l=true/\K l objs'
structure LJ (m:Nat) (l:List SVal) (st:St) (K:List SVal->List bo->Prop):Prop where
 out:∃l' st',iK st l l' st'/\ka m l' st' K
theorem cY {m:Nat} {l:List SVal} {st:St} {K:List SVal->List bo->Prop} (h:ka m l st K):LJ m l st K:=⟨l,st,qx l,h⟩
theorem a8 {m:Nat} {l:List SVal} {st:St} {K:List SVal->List bo->Prop} (h:Gz l st fun l' st'=>ka m l' st' K):LJ m l st K:=⟨jl h⟩
def k8 (m:Nat):List bo->Prop
 |[]=>True
 |o::r=>plainO o=true/\gN m o=true/\k8 m r
theorem kp {m:Nat}:∀{l:List bo},k8 m l->∀o∈l,plainO o=true/\gN m o=true
 |[],_,o,h=>by cases h
 |a::r,⟨h1,h2,h3⟩,o,h=>by
  rcases V9.1 h with rfl|h
  ·exact⟨h1,h2⟩
  ·exact kp h3 o h
def FV (t:Hp):Nat->List bo->Prop
 |_,[]=>True
 |i,o::r=>bB t i=some o/\FV t (i+1) r
theorem qY {t:Hp}:∀{l:List bo} {i:Nat},FV t i l->∀k,i<=k->k<i+l.length->bB t k=l[k-i]?
 |[],i,_,k,h1,h2=>by simp at h2;omega
 |o::r,i,⟨h1,h2⟩,k,h3,h4=>by
  by_cases e:k=i
  ·subst e;simpa using h1
  ·have:=qY h2 k ii (by simp at h4;omega)
   rw[this]
   have:k-i=(k-(i+1))+1:=by omega
   rw[this];simp
theorem dL {m:Nat} {l:List SVal} {heap:Hp} {next:Nat} {K:List SVal->List bo->Prop} (objs':List bo) (hl:objs'.length=m) (hs:FV heap 0 objs') (hp:k8 m objs') (hn:cX m l=true) (hx:m<=next) (k:K l objs'):ka m l ⟨heap,next,0,[],[]⟩ K:=by
 refine⟨objs',⟨by rw[<-hl] at hx;exact hx,Yt hl.symm,rfl,rfl,rfl,fun k hk=>(by cases hk),fun k o hk=> ?_,fun k hk=> ?_⟩,hl,kp hp,hn,k⟩
 ·have hk:bB (tc 0 objs') k=some o:=hk
  rw[jk,HP (Wd _),X2] at hk
  have hlt:k<objs'.length:=(VZ.1 hk).1
  refine⟨(qY hs k (Wd _) ii).trans (by simpa using hk),?_,hlt⟩
  show gN objs'.length o=true
  rw[hl]
  exact(kp hp o (V6 hk)).2
 ·show bB (tc 0 objs') k=bB heap k
  rw[jk,HP (Wd _),qY hs k (Wd _) ii]
section
variable (P:Program) (E:Env)
noncomputable def GF (m:Nat) (rs:List ResultVar) (Ψ:SVal->List bo->Prop) (x:Ex) (fr:Fr) (st:St):Prop:=match x with
 | .exit _=>False
 |_=>Gc E fr st rs fun ss=>LJ m ss st fun ss' objs'=>match ss' with
  |[v]=>Ψ v objs'
  |vs=>Ψ (.dZ vs) objs'
noncomputable def xM (fn:Func) (objs:List bo) (args:List SVal) (Ψ:SVal->List bo->Prop):Prop:=match fn with
 |{ntmps:=n,results:=rs,body:=some b,.. }=>yes (Nat.ble args.length n)<|cF (w6 0 args) fun t=>xC P E objs.length b ⟨n,t⟩ ⟨tc 0 objs,objs.length,0,[],[]⟩ (GF E objs.length rs.toList Ψ)
 |_=>False
def xj (f:FuncId) (objs:List bo) (args:List SVal) (Ψ:SVal->List bo->Prop):Prop:=∃s objs',xi P f objs args s objs'/\Ψ s objs'
theorem qc {m:Nat} {ss:List SVal} (h:cX m ss=true):nb m (oY ss)=true:=by
 match ss,h with
 |[],_=>rfl
 |[v],h=>exact(Wa .. ▸h:_/\_).1
 |a::b::r,h=>exact h
theorem R0 {m:Nat} {rs:List ResultVar} {Ψ:SVal->List bo->Prop} {x:Ex} {fr:Fr} {st:St} (h:GF E m rs Ψ x fr st):sJ x=true/\∃ss,pG E fr st rs ss/\∃ss' st2,iK st ss ss' st2/\ka m ss' st2 fun l o=>Ψ (oY l) o:=by
 unfold GF at h
 split at h
 ·exact h.elim
 ·rename_i hx
  obtain⟨ss,h1,g⟩:=nA E h
  obtain⟨ss',st2,h2,⟨objs',g1,g2,g3,g4,g5⟩⟩:=g.out
  refine⟨?_,ss,h1,ss',st2,h2,⟨objs',g1,g2,g3,g4,?_⟩⟩
  ·cases x with
   |exit j=>exact(hx j rfl).elim
   |normal=>rfl
   |ret=>rfl
  ·split at g5
   ·exact g5
   ·rename_i hv
    match ss',hv,g5 with
    |[],_,g=>exact g
    |[v],hv,_=>exact(hv v rfl).elim
    |a::b::r,_,g=>exact g
theorem JY {objs objs':List bo} (h:objs'.length=objs.length):eS (gH objs) (gH objs') where
 cE:=rfl
 mark:=rfl
 next:=Yt h.symm
 log:=fun _ h=>h
 same:=fun k _ h2=>absurd h2 (Nat.not_lt_zero k)
 wf:=fun _ k hk=>by
  have hk:objs'.length<=k:=hk
  show bB (tc 0 objs') k=none
  rw[jk,HP (Wd _)]
  exact Xc ii
 LQ:=fun n hn=> .inl hn
theorem tK (hE:bz P E) {f:FuncId} {fn:Func} (hf:E.funcs.get f=some fn) {objs:List bo} {args:List SVal} {Ψ:SVal->List bo->Prop} (hp:k8 objs.length objs) (hn:cX objs.length args=true) (h:xM P E fn objs args Ψ):xj P f objs args Ψ:=by
 unfold xM at h
 split at h
 ·obtain⟨h1,g⟩:=b8 h
  obtain⟨t,h2,g⟩:=aH g
  cases qN h2
  obtain⟨x,fr',st',h3,h4⟩:=jw P E objs.length hE g
  obtain⟨h5,ss,h6,ss',st2,h7,⟨objs',k1,k2,k3,k4,k5⟩⟩:=R0 E h4
  have hnext:(gH objs').next=objs.length:=k2
  refine⟨oY ss',objs',⟨BI hE hf rfl (JY k2) (fun k o hk=> ?_) hn ?_,k2,kp hp,k3,hn,qc k4⟩,k5⟩
  ·have hk:bB (tc 0 objs) k=some o:=hk
   rw[jk,HP (Wd _),X2] at hk
   exact(kp hp o (V6 hk)).2
  ·unfold entry
   rw[show args.length+(_-args.length)=_ from X9 (Ww h1)]
   exact h3 _ ⟨h5,ss,h6,ss',st2,h7,rfl,k1,by rw[hnext];exact qc k4⟩
 ·exact h.elim
def looks (σ:Nat->Nat) (big:St):List Nat->List bo->Prop
 |k::ks,o::os=>big.look k=some (fw σ o)/\looks σ big ks os
 |[],[]=>True
 |_,_=>False
end
def MQ (h h1:Hp):Nat->Prop
 |0=>True
 |k+1=>bB h1 k=bB h k/\MQ h h1 k
theorem CP {h h1:Hp}:∀{n:Nat},MQ h h1 n->∀k,k<n->bB h1 k=bB h k
 |0,_,k,hk=>by omega
 |n+1,⟨g1,g2⟩,k,hk=>by
  by_cases e:k=n
  ·subst e;exact g1
  ·exact CP g2 k ii
theorem TA {lo n next next1:Nat} {t t1:List (Nat×SVal)} {h h1:Hp} (hf:Mp next1 t t1) (hh:mb next1 h h1) (hs:MQ h h1 lo) (hn:next1<=next) (hlo:lo<=next1):Fits lo ⟨n,t⟩ ⟨h,next,0,[],[]⟩ ⟨n,t1⟩ ⟨h1,next1,0,[],[]⟩ where
 fr:=⟨rfl,tv hf⟩
 st:={
  next:=hn
  low:=hlo
  cE:=rfl
  mark:=rfl
  log:=rfl
  Vv:=fun k hk=>by cases hk
  heap:=fF hh
  same:=fun k hk=>CP hs k hk}
section
variable {P:Program} {E:Env}
theorem bE (hE:bz P E) {lo:Nat} {z:Code} {fr:Fr} {st:St} {K:Ex->Fr->St->Prop} (h:xC P E lo z fr st (Co (fun fr st=>fg P lo z fr st K) K)):fg P lo z fr st K:=⟨R.loop (jw P E lo hE h)⟩
structure Ta (next:Nat) (ss:List SVal) (st:St) (K:List SVal->St->Prop):Prop where
 out:∃heap2 next2,kS next ⟨heap2,next2,0,[],[]⟩ st/\mb next2 heap2 heap2/\cX next2 ss=true/\K ss ⟨heap2,next2,0,[],[]⟩
theorem R8 {next:Nat} {ss:List SVal} {heap:Hp} {next1:Nat} {K:List SVal->St->Prop} (hn:next<=next1) (hh:mb next1 heap heap) (hs:cX next1 ss=true) (k:K ss ⟨heap,next1,0,[],[]⟩):Ta next ss ⟨heap,next1,0,[],[]⟩ K:=
 ⟨heap,next1,⟨V2 _,hn,rfl,rfl,rfl,(fun k hk=>by cases hk),fF hh,fun _ _=>rfl⟩,hh,hs,k⟩
noncomputable def UY (E:Env) (next:Nat) (rs:List ResultVar) (K:SVal->St->Prop) (x:Ex) (fr:Fr) (st:St):Prop:=match x with
 | .exit _=>False
 |_=>Gc E fr st rs fun ss=>Ta next ss st fun ss st=>match ss with
  |[v]=>K v st
  |vs=>K (.dZ vs) st
theorem R2 {next:Nat} {rs:List ResultVar} {K:SVal->St->Prop} {x:Ex} {fr:Fr} {st:St} (h:UY E next rs K x fr st):sJ x=true/\∃ss,pG E fr st rs ss/\Ta next ss st fun ss st=>K (oY ss) st:=by
 unfold UY at h
 split at h
 ·exact h.elim
 ·rename_i hx
  obtain⟨ss,h1,⟨a,b,g1,g2,g3,g4⟩⟩:=nA E h
  refine⟨?_,ss,h1,⟨a,b,g1,g2,g3,?_⟩⟩
  ·cases x with
   |exit j=>exact(hx j rfl).elim
   |normal=>rfl
   |ret=>rfl
  ·split at g4
   ·exact g4
   ·rename_i hv
    match ss,hv,g4 with
    |[],_,g=>exact g
    |[v],hv,_=>exact(hv v rfl).elim
    |a::b::r,_,g=>exact g
noncomputable def xI (P:Program) (E:Env) (fn:Func) (args:List SVal) (heap:Hp) (next:Nat) (K:SVal->St->Prop):Prop:=match fn with
 |{ntmps:=n,results:=rs,body:=some b,.. }=>yes (Nat.ble args.length n)<|cF (w6 0 args) fun t=>xC P E next b ⟨n,t⟩ ⟨heap,next,0,[],[]⟩ (UY E next rs.toList K)
 |_=>False
theorem SM (hE:bz P E) {f:FuncId} (fn:Func) (hf:E.funcs.get f=some fn) {args:List SVal} {heap:Hp} {next:Nat} {K:SVal->St->Prop} (hh:mb next heap heap) (ha:cX next args=true) (h:xI P E fn args heap next K):eU P f args ⟨heap,next,0,[],[]⟩ K:=by
 unfold xI at h
 split at h
 ·obtain⟨h1,g⟩:=b8 h
  obtain⟨t,h2,g⟩:=aH g
  cases qN h2
  obtain⟨x,fr',st',h3,h4⟩:=jw P E next hE g
  obtain⟨h5,ss,h6,⟨heap2,next2,k1,k2,k3,k4⟩⟩:=R2 h4
  have hsta:eS ⟨heap,next,0,[],[]⟩ ⟨heap2,next2,0,[],[]⟩:={
   cE:=rfl
   mark:=rfl
   next:=k1.low
   log:=fun _ h=>h
   same:=fun k _ h2=>absurd h2 (Nat.not_lt_zero k)
   wf:=fun _ k hk=>by
    have hk:next2<=k:=hk
    show bB heap2 k=none
    cases hx:bB heap2 k with
    |none=>rfl
    |some o=>have:=(fF k2 k o hx).2.2;omega
   LQ:=fun n hn=> .inl hn}
  refine⟨_,_,fun _ _ _ _ _ _ _ ho hc hf' hev he=>km ho hc hf' hev ?_,k4⟩
  rw[he]
  refine BI hE hf rfl hsta (fun k o hk=>(fF hh k o hk).2.1) ha ?_
  unfold entry
  rw[show args.length+(_-args.length)=_ from X9 (Ww h1)]
  exact h3 _ ⟨h5,ss,h6,ss,st',qx ss,rfl,k1,qc k3⟩
 ·exact h.elim
end
def IsB (s:SVal):Prop:=∃r,s= .bool r
theorem vk {st:St} {c:Ctx} {w:World} (hr:dM c st.look w) (hf:c.ρ st.next=none) (hwf:Wf st) (m:Nat):
  ∃c',dM c' (st.fresh (.row m [] 0 false)).look w/\Step st.next (st.fresh (.row m [] 0 false)).next c st.look w c' (st.fresh (.row m [] 0 false)).look w/\(∀k,k≠st.next->c'.ρ k=c.ρ k)/\∀v,Den c .aD v->Den c' (.own st.next 0) v:=by
 obtain⟨g1,g2⟩:=gQ (o:= .row m [] 0 false) (l:= .row none 0 m (.slice none 0 0)) hr hf hwf (dj.refl w) (fun b hb=>by cases hb) ⟨rfl,rfl,rfl,none,rfl⟩
 refine⟨_,g1,g2,fun k hk=> ?_,fun v hv=> ?_⟩
 ·show(if k=st.next then _ else c.ρ k)=_
  rw[TP hk]
 ·cases hv
  exact gY (cI _ _ _) ⟨_,_,_,rfl⟩
theorem W.name {P:Program} {lo:Nat} {z:Code} {fr fr1:Fr} {st:St} {Φ:Ex->Fr->St->Prop} (m:Nat) (hn:fr1.n=fr.n) (hf:∀t x,fr1.get t=some x->fr.get t=some x\/(fr.get t=some .aD/\x= .own st.next 0))
  (h:W P lo z fr1 (st.fresh (.row m [] 0 false)) Φ):W P lo z fr st Φ:=by
 intro ro B D c w a he hr Q hq
 obtain⟨c',h2,h3,h5,h4⟩:=vk he.rep (he.yb _ (V2 _)) he.wf m
 have hs:eA lo c st.look w c' (st.fresh (.row m [] 0 false)).look w:=h3.c he.low
 have hsta:=dE st (.row m [] 0 false)
 have ht:=hsta.c he.low
 refine h ⟨h2,he.wf.eX hsta,fun n hn=> ?_,⟨by rw[hn];exact he.fr.size,fun t x hx=> ?_,he.fr.defers⟩,he.Gl,he.base,Wq he.low hsta.next,by rw[hsta.mark];exact he.mark⟩ hr fun x fr' st' D' c2 a' w' g1 g2 g3 g4 g5=>hq x fr' st' D' c2 a' w' g1 g2 (hs.trans g3) (ht.trans g4) (g5.trans hn)
 ·have hn:st.next+1<=n:=hn
  rw[h5 n ii]
  exact he.yb n ii
 ·rcases hf t x hx with e|⟨e,rfl⟩
  ·obtain⟨v,e1,e2⟩:=he.fr.get t x e
   exact⟨v,e1,Den.le h3.le _ _ e2⟩
  ·obtain⟨v,e1,e2⟩:=he.fr.get t _ e
   exact⟨v,e1,h4 v e2⟩
theorem R.name {P:Program} {lo:Nat} {z:Code} {fr fr1:Fr} {st:St} {K:Ex->Fr->St->Prop} (m:Nat) (hn:fr1.n=fr.n) (hf:∀t x,fr1.get t=some x->fr.get t=some x\/(fr.get t=some .aD/\x= .own st.next 0))
  (h:R P lo z fr1 (st.fresh (.row m [] 0 false)) K):R P lo z fr st K:=by
 obtain⟨x,fr',st',h1,h2⟩:=h
 exact⟨x,fr',st',fun Φ hΦ=>W.name m hn hf (h1 Φ hΦ),h2⟩
theorem cr {P:Program} {lo:Nat} {z:Code} {n:Nat} {t:List (Nat×SVal)} {heap:Hp} {next mark:Nat} {log:List Nat} {cE:List (Nat×Nat)} {K:Ex->Fr->St->Prop} (d m:Nat) (hd:bB t d=some .aD)
  (h:fg P lo z ⟨n,(d,.own next 0)::t⟩ ⟨(next,.row m [] 0 false)::heap,next+1,mark,log,cE⟩ K):fg P lo z ⟨n,t⟩ ⟨heap,next,mark,log,cE⟩ K:=by
 refine⟨R.name (fr1:=⟨n,(d,.own next 0)::t⟩) m rfl (fun k x hx=> ?_) h.out⟩
 have h1:(if d=k then some (SVal.own next 0) else bB t k)=some x:=(b9 (d,SVal.own next 0) t k).symm.trans hx
 by_cases e:d=k
 ·rw[HP e] at h1
  exact .inr ⟨e▸hd,(Wm h1).symm⟩
 ·rw[TP e] at h1
  exact .inl h1
def zf (c:Prop) [Decidable c]:Option Unit:=if c then some () else none
section
variable {α β:Type}
abbrev aR (l:List α):Option Unit:=zf (l.length<=1000000000)
def cJ (l:List α) (i:Int):Option α:=if 0<=i then l[i.toNat]? else none
def kZ (l:List α) (i:Int) (x:α):Option (List α):=if 0<=i/\i<l.length then some (l.set i.toNat x) else none
def ot (l:List α) (i:Int) (f:α->α):Option (List α):=(cJ l i).bind fun x=>some (l.set i.toNat (f x))
def Vw (m:Nat) (l:List α) (i:Int):Option α:=if 0<=i/\i<m then l[i.toNat]? else none
def s6 (m:Nat) (l:List α) (i:Int) (x:α):Option (List α):=if 0<=i/\i<m/\i<l.length then some (l.set i.toNat x) else none
def push (l:List α) (x:α):Option (List α):=if l.length<1000000000 then some (l++[x]) else none
def mu (l r:List α):Option (List α):=if l.length+r.length<=1000000000 then some (l++r) else none
theorem aa {x:Option α} {k:α->Option β} {r:β} (h:x.bind k=some r):∃v,x=some v/\k v=some r:=Option.bind_eq_some_iff.1 h
theorem aJ {x:Option α} {r:α} (h:x=some r):x.bind some=some r:=by subst h;rfl
theorem ah {c:Prop} [Decidable c] {k:Unit->Option β} {r:β} (h:(zf c).bind k=some r):c/\k ()=some r:=by
 unfold zf at h
 by_cases hc:c
 ·rw[HP hc] at h;exact⟨hc,h⟩
 ·rw[TP hc] at h;cases h
theorem toNat_eq {i:Int} (h:0<=i):i=((i.toNat:Nat):Int):=by omega
theorem az {l:List α} {i:Int} {k:α->Option β} {r:β} (h:(cJ l i).bind k=some r):∃(j:Nat) (x:α),i=(j:Int)/\l[j]? =some x/\k x=some r:=by
 obtain⟨x,h1,h2⟩:=aa h
 unfold cJ at h1
 split at h1
 ·rename_i h0
  exact⟨i.toNat,x,toNat_eq h0,h1,h2⟩
 ·cases h1
theorem cO {l:List α} {i:Int} {y:α} {k:List α->Option β} {r:β} (h:(kZ l i y).bind k=some r):∃(j:Nat) (x:α),i=(j:Int)/\l[j]? =some x/\k (l.set j y)=some r:=by
 obtain⟨x,h1,h2⟩:=aa h
 unfold kZ at h1
 split at h1
 ·rename_i h0
  cases h1
  exact⟨i.toNat,l[i.toNat]'ii,toNat_eq h0.1,VV ii,h2⟩
 ·cases h1
theorem bY {l:List α} {i:Int} {f:α->α} {k:List α->Option β} {r:β} (h:(ot l i f).bind k=some r):∃(j:Nat) (x:α),i=(j:Int)/\l[j]? =some x/\k (l.set j (f x))=some r:=by
 unfold ot at h
 rw[VY] at h
 obtain⟨j,x,h1,h2,h3⟩:=az h
 refine⟨j,x,h1,h2,?_⟩
 rw[VU,show i.toNat=j by omega] at h3
 exact h3
theorem gX {m:Nat} {l:List α} {i:Int} {k:α->Option β} {r:β} (h:(Vw m l i).bind k=some r):∃(j:Nat) (x:α),i=(j:Int)/\j<m/\l[j]? =some x/\k x=some r:=by
 obtain⟨x,h1,h2⟩:=aa h
 unfold Vw at h1
 split at h1
 ·rename_i h0
  exact⟨i.toNat,x,toNat_eq h0.1,by omega,h1,h2⟩
 ·cases h1
theorem dp {m:Nat} {l:List α} {i:Int} {y:α} {k:List α->Option β} {r:β} (h:(s6 m l i y).bind k=some r):∃(j:Nat) (x:α),i=(j:Int)/\j<m/\l[j]? =some x/\k (l.set j y)=some r:=by
 obtain⟨x,h1,h2⟩:=aa h
 unfold s6 at h1
 split at h1
 ·rename_i h0
  cases h1
  exact⟨i.toNat,l[i.toNat]'ii,toNat_eq h0.1,by omega,VV ii,h2⟩
 ·cases h1
theorem aC {l:List α} {x:α} {k:List α->Option β} {r:β} (h:(push l x).bind k=some r):l.length<1000000000/\k (l++[x])=some r:=by
 unfold push at h
 split at h
 ·rename_i h0;exact⟨h0,h⟩
 ·cases h
theorem eu {l x:List α} {k:List α->Option β} {r:β} (h:(mu l x).bind k=some r):l.length+x.length<=1000000000/\k (l++x)=some r:=by
 unfold mu at h
 split at h
 ·rename_i h0;exact⟨h0,h⟩
 ·cases h
end
theorem nt {b:Bool} (h:b=false):¬b=true:=by rw[h];exact Bool.noConfusion
inductive Ctl (R S:Type) where
 |ret (r:R)
 |Fv (s:S)
section
variable {α:Type} {f:α->List SVal} {l:List α}
theorem bx {j:Nat} {x:α} {sz:Nat} {K:List SVal->Prop} (h:l[j]? =some x) (hl:(f x).length=sz) (k:K (f x)):AtR (l.map f) (j:Int) sz K:=⟨j,f x,rfl,by rw[Wt,h];rfl,hl,k⟩
theorem bD {n:Int} {j:Nat} {x:α} {sz:Nat} {K:List SVal->Prop} (en:n=(j:Int)) (h:l[j]? =some x) (hl:(f x).length=sz) (k:K (f x)):AtR (l.map f) n sz K:=by
 subst en;exact bx h hl k
theorem nN {j:Nat} {x:α} (h:l[j]? =some x):j<l.length:=(VZ.1 h).1
theorem cC {n:Int} {m j:Nat} {K:Nat->Prop} (en:n=(j:Int)) (h:j<m) (k:K j):PR n m K:=⟨j,en,h,k⟩
theorem aP {n:Int} {j:Nat} {x:α} {K:Nat->Prop} (en:n=(j:Int)) (h:l[j]? =some x) (k:K j):PR n (l.map f).length K:=⟨j,en,by rw[V4];exact nN h,k⟩
theorem bT {j:Nat} {x:α} {K:List SVal->Prop} (h:l[j]? =some x) (k:K (f x)):VG (l.map f) j K:=⟨f x,by rw[Wt,h];rfl,k⟩
theorem drop_cons {i:Nat} (h:((i:Nat):Int)<(((l.map f).length:Nat):Int)):∃x,l[i]? =some x/\l.drop i=x::l.drop (i+1):=by
 rw[V4] at h
 have hi:i<l.length:=by omega
 exact⟨l[i],VV hi,Wo hi⟩
theorem av {i:Nat} (h:((i:Nat):Int)<((l.length:Nat):Int)):∃x,l[i]? =some x/\l.drop i=x::l.drop (i+1):=by
 have hi:i<l.length:=by omega
 exact⟨l[i],VV hi,Wo hi⟩
theorem aA {i:Nat} (h:¬((i:Nat):Int)<((l.length:Nat):Int)):l.drop i=[]:=WJ ii
end
theorem df {n i:Nat} (h:(i:Int)<(n:Int)):n-i=(n-(i+1))+1:=by omega
theorem de {n i:Nat} (h:¬(i:Int)<(n:Int)):n-i=0:=by omega
section
variable {α:Type} {g:α->SVal} {l:List α}
theorem Ej {j:Nat} {x:α} (h:l[j]? =some x):(l.map g).drop j=g x::(l.map g).drop (j+1):=by
 have hj:j<(l.map g).length:=by rw[V4];exact nN h
 rw[Wo hj]
 congr 1
 rw[List.getElem_map]
 congr 1
 exact Wm ((VV (nN h)).symm.trans h)
theorem NU:∀l:List SVal,DC l []=some l
 |[]=>rfl
 |_::_=>rfl
theorem yL:∀{l:List α} {j:Nat} {y:α},j<l.length->kr (l.map g) j [g y]=some ((l.set j y).map g)
 |[],j,y,h=>by simp at h
 |a::l,0,y,_=>by
  show DC (g a::l.map g) [g y]=_
  unfold DC
  rw[NU]
  rfl
 |a::l,j+1,y,h=>by
  have:=yL (l:=l) (j:=j) (y:=y) (by simpa using h)
  show kr (g a::l.map g) (j+1) [g y]=_
  unfold kr
  rw[this]
  rfl
theorem fa {E:Env} {t:TypeId} {off j:Nat} {x:α} (h:l[j]? =some x) (ho:off=j) (ha:PD E t=some false):vw E t ((l.map g).drop off)=some (g x):=by
 subst ho
 rw[Ej h]
 unfold vw
 rw[ha]
theorem dS {off j:Nat} {x y:α} (h:l[j]? =some x) (ho:off=j):kr (l.map g) off [g y]=some ((l.set j y).map g):=by
 subst ho;exact yL (nN h)
end
section
variable {P:Program}
theorem b6 {f:FuncId} {args args':List SVal} {v:SVal} {st:St} {K:SVal->St->Prop} (h:Has P f args' fun s=>s=v) (hs:tB v=true) (k:Gz args st fun l _=>l=args'/\K v st):eU P f args st K:=by
 obtain⟨s,h1,rfl⟩:=h
 obtain⟨l',st',g1,rfl,g2⟩:=jl k
 exact⟨s,st,fun _ _ _ _ _ _ _ ho hc hf hev he=>xz ho hc hf hev (he▸g1) hs h1,g2⟩
theorem fR {f:FuncId} {args args':List SVal} {v:SVal} {st:St} {K:SVal->St->Prop} (h:Has P f args' fun s=>s=v) (k:Gz args st fun l st'=>l=args'/\K v st'):eU P f args st K:=by
 obtain⟨s,h1,rfl⟩:=h
 exact Pj P h1 k
theorem kO {f:FuncId} {args args':List SVal} {v:SVal} {st:St} {K:SVal->St->Prop} (h:Has P f args' fun s=>s=v) (ha:cH args=args') (k:K v st):eU P f args st K:=by
 obtain⟨s,h1,rfl⟩:=h
 exact Lo P h1 ha k
end
theorem jL {α:Type} (f:α->List SVal) {n:Nat} (n':Nat) {row:List SVal} {K:List (List SVal)->Prop} (x:α) (hn:n=n') (h:f x=row) (k:K ((List.replicate n' x).map f)):xm (List.replicate n row) K:=by
 subst hn;exact G9 f x h k
theorem jh {st:St} {k:Nat} {o o':bo} (hk:st.look k=some o) {c:Ctx} {w:World} (hr:dM c st.look w) (ho:∀l,eT c o l w->eT c o' l w):dM c (st.put k o').look w/\Step st.next (st.put k o').next c st.look w c (st.put k o').look w:=by
 obtain⟨l,h1,h2⟩:=hr.dO _ _ hk
 exact eP hr hk h1 h1 (dJ.refl l) (fun _ _=>rfl) (fun _ _ _ h=>h) (fun b i v h=> .inl h) (fun r h=> .inl h) ⟨rfl,rfl,rfl,V2 _,fun _ _ _=>rfl⟩ (fun b i v _ hv=>hr.fz b i v hv) (ho l h2)
theorem mM {c:Ctx} {s s':SVal} (hs:∀v,Den c s v->Den c s' v):∀{l:List SVal} {i:Nat} {vs:List Value},l[i]? =some s->aQ c l vs->aQ c (l.set i s') vs
 |[],i,vs,h,_=>by simp at h
 |a::l,0,vs,h,⟨v,r,h1,h2,h3⟩=>by
  simp at h
  subst h
  exact⟨v,r,hs v h1,h2,h3⟩
 |a::l,i+1,vs,h,⟨v,r,h1,h2,h3⟩=>⟨v,r,h1,mM hs (by simpa using h) h2,h3⟩
theorem W.Tt {P:Program} {lo:Nat} {z:Code} {fr:Fr} {st:St} {Φ:Ex->Fr->St->Prop} {k i:Nat} {l:List SVal} (m:Nat) (hk:st.look k=some (.cells l)) (hi:l[i]? =some .aD)
  (h:W P lo z fr ((st.fresh (.row m [] 0 false)).put k (.cells (l.set i (.own st.next 0)))) Φ):W P lo z fr st Φ:=by
 intro ro B D c w a he hr Q hq
 obtain⟨c',h2,h3,h5,h4⟩:=vk he.rep (he.yb _ (V2 _)) he.wf m
 have hne:k≠st.next:=fun e=>by
  have:=he.wf.none k ii
  rw[(cT hk).1] at this
  cases this
 have hk':(st.fresh (.row m [] 0 false)).look k=some (.cells l):=by
  rw[look_eq]
  have h6:=cT hk
  show(if ck k st.cE=true then none else bB ((st.next,bo.row m [] 0 false)::st.heap) k)=_
  rw[h6.2,b9,TP (XF hne),h6.1]
  rfl
 obtain⟨h7,h8⟩:=jh (o':= .cells (l.set i (.own st.next 0))) hk' h2 fun lc ho=>by
  cases lc with
  |row=>exact ho.elim
  |box b=>
   obtain⟨arr,e,g1,g2,g3⟩:=ho
   exact⟨arr,e,g1,mM h4 hi g2,g3⟩
 have hsta:=(dE st (.row m [] 0 false)).trans (dA (.cells (l.set i (.own st.next 0))) hk')
 have hs:eA lo c st.look w c' ((st.fresh (.row m [] 0 false)).put k (.cells (l.set i (.own st.next 0)))).look w:=(h3.trans h8 (XI _) (V2 _)).c he.low
 have ht:=hsta.c he.low
 refine h ⟨h7,he.wf.eX hsta,fun n hn=> ?_,⟨he.fr.size,fun t x hx=> ?_,he.fr.defers⟩,he.Gl,he.base,Wq he.low hsta.next,by rw[hsta.mark];exact he.mark⟩ hr fun x fr' st' D' c2 a' w' g1 g2 g3 g4 g5=>hq x fr' st' D' c2 a' w' g1 g2 (hs.trans g3) (ht.trans g4) g5
 ·have hn:st.next+1<=n:=hn
  rw[h5 n ii]
  exact he.yb n ii
 ·obtain⟨v,e1,e2⟩:=he.fr.get t x hx
  exact⟨v,e1,Den.le h3.le _ _ e2⟩
theorem bd {P:Program} {lo:Nat} {z:Code} {fr:Fr} {st:St} {n:Nat} {t:List (Nat×SVal)} {heap:Hp} {next:Nat} {K:Ex->Fr->St->Prop} (hf:fr=⟨n,t⟩) (hs:st=⟨heap,next,0,[],[]⟩) (h:fg P lo z ⟨n,t⟩ ⟨heap,next,0,[],[]⟩ K):fg P lo z fr st K:=by
 subst hf hs;exact h
theorem bK {P:Program} {lo:Nat} {z:Code} {n:Nat} {t:List (Nat×SVal)} {heap:Hp} {next:Nat} {K:Ex->Fr->St->Prop} {l:List SVal} (k i m:Nat) (hk:bB heap k=some (.cells l)) (hi:l[i]? =some .aD)
  (h:fg P lo z ⟨n,t⟩ ⟨iS ((next,.row m [] 0 false)::heap) k (.cells (l.set i (.own next 0))),next+1,0,[],[]⟩ K):fg P lo z ⟨n,t⟩ ⟨heap,next,0,[],[]⟩ K:=by
 obtain⟨x,fr',st',h1,h2⟩:=h.out
 exact⟨x,fr',st',fun Φ hΦ=>W.Tt (st:=⟨heap,next,0,[],[]⟩) m hk hi (h1 Φ hΦ),h2⟩
theorem Il {α:Type} {g:α->SVal} {m:Nat} (h:∀x,nb m (g x)=true):∀l:List α,cX m (l.map g)=true
 |[]=>rfl
 |a::l=>by
  show(nb m (g a)&&cX m (l.map g))=true
  rw[h a,Il h l];rfl
theorem rm (m:Nat) (l:List Bool):cX m (l.map SVal.bool)=true:=Il (fun _=>rfl) l
theorem Nb {c c':Ctx} (e:c'.ρ=c.ρ) {k s:Nat} {v:Value} (h:Den c' (.own k s) v):Den c (.own k s) v:=by
 obtain⟨h0,b,st,sz,u,h1,h2⟩:=h
 exact⟨h0,b,st,sz,u,by rw[<-e];exact h1,h2⟩
theorem W.RY {P:Program} {lo:Nat} {z:Code} {fr:Fr} {st:St} {Φ:Ex->Fr->St->Prop} {b i k s m:Nat} {l:List SVal} {rows:List (List SVal)} {y:Bool} (hb:st.look b=some (.cells l)) (hi:l[i]? =some (.own k s)) (hk:st.look k=some (.row m rows s y))
  (h:W P lo z fr ((st.put k (.row m rows s true)).put b (.cells (l.set i (.aK false rows)))) Φ):W P lo z fr st Φ:=by
 intro ro B D c w a he hr Q hq
 obtain⟨c',e1,h2,h3,h4⟩:=pj hk he.rep
 have hne:b≠k:=fun e=>by subst e;rw[hb] at hk;cases hk
 have hb':(st.put k (.row m rows s true)).look b=some (.cells l):=by
  rw[nE hk,TP hne];exact hb
 obtain⟨h7,h8⟩:=jh (o':= .cells (l.set i (.aK false rows))) hb' h2 fun lc ho=>by
  cases lc with
  |row=>exact ho.elim
  |box bb=>
   obtain⟨arr,e,g1,g2,g3⟩:=ho
   exact⟨arr,e,g1,mM (fun v hv=>h4 v (Nb e1 hv)) hi g2,g3⟩
 have hsta:=(dA (.row m rows s true) hk).trans (dA (.cells (l.set i (.aK false rows))) hb')
 have hs:eA lo c st.look w c' ((st.put k (.row m rows s true)).put b (.cells (l.set i (.aK false rows)))).look w:=(h3.trans h8 (V2 _) (V2 _)).c he.low
 have ht:=hsta.c he.low
 refine h ⟨h7,he.wf.eX hsta,fun n hn=>by rw[e1];exact he.yb n hn,⟨he.fr.size,fun t x hx=> ?_,he.fr.defers⟩,he.Gl,he.base,Wq he.low hsta.next,by rw[hsta.mark];exact he.mark⟩ hr fun x fr' st' D' c2 a' w' g1 g2 g3 g4 g5=>hq x fr' st' D' c2 a' w' g1 g2 (hs.trans g3) (ht.trans g4) g5
 obtain⟨v,f1,f2⟩:=he.fr.get t x hx
 exact⟨v,f1,Den.le h3.le _ _ f2⟩
section
variable {P:Program} {lo:Nat} {n:Nat} {t:List (Nat×SVal)} {heap:Hp} {next:Nat} {l:List SVal} {k s m:Nat} {rows:List (List SVal)} {y:Bool}
theorem R.RY {z:Code} {K:Ex->Fr->St->Prop} (b i:Nat) (hb:bB heap b=some (.cells l)) (hi:l[i]? =some (.own k s)) (hk:bB heap k=some (.row m rows s y))
  (h:R P lo z ⟨n,t⟩ ⟨iS (iS heap k (.row m rows s true)) b (.cells (l.set i (.aK false rows))),next,0,[],[]⟩ K):R P lo z ⟨n,t⟩ ⟨heap,next,0,[],[]⟩ K:=by
 obtain⟨x,fr',st',h1,h2⟩:=h
 exact⟨x,fr',st',fun Φ hΦ=>W.RY (st:=⟨heap,next,0,[],[]⟩) hb hi hk (h1 Φ hΦ),h2⟩
theorem KK {z:Code} {K:Ex->Fr->St->Prop} (b i:Nat) (hb:bB heap b=some (.cells l)) (hi:l[i]? =some (.own k s)) (hk:bB heap k=some (.row m rows s y))
  (h:fg P lo z ⟨n,t⟩ ⟨iS (iS heap k (.row m rows s true)) b (.cells (l.set i (.aK false rows))),next,0,[],[]⟩ K):fg P lo z ⟨n,t⟩ ⟨heap,next,0,[],[]⟩ K:=⟨R.RY b i hb hi hk h.out⟩
theorem zT {ι:Type} {F:ι->Fr} {S:ι->St} {ms:ι->Nat} {j:ι} (b i:Nat) (hb:bB heap b=some (.cells l)) (hi:l[i]? =some (.own k s)) (hk:bB heap k=some (.row m rows s y))
  (h:qR P lo F S ms j ⟨n,t⟩ ⟨iS (iS heap k (.row m rows s true)) b (.cells (l.set i (.aK false rows))),next,0,[],[]⟩):qR P lo F S ms j ⟨n,t⟩ ⟨heap,next,0,[],[]⟩:=Pq (fun _ _=>R.RY b i hb hi hk) h
theorem wY {ι:Type} {F:ι->Fr} {S:ι->St} {ms:ι->Nat} {j:ι} {fr:Fr} {st:St} (hf:fr=⟨n,t⟩) (hs:st=⟨heap,next,0,[],[]⟩) (h:qR P lo F S ms j ⟨n,t⟩ ⟨heap,next,0,[],[]⟩):qR P lo F S ms j fr st:=by
 subst hf hs;exact h
end
class PQ {κ:Type} (kf:κ->SVal) where
 d:TypeDesc
 ok:∀x,fT d (kf x)
 inj:∀x y,kf x=kf y->x=y
 low:∀m x,nb m (kf x)=true
instance :PQ SVal.str:=⟨.string,fun _=>trivial,fun _ _ h=>by injection h,fun _ _=>rfl⟩
instance :PQ (SVal.int .i64):=⟨.int .i64,fun _=>rfl,fun _ _ h=>by injection h,fun _ _=>rfl⟩
section
variable {α κ:Type}
abbrev jt (kf:κ->SVal) (g:α->SVal) (m:List (κ×α)):List (SVal×SVal):=m.map fun p=>(kf p.1,g p.2)
def cx [DecidableEq κ] (x:κ):List (κ×α)->Option α
 |[]=>none
 |p::r=>if p.1=x then some p.2 else cx x r
variable {kf:κ->SVal} [hk:PQ kf] [DecidableEq κ] {g:α->SVal}
theorem Gv (g:α->SVal) (m:List (κ×α)):∀p∈jt kf g m,fT hk.d p.1:=fun p hp=>by
 obtain⟨q,_,rfl⟩:=WQ.1 hp
 exact hk.ok _
theorem pq {x:κ}:∀{m:List (κ×α)},cx x m=none->iv (jt kf g m) (kf x) none
 |[],_=> .nil
 |p::r,h=>by
  unfold cx at h
  split at h
  ·cases h
  ·rename_i hne
   exact iv.there (p:=(kf p.1,g p.2)) (x:=none) (fun e=>hne (hk.inj _ _ e)) (pq h)
theorem pn {x:κ} {v:α}:∀{m:List (κ×α)},cx x m=some v->∃i,iv (jt kf g m) (kf x) (some (i,g v))
 |p::r,h=>by
  unfold cx at h
  split at h
  ·rename_i e
   cases h
   rw[<-e]
   exact⟨0,.here⟩
  ·rename_i hne
   obtain⟨i,hi⟩:=pn h
   exact⟨i+1,iv.there (p:=(kf p.1,g p.2)) (x:=some (i,g v)) (fun e=>hne (hk.inj _ _ e)) hi⟩
theorem n4 {m:List (κ×α)} {x:κ} {Q:Option (Nat×SVal)->Prop} (h1:cx x m=none->Q none) (h2:∀v i,cx x m=some v->Q (some (i,g v))):∃r,iv (jt kf g m) (kf x) r/\Q r:=by
 cases h:cx x m with
 |none=>exact⟨none,pq h,h1 h⟩
 |some v=>obtain⟨i,hi⟩:=pn (kf:=kf) (g:=g) h;exact⟨_,hi,h2 v i h⟩
theorem fe {m:List (κ×α)} {x:κ} {v:α} {Q:Option (Nat×SVal)->Prop} (h:cx x m=some v) (k:∀i,Q (some (i,g v))):∃r,iv (jt kf g m) (kf x) r/\Q r:=by
 obtain⟨i,hi⟩:=pn (kf:=kf) (g:=g) h
 exact⟨_,hi,k i⟩
theorem FP {m:List (κ×α)} {x:κ} {v:α} {st:St} {k:Nat} {K:St->Prop} (hf:cx x m=none) (h:hY st k (.map (jt kf g (m++[(x,v)]))) K):
  fT hk.d (kf x)/\(∀p∈jt kf g m,fT hk.d p.1)/\iv (jt kf g m) (kf x) none/\hY st k (.map (jt kf g m++[(kf x,g v)])) K:=by
 refine⟨hk.ok x,Gv g m,pq hf,?_⟩
 rw[jt,W2] at h
 exact h
theorem nI {k:Nat} (h:∀x,nb k (g x)=true) (m:List (κ×α)):gN k (.map (jt kf g m))=true:=by
 show Ts k _=true
 induction m with
 |nil=>rfl
 |cons p r ih=>
  show(nb k (kf p.1)&&nb k (g p.2)&&Ts k (jt kf g r))=true
  rw[hk.low,h,ih];rfl
end
def bQ (n:Int):List SVal:=[.int .i64 n]
def IW (n:Int):List SVal:=[.int .u8 n]
def di (b:Bool):List SVal:=[.bool b]
def lB (s:List UInt8):List SVal:=[.str s]
def gk (l:List Int):List SVal:=[.aK false (l.map bQ)]
instance :Cl bQ:=⟨fun _=>rfl⟩
instance :Cl IW:=⟨fun _=>rfl⟩
instance :Cl di:=⟨fun _=>rfl⟩
instance :Cl lB:=⟨fun _=>rfl⟩
instance :Cl gk:=⟨fun l=>by simp only[gk,aB,closed,eM bQ,V3]⟩
def Ih:List Int:=[1,10,100,1000,10000,100000,1000000,10000000,100000000,1000000000,10000000000,100000000000,1000000000000,10000000000000,100000000000000,1000000000000000,10000000000000000,100000000000000000,1000000000000000000,10000000000000000000]
class lW where
 g:Nat
def ba [lW]:bo:= .lU lW.g (Ih.map (SVal.int .u64))
variable [lW]
mutual
theorem dY (σ:Nat->Nat):∀s:SVal,closed s=true->du σ s=s
 | .bool _,_=>rfl
 | .int _ _,_=>rfl
 | .str _,_=>rfl
 | .nilPtr,_=>rfl
 | .aD,_=>rfl
 | .eJ,_=>rfl
 | .fY,_=>rfl
 | .nilIface,_=>rfl
 | .ptr _ _,h=>by cases h
 | .fv _ _ _ _,h=>by cases h
 | .own _ _,h=>by cases h
 | .map _,h=>by cases h
 | .bR row off,h=>by rw[du,bW σ row h]
 | .aK f rows,h=>by rw[du,mr σ rows h]
 | .func fn x y,h=>by
  rw[closed,Wa,Wa] at h
  rw[du,bW σ x h.1.2,bW σ y h.2]
  cases fn<;>first|rfl|(have:=h.1.1;simp[dF] at this)
 | .iface t v,h=>by rw[du,dY σ v h]
 | .agg l,h=>by rw[du,bW σ l h]
 | .dZ l,h=>by rw[du,bW σ l h]
theorem bW (σ:Nat->Nat):∀l:List SVal,aB l=true->cz σ l=l
 |[],_=>rfl
 |s::r,h=>by
  rw[aB,Wa] at h
  rw[cz,dY σ s h.1,bW σ r h.2]
theorem mr (σ:Nat->Nat):∀l:List (List SVal),aL l=true->lR σ l=l
 |[],_=>rfl
 |s::r,h=>by
  rw[aL,Wa] at h
  rw[lR,bW σ s h.1,mr σ r h.2]
end
theorem tu (σ:Nat->Nat):fw σ ba=ba:=by
 show bo.lU _ (cz σ _)=_
 rw[bW σ _ (by decide)]
 rfl
theorem jO:plainO ba=true/\gN 1 ba=true:=⟨rfl,rfl⟩
theorem putsT {st:St} (hl:st.look 0=some ba) (σ:Nat->Nat):(hU σ [0] [ba] st).look=st.look/\(hU σ [0] [ba] st).next=st.next:=by
 refine⟨funext fun n=> ?_,rfl⟩
 show(st.put 0 (fw σ ba)).look n=_
 rw[tu,nE hl]
 split
 ·rename_i e;rw[e,hl]
 ·rfl
theorem Pk {P:Program} {f:FuncId} {args:List SVal} {s:SVal} (h:xi P f [ba] args s [ba]) (ha:aB args=true) (hs:closed s=true) {st:St} (hl:st.look 0=some ba):hJ P f args st s st:=by
 have hc:=vn h (big:=st) (ks:=[0]) (σ:=fun i=>[0].getD i 0) (fun _=>rfl) rfl (by simp) (fun i k o h1 h2=>by
  cases i with
  |zero=>simp at h1 h2;subst h1 h2;rw[tu];exact hl
  |succ i=>simp at h1)
 rw[bW _ _ ha,dY _ _ hs] at hc
 obtain⟨e1,e2⟩:=putsT hl (fun i=>[0].getD i 0)
 refine⟨hc.body,eS.refl st,fun{c w} hr hwf hfr vs hd=>(hc.ok hr hwf (fun k h1 h2=>by rw[e2] at h2;omega) hd).mono fun e w' he=> ?_⟩
 obtain⟨v,h1,c',gd⟩:=he
 exact⟨v,h1,c',gd.val,by rw[<-e1];exact gd.rep,by have:=gd.step;rw[e1,e2] at this;exact this⟩
section
variable {P:Program} {E:Env}
def bp (P:Program) (f:FuncId) (args:List SVal) (Ψ:SVal->Prop):Prop:=aB args=true/\xj P f [ba] args fun s o=>closed s=true/\o=[ba]/\Ψ s
noncomputable def xT (P:Program) (E:Env) (fn:Func) (args:List SVal) (Ψ:SVal->List bo->Prop):Prop:=match fn with
 |{ntmps:=n,results:=rs,body:=some b,.. }=>yes (Nat.ble args.length n)<|cF (w6 0 args) fun t=>xC P E 1 b ⟨n,t⟩ ⟨[(0,ba)],1,0,[],[]⟩ (GF E 1 rs.toList Ψ)
 |_=>False
theorem RR (hE:bz P E) {f:FuncId} {fn:Func} (hf:E.funcs.get f=some fn) {args:List SVal} {Ψ:SVal->Prop} (hc:aB args=true) (h:xT P E fn args fun s o=>closed s=true/\o=[ba]/\Ψ s):bp P f args Ψ:=
 ⟨hc,tK P E hE hf ⟨jO.1,jO.2,trivial⟩ (bq _ _ hc) h⟩
theorem J5 {o:Oper} {ev:jr} {st st1:St} {d:Go.Call} {fop:Operand} {f:FuncId} {first cap ss args:List SVal} {s:SVal} (ho:o.op= .call d) (hc:d.callee= .value fop) (hf:ev fop=some (.func (.func f) first cap)) (hev:lZ ev d.args.toList=some ss) (ha:iK st (first++(ss++cap)) args st1) (h:hJ P f args st1 s st1):bG P o ev st s st1:=
 ⟨by simp[ho],ha.eX.1,fun{c w} hr hwf hfr {e} he a next Q hn=>by
  obtain⟨vs,h1,h2⟩:=ja (P:=P) ho hc hf hev he
  obtain⟨fn,body,g1,g2,g3⟩:=h.body
  rw[h2]
  obtain⟨c1,e1,r1,s1,d1⟩:=ha.ok hr h1
  refine ff g1 g2 g3 (h.ok r1 (hwf.eX ha.eX.1) (fun k g1 g2=>by omega) d1) o a next Q fun v w' ⟨c2,gd⟩=> ?_
  exact hn c2 v w' ⟨gd.val,gd.rep,s1.trans gd.step ha.eX.1.next (V2 _)⟩⟩
theorem jb {f:FuncId} {args args':List SVal} {v:SVal} {st:St} {K:SVal->St->Prop} (h:bp P f args' fun s=>s=v) (ha:cH args=args') (hl:st.look 0=some ba) (k:K v st):eU P f args st K:=by
 obtain⟨hcl,s,o,h1,h2,rfl,rfl⟩:=h
 have hc:=Pk h1 hcl h2 hl
 refine⟨_,_,fun _ _ _ _ _ _ _ ho hc' hf hev he=>km ho hc' hf hev ?_,k⟩
 rw[he]
 refine⟨hc.body,hc.eX,fun hr hwf hfree vs hd=>hc.ok hr hwf hfree ?_⟩
 rw[<-ha]
 exact gE _ _ hd
theorem bI {f:FuncId} {args args':List SVal} {v:SVal} {st:St} {K:SVal->St->Prop} (h:bp P f args' fun s=>s=v) (k:Gz args st fun l st'=>l=args'/\st'.look 0=some ba/\K v st'):eU P f args st K:=by
 obtain⟨hcl,s,o,h1,h2,rfl,rfl⟩:=h
 obtain⟨l',st',g1,rfl,g2,g3⟩:=jl k
 have hc:=Pk h1 hcl h2 g2
 exact⟨_,_,fun _ _ _ _ _ _ _ ho hc' hf hev he=>J5 ho hc' hf hev (by rw[he];exact g1) hc,g3⟩
theorem Dj {l:List SVal} {heap:Hp} {next:Nat} {K:List SVal->List bo->Prop} (hs:bB heap 0=some ba) (hx:1<=next) (hc:aB l=true) (k:K l [ba]):ka 1 l ⟨heap,next,0,[],[]⟩ K:=
 dL [ba] rfl ⟨hs,trivial⟩ ⟨jO.1,jO.2,trivial⟩ (bq _ _ hc) hx k
end
theorem G7 {n:Nat}:∀{cE:List (Nat×Nat)},cE.all (fun p=>Nat.ble p.2 n)=true->∀k,ck k cE=true->k<n
 |[],_,k,h=>by cases h
 |p::r,h,k,hk=>by
  rw[List.all_cons,Wa] at h
  have hk: @Bool.rec (fun _=>Bool) (ck k r) (@Bool.rec (fun _=>Bool) (ck k r) true (Nat.ble (Nat.succ k) p.2)) (Nat.ble p.1 k)=true:=hk
  cases h1:Nat.ble p.1 k with
  |false=>rw[h1] at hk;exact G7 h.2 k hk
  |true=>
   rw[h1] at hk
   cases h2:Nat.ble (Nat.succ k) p.2 with
   |false=>rw[h2] at hk;exact G7 h.2 k hk
   |true=>exact Xe (cU h2) (cU h.1)
def CL (h h1:Hp) (log:List Nat):Nat->Prop
 |0=>True
 |k+1=>(bB h1 k=bB h k\/k∈log)/\CL h h1 log k
theorem CK {h h1:Hp} {log:List Nat}:∀{n:Nat},CL h h1 log n->∀k,k<n->k∉log->bB h1 k=bB h k
 |0,_,k,hk,_=>by omega
 |n+1,⟨g1,g2⟩,k,hk,hl=>by
  by_cases e:k=n
  ·subst e;exact g1.elim id fun h=>(hl h).elim
  ·exact CK g2 k ii hl
noncomputable def jM (mark:Nat) (cE:List (Nat×Nat)):List Nat->Bool
 |[]=>true
 |n::r=>match ck n cE with
  |true=>false
  |false=>match Nat.ble (Nat.succ n) mark with
   |true=>jM mark cE r
   |false=>false
theorem HC {mark:Nat} {cE:List (Nat×Nat)}:∀{l:List Nat},jM mark cE l=true->∀n∈l,ck n cE=false/\n<mark
 |[],_,n,h=>by cases h
 |a::r,h,n,hn=>by
  unfold jM at h
  split at h
  ·cases h
  ·rename_i h1
   split at h
   ·rename_i h2
    rcases V9.1 hn with rfl|hn
    ·exact⟨h1,cU h2⟩
    ·exact HC h n hn
   ·cases h
structure Tc (heap0:Hp) (next mark:Nat) (cE:List (Nat×Nat)) (ss:List SVal) (st:St) (K:List SVal->St->Prop):Prop where
 out:∃heap2 next2 log2,kS next ⟨heap2,next2,mark,log2,cE⟩ st/\mb next2 heap2 heap2/\CL heap0 heap2 log2 next/\jM mark cE log2=true/\cX next2 ss=true/\K ss ⟨heap2,next2,mark,log2,cE⟩
theorem Ox {heap0:Hp} {next mark:Nat} {log:List Nat} {cE:List (Nat×Nat)} {ss:List SVal} {heap:Hp} {next1:Nat} {K:List SVal->St->Prop} (hn:next<=next1) (hh:mb next1 heap heap) (hs:CL heap0 heap log next) (hb:cE.all (fun p=>Nat.ble p.2 next1)=true) (hl:jM mark cE log=true) (hv:cX next1 ss=true) (k:K ss ⟨heap,next1,mark,log,cE⟩):Tc heap0 next mark cE ss ⟨heap,next1,mark,log,cE⟩ K:=
 ⟨heap,next1,log,⟨V2 _,hn,rfl,rfl,rfl,G7 hb,fF hh,fun _ _=>rfl⟩,hh,hs,hl,hv,k⟩
section
variable {P:Program} {E:Env}
noncomputable def UZ (E:Env) (heap0:Hp) (next mark:Nat) (cE:List (Nat×Nat)) (rs:List ResultVar) (K:SVal->St->Prop) (x:Ex) (fr:Fr) (st:St):Prop:=match x with
 | .exit _=>False
 |_=>Gc E fr st rs fun ss=>Tc heap0 next mark cE ss st fun ss st=>match ss with
  |[v]=>K v st
  |vs=>K (.dZ vs) st
theorem R3 {heap0:Hp} {next mark:Nat} {cE:List (Nat×Nat)} {rs:List ResultVar} {K:SVal->St->Prop} {x:Ex} {fr:Fr} {st:St} (h:UZ E heap0 next mark cE rs K x fr st):sJ x=true/\∃ss,pG E fr st rs ss/\Tc heap0 next mark cE ss st fun ss st=>K (oY ss) st:=by
 unfold UZ at h
 split at h
 ·exact h.elim
 ·rename_i hx
  obtain⟨ss,h1,⟨a,b,c,g1,g2,g0,gv,g3,g4⟩⟩:=nA E h
  refine⟨?_,ss,h1,⟨a,b,c,g1,g2,g0,gv,g3,?_⟩⟩
  ·cases x with
   |exit j=>exact(hx j rfl).elim
   |normal=>rfl
   |ret=>rfl
  ·split at g4
   ·exact g4
   ·rename_i hv
    match ss,hv,g4 with
    |[],_,g=>exact g
    |[v],hv,_=>exact(hv v rfl).elim
    |a::b::r,_,g=>exact g
noncomputable def xD (P:Program) (E:Env) (fn:Func) (args:List SVal) (heap:Hp) (next mark:Nat) (cE:List (Nat×Nat)) (K:SVal->St->Prop):Prop:=match fn with
 |{ntmps:=n,results:=rs,body:=some b,.. }=>yes (Nat.ble args.length n)<|cF (w6 0 args) fun t=>xC P E next b ⟨n,t⟩ ⟨heap,next,mark,[],cE⟩ (UZ E heap next mark cE rs.toList K)
 |_=>False
theorem Ph (hE:bz P E) {f:FuncId} (fn:Func) (hf:E.funcs.get f=some fn) {args:List SVal} {heap:Hp} {next mark:Nat} {cE:List (Nat×Nat)} {K:SVal->St->Prop} (hh:mb next heap heap) (ha:cX next args=true) (h:xD P E fn args heap next mark cE K):eU P f args ⟨heap,next,mark,[],cE⟩ K:=by
 unfold xD at h
 split at h
 ·obtain⟨h1,g⟩:=b8 h
  obtain⟨t,h2,g⟩:=aH g
  cases qN h2
  obtain⟨x,fr',st',h3,h4⟩:=jw P E next hE g
  obtain⟨h5,ss,h6,⟨heap2,next2,log2,k1,k2,k0,kv,k3,k4⟩⟩:=R3 h4
  have hsta:eS ⟨heap,next,mark,[],cE⟩ ⟨heap2,next2,mark,log2,cE⟩:={
   cE:=rfl
   mark:=rfl
   next:=k1.low
   log:=fun _ h=>(by cases h)
   same:=fun k h1 _ h3=>CK k0 k h1 h3
   wf:=fun _ k hk=>by
    have hk:next2<=k:=hk
    show bB heap2 k=none
    cases hx:bB heap2 k with
    |none=>rfl
    |some o=>have:=(fF k2 k o hx).2.2;omega
   LQ:=fun n hn=> .inr (HC kv n hn)}
  refine⟨_,_,fun _ _ _ _ _ _ _ ho hc hf' hev he=>km ho hc hf' hev ?_,k4⟩
  rw[he]
  refine BI hE hf rfl hsta (fun k o hk=>(fF hh k o hk).2.1) ha ?_
  unfold entry
  rw[show args.length+(_-args.length)=_ from X9 (Ww h1)]
  exact h3 _ ⟨h5,ss,h6,ss,st',qx ss,rfl,k1,qc k3⟩
 ·exact h.elim
end
end Sv
namespace Sv
open Go Go.RowKit
variable [lW] {P:Program} {E:Env}
def bH:bo->Bool
 | .cells l=>aB l
 | .row _ rows _ _=>aL rows
 | .lU _ l=>aB l
 |_=>false
theorem fN (σ:Nat->Nat):∀{o:bo},bH o=true->fw σ o=o
 | .cells l,h=>W4 bo.cells (bW σ l h)
 | .row m rows s y,h=>W4 (fun r=>bo.row m r s y) (mr σ rows h)
 | .lU g l,h=>W4 (bo.lU g) (bW σ l h)
 | .still l,h=>by cases h
 | .map l,h=>by cases h
 | .loop r,h=>by cases h
theorem oI:∀{o:bo},bH o=true->plainO o=true
 | .cells _,_=>rfl
 | .row _ _ _ _,_=>rfl
 | .lU _ _,_=>rfl
 | .still l,h=>by cases h
 | .map l,h=>by cases h
 | .loop r,h=>by cases h
theorem vj (m:Nat):∀{o:bo},bH o=true->gN m o=true
 | .cells l,h=>bq m l h
 | .row _ rows _ _,h=>gM m rows h
 | .lU _ l,h=>bq m l h
 | .still l,h=>by cases h
 | .map l,h=>by cases h
 | .loop r,h=>by cases h
abbrev sig (ks:List Nat):Nat->Nat:=fun i=>(0::ks).getD i 0
theorem nJ {f:FuncId} {objs objs':List bo} {args:List SVal} {s:SVal} (h:xi P f (ba::objs) args s (ba::objs')) {big:St} {ks:List Nat} (hlen:ks.length=objs.length) (hnd:(0::ks).Nodup) (h0:big.look 0=some ba)
  (hbig:∀(i k:Nat) (o:bo),ks[i]? =some k->objs[i]? =some o->big.look k=some (fw (sig ks) o)):hJ P f (cz (sig ks) args) big (du (sig ks) s) (hU (sig ks) ks objs' big):=by
 have hb:∀(i k:Nat) (o:bo),(0::ks)[i]? =some k->(ba::objs)[i]? =some o->big.look k=some (fw (sig ks) o):=fun i k o h1 h2=>by
  cases i with
  |zero=>simp at h1 h2;subst h1 h2;rw[tu];exact h0
  |succ i=>exact hbig i k o (by simpa using h1) (by simpa using h2)
 have hc:=vn h (big:=big) (ks:=0::ks) (σ:=sig ks) (fun _=>rfl) (W4 (· +1) hlen) hnd hb
 have hl':objs'.length=objs.length:=by have:=h.len;simpa using this
 have hsome:∀k∈ks,∃o,big.look k=some o:=fun k hk=>by
  obtain⟨i,hi,e⟩:=Bd hk
  exact⟨_,hbig i k _ e (VV (hlen▸hi))⟩
 rw[Yd] at hnd
 obtain⟨p1,p2,p3,p4⟩:=nD (σ:=sig ks) (ks:=ks) (os:=objs') (st:=big) (hlen.trans hl'.symm) hnd.2 hsome
 have hlk0:=nE (o:=fw (sig ks) ba) h0
 have hsome':∀k∈ks,∃o,(big.put 0 (fw (sig ks) ba)).look k=some o:=fun k hk=>by
  rw[hlk0]
  split
  ·exact⟨_,rfl⟩
  ·exact hsome k hk
 obtain⟨q1,q2,q3,q4⟩:=nD (σ:=sig ks) (ks:=ks) (os:=objs') (st:=big.put 0 (fw (sig ks) ba)) (hlen.trans hl'.symm) hnd.2 hsome'
 have e1:(hU (sig ks) (0::ks) (ba::objs') big).look=(hU (sig ks) ks objs' big).look:=by
  funext n
  show(hU (sig ks) ks objs' (big.put 0 (fw (sig ks) ba))).look n=_
  by_cases hn:n∈ks
  ·obtain⟨i,hi,e⟩:=Bd hn
   have hi':i<objs'.length:=by omega
   rw[q4 i n _ e (VV hi'),p4 i n _ e (VV hi')]
  ·rw[q3 n hn,p3 n hn,hlk0]
   split
   ·rename_i e;rw[e,h0,tu]
   ·rfl
 have e2:(hU (sig ks) (0::ks) (ba::objs') big).next=(hU (sig ks) ks objs' big).next:=by
  show(hU (sig ks) ks objs' (big.put 0 (fw (sig ks) ba))).next=_
  rw[q2,p2]
  rfl
 refine⟨hc.body,p1,fun{c w} hr hwf hfr vs hd=>(hc.ok hr hwf (by rw[e2];exact hfr) hd).mono fun e w' he=> ?_⟩
 obtain⟨v,h1,c',gd⟩:=he
 exact⟨v,h1,c',gd.val,by rw[<-e1];exact gd.rep,by have:=gd.step;rw[e1,e2] at this;exact this⟩
def lY (P:Program) (f:FuncId) (o:bo) (args:List SVal) (Ψ:SVal->bo->Prop):Prop:=bH o=true/\xj P f [ba,o] args fun s os=>closed s=true/\∃o',os=[ba,o']/\bH o'=true/\Ψ s o'
theorem RT (hE:bz P E) {f:FuncId} {fn:Func} (hf:E.funcs.get f=some fn) {o:bo} {args:List SVal} {Ψ:SVal->bo->Prop} (ho:bH o=true) (hn:cX 2 args=true) (h:xM P E fn [ba,o] args fun s os=>closed s=true/\∃o',os=[ba,o']/\bH o'=true/\Ψ s o'):lY P f o args Ψ:=
 ⟨ho,tK P E hE hf ⟨jO.1,rfl,oI ho,vj _ ho,trivial⟩ hn h⟩
theorem dq {f:FuncId} {o o1:bo} {args args':List SVal} {v:SVal} {st:St} {K:SVal->St->Prop} (n:Nat) (h:lY P f o args' fun s o'=>s=v/\o'=o1) (ha:cH args=cz (sig [n]) args') (hn:Nat.ble 1 n=true) (h0:st.look 0=some ba) (hl:st.look n=some o) (k:hY st n o1 (K v)):eU P f args st K:=by
 obtain⟨ho,s,os,h1,h2,o',rfl,h3,rfl,rfl⟩:=h
 have hnd:(0::[n]).Nodup:=by
  have:=Ww hn
  simp;omega
 have hc:=nJ (objs:=[o]) (objs':=[o']) h1 (big:=st) (ks:=[n]) rfl hnd h0 (fun i k o1 e1 e2=>by
  cases i with
  |zero=>simp at e1 e2;subst e1 e2;rw[fN _ ho];exact hl
  |succ i=>simp at e1)
 rw[dY _ _ h2,show hU (sig [n]) [n] [o'] st=st.put n o' by show st.put n (fw _ o')=_;rw[fN _ h3]] at hc
 refine⟨_,_,fun _ _ _ _ _ _ _ ho hc' hf hev he=>km ho hc' hf hev ?_,dB k⟩
 rw[he]
 refine⟨hc.body,hc.eX,fun hr hwf hfree vs hd=>hc.ok hr hwf hfree ?_⟩
 rw[<-ha]
 exact gE _ _ hd
theorem NG {l:List SVal} {heap:Hp} {next:Nat} {o':bo} {K:List SVal->List bo->Prop} (h0:bB heap 0=some ba) (h1:bB heap 1=some o') (hx:2<=next) (hc:aB l=true) (ho:bH o'=true) (k:K l [ba,o']):ka 2 l ⟨heap,next,0,[],[]⟩ K:=
 dL [ba,o'] rfl ⟨h0,h1,trivial⟩ ⟨jO.1,rfl,oI ho,vj _ ho,trivial⟩ (bq _ _ hc) hx k
def lT (m:Nat) (rest:List SVal) (rows:List (List SVal)) (s:Nat):List bo:=[.cells (.own 2 s::rest),.row m rows s false]
def sX (P:Program) (f:FuncId) (m:Nat) (rest:List SVal) (rows:List (List SVal)) (args:List SVal) (Ψ:SVal->List (List SVal)->Prop):Prop:=aB rest=true/\aL rows=true/\∀t,xj P f (ba::lT m rest rows t) args fun s os=>closed s=true/\∃rows' t',os=ba::lT m rest rows' t'/\aL rows'=true/\Ψ s rows'
theorem Oe (hE:bz P E) {f:FuncId} {fn:Func} (hf:E.funcs.get f=some fn) {m:Nat} {rest:List SVal} {rows:List (List SVal)} {args:List SVal} {Ψ:SVal->List (List SVal)->Prop} (h1:aB rest=true) (h2:aL rows=true) (hn:cX 3 args=true)
  (h:∀t,xM P E fn [ba,.cells (.own 2 t::rest),.row m rows t false] args fun s os=>closed s=true/\∃rows' t',os=ba::lT m rest rows' t'/\aL rows'=true/\Ψ s rows'):sX P f m rest rows args Ψ:=
 ⟨h1,h2,fun t=>tK P E hE hf ⟨jO.1,rfl,rfl,by show cX 3 (.own 2 t::rest)=true;rw[cX,bq _ _ h1];rfl,rfl,gM _ _ h2,trivial⟩ hn (h t)⟩
theorem bu {f:FuncId} {m:Nat} {rest:List SVal} {rows rows1:List (List SVal)} {args args':List SVal} {v:SVal} {st:St} {K:SVal->St->Prop} (n k t:Nat) (h:sX P f m rest rows args' fun s r=>s=v/\r=rows1) (ha:cH args=cz (sig [n,k]) args') (hn:(Nat.ble 1 n&&Nat.ble 1 k&& !(Nat.beq n k))=true) (h0:st.look 0=some ba)
  (hl:st.look n=some (.cells (.own k t::rest))) (hl2:st.look k=some (.row m rows t false)) (kk:∀t',hY st n (.cells (.own k t'::rest)) fun st=>hY st k (.row m rows1 t' false) (K v)):eU P f args st K:=by
 obtain⟨g1,g2,h⟩:=h
 obtain⟨s,os,h1,h2,r,t',rfl,h3,rfl,rfl⟩:=h t
 rw[Wa,Wa] at hn
 have hnd:(0::[n,k]).Nodup:=by
  have a1:=Ww hn.1.1
  have a2:=Ww hn.1.2
  have a3:n≠k:=fun e=>by subst e;have:=hn.2;simp at this
  simp;omega
 have hren:∀u r,fw (sig [n,k]) (.cells (.own 2 u::rest))= .cells (.own k u::rest)/\(aL r=true->fw (sig [n,k]) (.row m r u false)= .row m r u false):=fun u r=>
  ⟨by show bo.cells (du _ (.own 2 u)::cz _ rest)=_;rw[bW _ _ g1];rfl,fun hr=>fN _ hr⟩
 have hc:=nJ (objs:=lT m rest rows t) (objs':=lT m rest r t') h1 (big:=st) (ks:=[n,k]) rfl hnd h0 (fun i k' o1 e1 e2=>by
  cases i with
  |zero=>simp[lT] at e1 e2;subst e1 e2;rw[(hren t rows).1];exact hl
  |succ i=>
   cases i with
   |zero=>simp[lT] at e1 e2;subst e1 e2;rw[(hren t rows).2 g2];exact hl2
   |succ i=>simp at e1)
 rw[dY _ _ h2,show hU (sig [n,k]) [n,k] (lT m rest r t') st=(st.put n (.cells (.own k t'::rest))).put k (.row m r t' false) by
  show(st.put n (fw _ _)).put k (fw _ _)=_
  rw[(hren t' r).1,(hren t' r).2 h3]] at hc
 refine⟨_,_,fun _ _ _ _ _ _ _ ho hc' hf hev he=>km ho hc' hf hev ?_,dB (dB (kk t'))⟩
 rw[he]
 refine⟨hc.body,hc.eX,fun hr hwf hfree vs hd=>hc.ok hr hwf hfree ?_⟩
 rw[<-ha]
 exact gE _ _ hd
theorem Dk {l:List SVal} {heap:Hp} {next t m:Nat} {rest:List SVal} {rows:List (List SVal)} {K:List SVal->List bo->Prop} (h0:bB heap 0=some ba) (h1:bB heap 1=some (.cells (.own 2 t::rest))) (h2:bB heap 2=some (.row m rows t false)) (hx:3<=next) (hc:aB l=true) (hr:aB rest=true) (ho:aL rows=true) (k:K l (ba::lT m rest rows t)):ka 3 l ⟨heap,next,0,[],[]⟩ K:=
 dL (ba::lT m rest rows t) rfl ⟨h0,h1,h2,trivial⟩ ⟨jO.1,rfl,rfl,by show cX 3 (.own 2 t::rest)=true;rw[cX,bq _ _ hr];rfl,rfl,gM _ _ ho,trivial⟩ (bq _ _ hc) hx k
end Sv
namespace Sv
open Go Go.RowKit
inductive Va:Type
 |mk (v d:bt Va):Va
def Va.v:Va->bt Va
 | .mk v _=>v
def Va.d:Va->bt Va
 | .mk _ d=>d
mutual
def aN:Va->List SVal
 | .mk v d=>Lp v++Lp d
def Lp:bt Va->List SVal
 |⟨a,sc,ls,ss⟩=>[.bool a,.bool sc.null,.bool sc.sE,.bool sc.rY,a7 sc.ints,a7 sc.bC,aE sc.strs,.aK false (oh ls),.aK false (og ss)]
def oh:List (aV Va)->List (List SVal)
 |[]=>[]
 |c::r=>wR c::oh r
def wR:aV Va->List SVal
 |⟨i,r⟩=>[.aK false (G1 i),.aK false (G1 r)]
def G1:List Va->List (List SVal)
 |[]=>[]
 |x::r=>aN x::G1 r
def og:List (aF Va)->List (List SVal)
 |[]=>[]
 |c::r=>wP c::og r
def wP:aF Va->List SVal
 |⟨f,k⟩=>[.aK false (zO f),.aK false (zQ k)]
def zO:List (dy Va)->List (List SVal)
 |[]=>[]
 |f::r=>Po f::zO r
def Po:dy Va->List SVal
 |⟨l,p,x⟩=> .str l:: .int .i64 p::aN x
def zQ:List (cW Va)->List (List SVal)
 |[]=>[]
 |k::r=>Pp k::zQ r
def Pp:cW Va->List SVal
 |⟨s,x⟩=>aE s::aN x
end
theorem BK:∀l:List Va,G1 l=l.map aN
 |[]=>rfl
 |x::r=>by rw[G1,BK r];rfl
theorem Ls:∀c:aV Va,wR c=aS aN c
 |⟨i,r⟩=>by rw[wR,BK,BK];rfl
theorem wQ:∀l:List (aV Va),oh l=l.map (aS aN)
 |[]=>rfl
 |x::r=>by rw[oh,wQ r,Ls];rfl
theorem SO:∀c:dy Va,Po c=cZ aN c
 |⟨l,p,x⟩=>by rw[Po];rfl
theorem EU:∀l:List (dy Va),zO l=l.map (cZ aN)
 |[]=>rfl
 |x::r=>by rw[zO,EU r,SO];rfl
theorem SP:∀c:cW Va,Pp c=dI aN c
 |⟨l,x⟩=>by rw[Pp];rfl
theorem EY:∀l:List (cW Va),zQ l=l.map (dI aN)
 |[]=>rfl
 |x::r=>by rw[zQ,EY r,SP];rfl
theorem Lq:∀c:aF Va,wP c=aG aN c
 |⟨f,k⟩=>by rw[wP,EU,EY];rfl
theorem wO:∀l:List (aF Va),og l=l.map (aG aN)
 |[]=>rfl
 |x::r=>by rw[og,wO r,Lq];rfl
theorem oe:∀v:bt Va,Lp v=cg aN v
 |⟨a,sc,ls,ss⟩=>by rw[Lp,wQ,wO];rfl
def ec (x:Va):List SVal:=[.bool x.v.any,.bool x.v.sc.null,.bool x.v.sc.sE,.bool x.v.sc.rY,a7 x.v.sc.ints,a7 x.v.sc.bC,aE x.v.sc.strs,.aK false (x.v.lists.map (aS aN)),.aK false (x.v.structs.map (aG aN)),
 .bool x.d.any,.bool x.d.sc.null,.bool x.d.sc.sE,.bool x.d.sc.rY,a7 x.d.sc.ints,a7 x.d.sc.bC,aE x.d.sc.strs,.aK false (x.d.lists.map (aS aN)),.aK false (x.d.structs.map (aG aN))]
theorem cA:∀x:Va,aN x=ec x
 | .mk v d=>by rw[aN,oe,oe];rfl
abbrev lQ (f:dy Va):List SVal:= .str f.label:: .int .i64 f.dR::ec f.val
theorem cP (f:dy Va):cZ aN f=lQ f:=by rw[cZ,cA]
abbrev fI (k:cW Va):List SVal:=aE k.set::ec k.val
theorem cB (k:cW Va):dI aN k=fI k:=by rw[dI,cA]
mutual
theorem I7:∀x:Va,aB (aN x)=true
 | .mk v d=>by
  have h1:=O2 v
  have h2:=O2 d
  rw[aN,oe] at*
  rw[oe] at*
  show aB (cg aN v++cg aN d)=true
  simp only[cg,aB,Wa,XM,Xg] at h1 h2⊢
  simp only[h1,h2,and_self]
theorem O2:∀v:bt Va,aB (Lp v)=true
 |⟨a,sc,ls,ss⟩=>by rw[Lp];simp only[aB,closed,bN,cj,O4 ls,O3 ss,V3]
theorem O4:∀l:List (aV Va),aL (oh l)=true
 |[]=>rfl
 |c::r=>by rw[oh,aL,cl_lc c,O4 r];rfl
theorem cl_lc:∀c:aV Va,aB (wR c)=true
 |⟨i,r⟩=>by rw[wR];simp only[aB,closed,GW i,GW r,V3]
theorem GW:∀l:List Va,aL (G1 l)=true
 |[]=>rfl
 |x::r=>by rw[G1,aL,I7 x,GW r];rfl
theorem O3:∀l:List (aF Va),aL (og l)=true
 |[]=>rfl
 |c::r=>by rw[og,aL,cl_sc c,O3 r];rfl
theorem cl_sc:∀c:aF Va,aB (wP c)=true
 |⟨f,k⟩=>by rw[wP];simp only[aB,closed,I9 f,Jb k,V3]
theorem I9:∀l:List (dy Va),aL (zO l)=true
 |[]=>rfl
 |f::r=>by rw[zO,aL,Vi f,I9 r];rfl
theorem Vi:∀f:dy Va,aB (Po f)=true
 |⟨l,p,x⟩=>by rw[Po];simp only[aB,closed,I7 x,V3]
theorem Jb:∀l:List (cW Va),aL (zQ l)=true
 |[]=>rfl
 |k::r=>by rw[zQ,aL,Vj k,Jb r];rfl
theorem Vj:∀k:cW Va,aB (Pp k)=true
 |⟨s,x⟩=>by rw[Pp];simp only[aB,cj,I7 x,V3]
end
instance :Cl aN:=⟨I7⟩
section
variable {α:Type} {f:α->List SVal} {l:List α}
theorem bF {j:Nat} {x:α} {sz:Nat} {row:List SVal} {K:List SVal->Prop} (u:f x=row) (h:l[j]? =some x) (hl:row.length=sz) (k:K row):AtR (l.map f) (j:Int) sz K:=by
 subst u;exact bx h hl k
theorem bP {n:Int} {j:Nat} {x:α} {sz:Nat} {row:List SVal} {K:List SVal->Prop} (u:f x=row) (en:n=(j:Int)) (h:l[j]? =some x) (hl:row.length=sz) (k:K row):AtR (l.map f) n sz K:=by
 subst u;exact bD en h hl k
theorem pY {j:Nat} {x:α} {row:List SVal} {K:List SVal->Prop} (u:f x=row) (h:l[j]? =some x) (k:K row):VG (l.map f) j K:=by
 subst u;exact bT h k
end
structure Mem (D:Type) where
 label:List UInt8
 data:D
structure dt (D:Type) where
 kind:Int
 num:Int
 str:List UInt8
 items:List D
 members:List (Mem D)
section
variable {D:Type} (e:D->List SVal)
def jV (m:Mem D):List SVal:= .str m.label::e m.data
def iC (d:dt D):List SVal:=[.int .i64 d.kind,.int .i64 d.num,.str d.str,.aK false (d.items.map e),.aK false (d.members.map (jV e))]
variable {e} [h:Cl e]
instance :Cl (jV e):=⟨fun f=>by simp only[jV,aB,closed,cl e,V3]⟩
instance :Cl (iC e):=⟨fun f=>by simp only[iC,aB,closed,eM e,eM (jV e),V3]⟩
end
inductive bA:Type
 |mk (d:dt bA):bA
def bA.c:bA->dt bA
 | .mk d=>d
mutual
def dP:bA->List SVal
 | .mk ⟨k,n,s,i,m⟩=>[.int .i64 k,.int .i64 n,.str s,.aK false (zP i),.aK false (zN m)]
def zP:List bA->List (List SVal)
 |[]=>[]
 |x::r=>dP x::zP r
def zN:List (Mem bA)->List (List SVal)
 |[]=>[]
 |f::r=>Pn f::zN r
def Pn:Mem bA->List SVal
 |⟨l,x⟩=> .str l::dP x
end
theorem EV:∀l:List bA,zP l=l.map dP
 |[]=>rfl
 |x::r=>by rw[zP,EV r];rfl
theorem SN:∀c:Mem bA,Pn c=jV dP c
 |⟨l,x⟩=>by rw[Pn];rfl
theorem ET:∀l:List (Mem bA),zN l=l.map (jV dP)
 |[]=>rfl
 |x::r=>by rw[zN,ET r,SN];rfl
abbrev cS (x:bA):List SVal:=iC dP x.c
theorem eo:∀x:bA,dP x=cS x
 | .mk ⟨k,n,s,i,m⟩=>by rw[dP,EV,ET];rfl
abbrev JP (m:Mem bA):List SVal:= .str m.label::cS m.data
theorem bJ (f:Mem bA):jV dP f=JP f:=by rw[jV,eo]
mutual
theorem GX:∀x:bA,aB (dP x)=true
 | .mk ⟨k,n,s,i,m⟩=>by rw[dP];simp only[aB,closed,Ja i,I8 m,V3]
theorem Ja:∀l:List bA,aL (zP l)=true
 |[]=>rfl
 |x::r=>by rw[zP,aL,GX x,Ja r];rfl
theorem I8:∀l:List (Mem bA),aL (zN l)=true
 |[]=>rfl
 |k::r=>by rw[zN,aL,Vh k,I8 r];rfl
theorem Vh:∀k:Mem bA,aB (Pn k)=true
 |⟨s,x⟩=>by rw[Pn];simp only[aB,closed,GX x,V3]
end
instance :Cl dP:=⟨GX⟩
instance :Cl cS:=⟨fun x=>cl (iC dP) x.c⟩
instance :Cl JP:=⟨fun x=>by simp only[JP,aB,closed,cl cS,V3]⟩
instance :Cl ec:=⟨fun x=>by simp only[ec,aB,closed,bN,cj,eM (aS aN),eM (aG aN),V3]⟩
instance :Cl lQ:=⟨fun x=>by simp only[lQ,aB,closed,cl ec,V3]⟩
instance :Cl fI:=⟨fun x=>by simp only[fI,aB,cj,cl ec,V3]⟩
variable [lW] {P:Program} {E:Env}
theorem bV {α:Type} {f:α->List SVal} [Cl f] (σ:Nat->Nat) (x:α):du σ (.agg (f x))= .agg (f x):=dY _ _ (clA f x)
theorem bU {α:Type} {f:α->List SVal} [Cl f] (σ:Nat->Nat) (b:Bool) (l:List α):du σ (.aK b (l.map f))= .aK b (l.map f):=dY _ _ (clS f b l)
noncomputable def xO (P:Program) (E:Env) (fn:Func) (o:bo) (args:List SVal) (Ψ:SVal->List bo->Prop):Prop:=match fn with
 |{ntmps:=n,results:=rs,body:=some b,.. }=>yes (Nat.ble args.length n)<|cF (w6 0 args) fun t=>xC P E 2 b ⟨n,t⟩ ⟨[(0,ba),(1,o)],2,0,[],[]⟩ (GF E 2 rs.toList Ψ)
 |_=>False
theorem dV (hE:bz P E) {f:FuncId} {fn:Func} (hf:E.funcs.get f=some fn) {o:bo} {args:List SVal} {Ψ:SVal->bo->Prop} (ho:bH o=true) (hn:cX 2 args=true) (h:xO P E fn o args fun s os=>closed s=true/\∃o',os=[ba,o']/\bH o'=true/\Ψ s o'):lY P f o args Ψ:=
 RT hE hf ho hn h
noncomputable def xRw (P:Program) (E:Env) (fn:Func) (m:Nat) (rest:List SVal) (rows:List (List SVal)) (t:Nat) (args:List SVal) (Ψ:SVal->List bo->Prop):Prop:=match fn with
 |{ntmps:=n,results:=rs,body:=some b,.. }=>yes (Nat.ble args.length n)<|cF (w6 0 args) fun tt=>xC P E 3 b ⟨n,tt⟩ ⟨[(0,ba),(1,.cells (.own 2 t::rest)),(2,.row m rows t false)],3,0,[],[]⟩ (GF E 3 rs.toList Ψ)
 |_=>False
theorem nU (hE:bz P E) {f:FuncId} {fn:Func} (hf:E.funcs.get f=some fn) {m:Nat} {rest:List SVal} {rows:List (List SVal)} {args:List SVal} {Ψ:SVal->List (List SVal)->Prop} (h1:aB rest=true) (h2:aL rows=true) (hn:cX 3 args=true)
  (h:∀t,xRw P E fn m rest rows t args fun s os=>closed s=true/\∃rows' t',os=ba::lT m rest rows' t'/\aL rows'=true/\Ψ s rows'):sX P f m rest rows args Ψ:=
 Oe hE hf h1 h2 hn h
end Sv
namespace Sv
open Go Go.RowKit
theorem W.FR {P:Program} {lo:Nat} {z:Code} {fr:Fr} {st:St} {Φ:Ex->Fr->St->Prop} {b:Nat} {l:List SVal} (hb:st.look b=some (.cells l)) (hf:gi l=true)
  (h:W P lo z fr (st.put b (.still l)) Φ):W P lo z fr st Φ:=by
 intro ro B D c w a he hr Q hq
 obtain⟨c',e1,h2,h3,h4⟩:=yA hb he.rep (ig hf) fun b' arr e hc hw=>by
  obtain⟨lc,g1,g2⟩:=he.rep.dO _ _ hb
  rw[hc] at g1
  cases g1
  obtain⟨arr',e',k1,k2,k3⟩:=g2
  rw[hw] at k1
  cases k1
  exact k2
 have hsta:=dA (.still l) hb
 have hs:eA lo c st.look w c' (st.put b (.still l)).look w:=h3.c he.low
 have ht:=hsta.c he.low
 refine h ⟨h2,he.wf.eX hsta,fun n hn=>by rw[e1];exact he.yb n hn,⟨he.fr.size,fun t x hx=> ?_,he.fr.defers⟩,he.Gl,he.base,Wq he.low hsta.next,by rw[hsta.mark];exact he.mark⟩ hr fun x fr' st' D' c2 a' w' g1 g2 g3 g4 g5=>hq x fr' st' D' c2 a' w' g1 g2 (hs.trans g3) (ht.trans g4) g5
 obtain⟨v,f1,f2⟩:=he.fr.get t x hx
 exact⟨v,f1,Den.le h3.le _ _ f2⟩
section
variable {P:Program} {lo:Nat} {n:Nat} {t:List (Nat×SVal)} {heap:Hp} {next:Nat} {l:List SVal}
theorem R.FR {z:Code} {K:Ex->Fr->St->Prop} (b:Nat) (hb:bB heap b=some (.cells l)) (hf:gi l=true)
  (h:R P lo z ⟨n,t⟩ ⟨iS heap b (.still l),next,0,[],[]⟩ K):R P lo z ⟨n,t⟩ ⟨heap,next,0,[],[]⟩ K:=by
 obtain⟨x,fr',st',h1,h2⟩:=h
 exact⟨x,fr',st',fun Φ hΦ=>W.FR (st:=⟨heap,next,0,[],[]⟩) hb hf (h1 Φ hΦ),h2⟩
theorem sy {z:Code} {K:Ex->Fr->St->Prop} (b:Nat) (hb:bB heap b=some (.cells l)) (hf:gi l=true)
  (h:fg P lo z ⟨n,t⟩ ⟨iS heap b (.still l),next,0,[],[]⟩ K):fg P lo z ⟨n,t⟩ ⟨heap,next,0,[],[]⟩ K:=⟨R.FR b hb hf h.out⟩
end
theorem Ha {α:Type} {f:α->List SVal} {l:List α} {K:List (List SVal)->Prop} (k:K (l.map f)):xm (List.drop 0 (List.take l.length (l.map f))) K:=⟨by
 rw[<-V4 (f:=f),List.take_length]
 exact k⟩
theorem q6 {P:Program} {o:Oper} {ev:jr} {st st1 st2:St} {d:Go.Call} {fop:Operand} {f:FuncId} {first cap ss args:List SVal} {s:SVal} (ho:o.op= .call d) (hc:d.callee= .value fop) (hf:ev fop=some (.func (.func f) first cap)) (hev:lZ ev d.args.toList=some ss) (ha:iK st (first++(ss++cap)) args st1) (h:hJ P f args st1 s st2):bG P o ev st s st2:=
 ⟨by simp[ho],ha.eX.1.trans h.eX,fun{c w} hr hwf hfr {e} he a next Q hn=>by
  obtain⟨vs,h1,h2⟩:=ja (P:=P) ho hc hf hev he
  obtain⟨fn,body,g1,g2,g3⟩:=h.body
  rw[h2]
  obtain⟨c1,e1,r1,s1,d1⟩:=ha.ok hr h1
  refine ff g1 g2 g3 (h.ok r1 (hwf.eX ha.eX.1) (fun k g1 g2=>by rw[ha.eX.2] at g1;rw[e1];exact hfr k g1 g2) d1) o a next Q fun v w' ⟨c2,gd⟩=> ?_
  exact hn c2 v w' ⟨gd.val,gd.rep,s1.trans gd.step ha.eX.1.next h.eX.next⟩⟩
section
variable [lW] {P:Program}
theorem wN {f:FuncId} {o o1:bo} {v fn fn':SVal} {st:St} {K:SVal->St->Prop} {s:Nat} (n:Nat) (h:lY P f o [.own 1 s,fn'] fun x o'=>x=v/\o'=o1) (hn:Nat.ble 1 n=true) (hfc:closed fn'=true)
  (k:Gz [fn] st fun l st1=>l=[fn']/\st1.look 0=some ba/\st1.look n=some o/\hY st1 n o1 (K v)):eU P f [.own n s,fn] st K:=by
 obtain⟨ho,r,os,h1,h2,o',rfl,h3,rfl,rfl⟩:=h
 obtain⟨l',st1,g1,rfl,g2,g3,g4⟩:=jl k
 have hnd:(0::[n]).Nodup:=by
  have:=Ww hn
  simp;omega
 have hc:=nJ (objs:=[o]) (objs':=[o']) h1 (big:=st1) (ks:=[n]) rfl hnd g2 (fun i k o1 e1 e2=>by
  cases i with
  |zero=>simp at e1 e2;subst e1 e2;rw[fN _ ho];exact g3
  |succ i=>simp at e1)
 rw[dY _ _ h2,show hU (sig [n]) [n] [o'] st1=st1.put n o' by show st1.put n (fw _ o')=_;rw[fN _ h3],show cz (sig [n]) [.own 1 s,fn']=[.own n s,fn'] by rw[cz,cz,dY _ fn' hfc];rfl] at hc
 exact⟨_,_,fun _ _ _ _ _ _ _ ho hc' hf hev he=>q6 ho hc' hf hev (by rw[he];exact .same g1) hc,dB g4⟩
end
theorem FG {α:Type} {f:α->List SVal} {l:List α} {i off:Nat} {v row row':List SVal} {K:List (List SVal)->Prop} (x y:α) (ux:f x=row) (uy:f y=row') (h:l[i]? =some x) (hr:kr row off v=some row') (k:K ((l.set i y).map f)):WrR (l.map f) i off v K:=by
 subst ux uy
 exact cw x y h hr k
theorem Kr {P:Program} {o:Oper} {ev:jr} {st st1 st':St} {s:SVal} (hsta:eS st st1)
  (hpre:∀{c:Ctx} {w:World},dM c st.look w->Wf st->pH c st.next st'.next->∃c1,dM c1 st1.look w/\Step st.next st1.next c st.look w c1 st1.look w) (h:bG P o ev st1 s st'):bG P o ev st s st' where
 nd:=h.nd
 eX:=hsta.trans h.eX
 ok:=fun{c w} hr hwf hfr {e} he a next Q hn=>by
  obtain⟨c1,h2,h3⟩:=hpre hr hwf hfr
  exact h.ok h2 (hwf.eX hsta) (pH.step hfr h3 hsta.next) (fun x hx s hs=>Den.le h3.le _ _ (he x hx s hs)) a next Q fun c' v w' gd=>hn c' v w' ⟨gd.val,gd.rep,h3.trans gd.step hsta.next h.eX.next⟩
theorem G0 {P:Program} {f:FuncId} {args:List SVal} {st:St} {K:SVal->St->Prop} {l:List SVal} (k i m:Nat) (hk:st.look k=some (.cells l)) (hi:l[i]? =some .aD)
  (h:hY (st.fresh (.row m [] 0 false)) k (.cells (l.set i (.own st.next 0))) fun st1=>eU P f args st1 K) (hw:Nat.ble (Nat.succ k) st.next=true):eU P f args st K:=by
 have hne:k≠st.next:=fun e=>by
  have:=Ww hw
  omega
 have hk':(st.fresh (.row m [] 0 false)).look k=some (.cells l):=by
  rw[look_eq]
  have h6:=cT hk
  show(if ck k st.cE=true then none else bB ((st.next,bo.row m [] 0 false)::st.heap) k)=_
  rw[h6.2,b9,TP (XF hne),h6.1]
  rfl
 have hsta:=(dE st (.row m [] 0 false)).trans (dA (.cells (l.set i (.own st.next 0))) hk')
 obtain⟨s,st',h1,h2⟩:=(dB h).out
 refine⟨s,st',fun _ _ _ _ _ _ _ ho hc' hf hev he=> ?_,h2⟩
 have g:=h1 _ _ _ _ _ _ _ ho hc' hf hev he
 refine Kr hsta (fun{c w} hr hwf hfr=> ?_) g
 have hn:c.ρ st.next=none:=hfr _ (V2 _) (Xe (WW _) g.eX.next)
 obtain⟨c',h2,h3,h5,h4⟩:=vk hr hn hwf m
 obtain⟨h7,h8⟩:=jh (o':= .cells (l.set i (.own st.next 0))) hk' h2 fun lc ho=>by
  cases lc with
  |row=>exact ho.elim
  |box b=>
   obtain⟨arr,e,g1,g2,g3⟩:=ho
   exact⟨arr,e,g1,mM h4 hi g2,g3⟩
 exact⟨c',h7,h3.trans h8 (XI _) (V2 _)⟩
theorem fQ {P:Program} {f:FuncId} {args:List SVal} {heap:Hp} {next mark:Nat} {log:List Nat} {cE:List (Nat×Nat)} {K:SVal->St->Prop} {l:List SVal} (k i m:Nat) (hk:St.look ⟨heap,next,mark,log,cE⟩ k=some (.cells l)) (hi:l[i]? =some .aD)
  (h:hY ⟨(next,.row m [] 0 false)::heap,next+1,mark,log,cE⟩ k (.cells (l.set i (.own next 0))) fun st1=>eU P f args st1 K) (hw:Nat.ble (Nat.succ k) next=true):eU P f args ⟨heap,next,mark,log,cE⟩ K:=
 G0 k i m hk hi h hw
section
variable [lW] {P:Program}
theorem dC {f:FuncId} {m off:Nat} {rest:List SVal} {rows rows1:List (List SVal)} {args args':List SVal} {v:SVal} {st:St} {K:SVal->St->Prop} (n k t:Nat) (h:sX P f m rest rows (.ptr 1 off::args') fun s r=>s=v/\r=rows1) (hcl:aB args'=true) (hn:(Nat.ble 1 n&&Nat.ble 1 k&& !(Nat.beq n k))=true)
  (kk:Gz args st fun l st1=>l=args'/\st1.look 0=some ba/\st1.look n=some (.cells (.own k t::rest))/\st1.look k=some (.row m rows t false)/\∀t',hY st1 n (.cells (.own k t'::rest)) fun st=>hY st k (.row m rows1 t' false) (K v)):eU P f (.ptr n off::args) st K:=by
 obtain⟨g1,g2,h⟩:=h
 obtain⟨s,os,h1,h2,r,t',rfl,h3,rfl,rfl⟩:=h t
 obtain⟨l',st1,f1,rfl,h0,hl,hl2,kk⟩:=jl kk
 rw[Wa,Wa] at hn
 have hnd:(0::[n,k]).Nodup:=by
  have a1:=Ww hn.1.1
  have a2:=Ww hn.1.2
  have a3:n≠k:=fun e=>by subst e;have:=hn.2;simp at this
  simp;omega
 have hren:∀u r,fw (sig [n,k]) (.cells (.own 2 u::rest))= .cells (.own k u::rest)/\(aL r=true->fw (sig [n,k]) (.row m r u false)= .row m r u false):=fun u r=>
  ⟨by show bo.cells (du _ (.own 2 u)::cz _ rest)=_;rw[bW _ _ g1];rfl,fun hr=>fN _ hr⟩
 have hc:=nJ (objs:=lT m rest rows t) (objs':=lT m rest r t') h1 (big:=st1) (ks:=[n,k]) rfl hnd h0 (fun i k' o1 e1 e2=>by
  cases i with
  |zero=>simp[lT] at e1 e2;subst e1 e2;rw[(hren t rows).1];exact hl
  |succ i=>
   cases i with
   |zero=>simp[lT] at e1 e2;subst e1 e2;rw[(hren t rows).2 g2];exact hl2
   |succ i=>simp at e1)
 rw[dY _ _ h2,show hU (sig [n,k]) [n,k] (lT m rest r t') st1=(st1.put n (.cells (.own k t'::rest))).put k (.row m r t' false) by
  show(st1.put n (fw _ _)).put k (fw _ _)=_
  rw[(hren t' r).1,(hren t' r).2 h3],show cz (sig [n,k]) (.ptr 1 off::l')= .ptr n off::l' by rw[cz,bW _ _ hcl];rfl] at hc
 exact⟨_,_,fun _ _ _ _ _ _ _ ho hc' hf hev he=>q6 ho hc' hf hev (by rw[he];exact .same f1) hc,dB (dB (kk t'))⟩
end
theorem wZ {rows:List (List SVal)} {K:List (List SVal)->Prop} (k:K rows):xm ([]++rows) K:=⟨k⟩
theorem RC {c:Ctx} {v:Value} (h:Den c (.aK true []) v):∃a,v= .slice a 0 0:=by
 rcases h with⟨_,a,cap,h1,h2⟩|⟨b,base,size,cap,h1,h2,h3,_⟩
 ·exact⟨a,by rw[h1,h2 rfl]⟩
 ·exact⟨_,by rw[h1,h3 rfl];rfl⟩
theorem Kx {st:St} {c:Ctx} {w:World} (hr:dM c st.look w) (hf:c.ρ st.next=none) (hwf:Wf st) (m:Nat) {v:Value} (hv:∃a,v= .slice a 0 0):
  ∃c',dM c' (st.fresh (.row m [] 0 false)).look w/\Step st.next (st.fresh (.row m [] 0 false)).next c st.look w c' (st.fresh (.row m [] 0 false)).look w/\(∀k,k≠st.next->c'.ρ k=c.ρ k)/\Den c' (.own st.next 0) v:=by
 obtain⟨a,rfl⟩:=hv
 obtain⟨g1,g2⟩:=gQ (o:= .row m [] 0 false) (l:= .row none 0 m (.slice a 0 0)) hr hf hwf (dj.refl w) (fun b hb=>by cases hb) ⟨rfl,rfl,rfl,a,rfl⟩
 refine⟨_,g1,g2,fun k hk=> ?_,?_⟩
 ·show(if k=st.next then _ else c.ρ k)=_
  rw[TP hk]
 ·exact gY (cI _ _ _) ⟨_,_,_,rfl⟩
theorem W.nameL {P:Program} {lo:Nat} {z:Code} {fr fr1:Fr} {st:St} {Φ:Ex->Fr->St->Prop} (d m:Nat) (hn:fr1.n=fr.n) (hd:fr.get d=some (.aK true [])) (hf:∀t x,fr1.get t=some x->(t≠d/\fr.get t=some x)\/(t=d/\x= .own st.next 0))
  (h:W P lo z fr1 (st.fresh (.row m [] 0 false)) Φ):W P lo z fr st Φ:=by
 intro ro B D c w a he hr Q hq
 obtain⟨v,e1,e2⟩:=he.fr.get d _ hd
 obtain⟨c',h2,h3,h5,h4⟩:=Kx he.rep (he.yb _ (V2 _)) he.wf m (RC e2)
 have hs:eA lo c st.look w c' (st.fresh (.row m [] 0 false)).look w:=h3.c he.low
 have hsta:=dE st (.row m [] 0 false)
 have ht:=hsta.c he.low
 refine h ⟨h2,he.wf.eX hsta,fun n hn=> ?_,⟨by rw[hn];exact he.fr.size,fun t x hx=> ?_,he.fr.defers⟩,he.Gl,he.base,Wq he.low hsta.next,by rw[hsta.mark];exact he.mark⟩ hr fun x fr' st' D' c2 a' w' g1 g2 g3 g4 g5=>hq x fr' st' D' c2 a' w' g1 g2 (hs.trans g3) (ht.trans g4) (g5.trans hn)
 ·have hn:st.next+1<=n:=hn
  rw[h5 n ii]
  exact he.yb n ii
 ·rcases hf t x hx with⟨_,e⟩|⟨rfl,rfl⟩
  ·obtain⟨v,e1,e2⟩:=he.fr.get t x e
   exact⟨v,e1,Den.le h3.le _ _ e2⟩
  ·exact⟨v,e1,h4⟩
theorem Gq {P:Program} {lo:Nat} {z:Code} {n:Nat} {t:List (Nat×SVal)} {heap:Hp} {next mark:Nat} {log:List Nat} {cE:List (Nat×Nat)} {K:Ex->Fr->St->Prop} (d m:Nat) (hd:bB t d=some (.aK true []))
  (h:fg P lo z ⟨n,(d,.own next 0)::t⟩ ⟨(next,.row m [] 0 false)::heap,next+1,mark,log,cE⟩ K):fg P lo z ⟨n,t⟩ ⟨heap,next,mark,log,cE⟩ K:=by
 obtain⟨x,fr',st',h1,h2⟩:=h.out
 refine⟨⟨x,fr',st',fun Φ hΦ=>W.nameL (fr:=⟨n,t⟩) (fr1:=⟨n,(d,.own next 0)::t⟩) d m rfl hd (fun k x hx=> ?_) (h1 Φ hΦ),h2⟩⟩
 have h1:(if d=k then some (SVal.own next 0) else bB t k)=some x:=(b9 (d,SVal.own next 0) t k).symm.trans hx
 by_cases e:d=k
 ·rw[HP e] at h1
  exact .inr ⟨e.symm,(Wm h1).symm⟩
 ·rw[TP e] at h1
  exact .inl ⟨fun h=>e h.symm,h1⟩
theorem Rr {c:Ctx} {v:Value} (h:Den c .aD v):Den c (.aK false []) v:= .inl ⟨rfl,none,0,h,fun e=>by cases e⟩
theorem W.lstB {P:Program} {lo:Nat} {z:Code} {fr:Fr} {st:St} {Φ:Ex->Fr->St->Prop} {b i:Nat} {l:List SVal} (hb:st.look b=some (.cells l)) (hi:l[i]? =some .aD)
  (h:W P lo z fr (st.put b (.cells (l.set i (.aK false [])))) Φ):W P lo z fr st Φ:=by
 intro ro B D c w a he hr Q hq
 obtain⟨h7,h8⟩:=jh (o':= .cells (l.set i (.aK false []))) hb he.rep fun lc ho=>by
  cases lc with
  |row=>exact ho.elim
  |box bb=>
   obtain⟨arr,e,g1,g2,g3⟩:=ho
   exact⟨arr,e,g1,mM (fun v hv=>Rr hv) hi g2,g3⟩
 have hsta:=dA (.cells (l.set i (.aK false []))) hb
 have hs:eA lo c st.look w c (st.put b (.cells (l.set i (.aK false [])))).look w:=h8.c he.low
 have ht:=hsta.c he.low
 exact h ⟨h7,he.wf.eX hsta,he.yb,he.fr,he.Gl,he.base,Wq he.low hsta.next,by rw[hsta.mark];exact he.mark⟩ hr fun x fr' st' D' c2 a' w' g1 g2 g3 g4 g5=>hq x fr' st' D' c2 a' w' g1 g2 (hs.trans g3) (ht.trans g4) g5
theorem iY {P:Program} {lo:Nat} {z:Code} {n:Nat} {t:List (Nat×SVal)} {heap:Hp} {next:Nat} {K:Ex->Fr->St->Prop} {l:List SVal} (b i:Nat) (hb:bB heap b=some (.cells l)) (hi:l[i]? =some .aD)
  (h:fg P lo z ⟨n,t⟩ ⟨iS heap b (.cells (l.set i (.aK false []))),next,0,[],[]⟩ K):fg P lo z ⟨n,t⟩ ⟨heap,next,0,[],[]⟩ K:=by
 obtain⟨x,fr',st',h1,h2⟩:=h.out
 exact⟨x,fr',st',fun Φ hΦ=>W.lstB (st:=⟨heap,next,0,[],[]⟩) hb hi (h1 Φ hΦ),h2⟩
theorem W.rowT {P:Program} {lo:Nat} {z:Code} {fr:Fr} {st:St} {Φ:Ex->Fr->St->Prop} {b m s:Nat} {rows:List (List SVal)} (hb:st.look b=some (.row m rows s false))
  (h:W P lo z fr (st.put b (.row m rows s true)) Φ):W P lo z fr st Φ:=by
 intro ro B D c w a he hr Q hq
 obtain⟨h7,h8⟩:=jh (o':= .row m rows s true) hb he.rep fun lc ho=>by
  cases lc with
  |box=>exact ho.elim
  |row ob st' sz u=>
   obtain⟨g1,g2,g3⟩:=ho
   refine⟨g1,g2,?_⟩
   cases ob with
   |none=>exact g3
   |some bb=>
    obtain⟨arr,e,cap,h⟩:=g3
    exact⟨arr,e,cap,h.val,h.cells,h.size,h.fits,h.elems,fun i v hv=>absurd (h.fz i v hv).1 (by decide)⟩
 have hsta:=dA (.row m rows s true) hb
 have hs:eA lo c st.look w c (st.put b (.row m rows s true)).look w:=h8.c he.low
 have ht:=hsta.c he.low
 exact h ⟨h7,he.wf.eX hsta,he.yb,he.fr,he.Gl,he.base,Wq he.low hsta.next,by rw[hsta.mark];exact he.mark⟩ hr fun x fr' st' D' c2 a' w' g1 g2 g3 g4 g5=>hq x fr' st' D' c2 a' w' g1 g2 (hs.trans g3) (ht.trans g4) g5
theorem KJ {P:Program} {lo:Nat} {z:Code} {n:Nat} {t:List (Nat×SVal)} {heap:Hp} {next:Nat} {K:Ex->Fr->St->Prop} {m s:Nat} {rows:List (List SVal)} (b:Nat) (hb:bB heap b=some (.row m rows s false))
  (h:fg P lo z ⟨n,t⟩ ⟨iS heap b (.row m rows s true),next,0,[],[]⟩ K):fg P lo z ⟨n,t⟩ ⟨heap,next,0,[],[]⟩ K:=by
 obtain⟨x,fr',st',h1,h2⟩:=h.out
 exact⟨x,fr',st',fun Φ hΦ=>W.rowT (st:=⟨heap,next,0,[],[]⟩) hb (h1 Φ hΦ),h2⟩
noncomputable def GD (c:Code):Option (List Tmp×Code×Code):=
 Code.rec (motive:=fun _=>Option (List Tmp×Code×Code)) none (fun _ _ _=>none) (fun _ _ a b=>Option.rec b some a) (fun _ _ _ a b=>Option.rec b some a) (fun _ _ a=>a) (fun _ a=>a) (fun _ ps x y _ _=>some (ps.toList,x,y)) (fun _=>none)
  (fun _ a=>a) (fun _=>none) (fun _=>none) none (fun _=>none) c
noncomputable def nC (fn:Func):List Tmp×Code×Code:=match fn with
 |{body:=some b,.. }=>(GD b).getD ([],.skip,.skip)
 |_=>([],.skip,.skip)
section
variable {σ:Nat->Nat} {m:Nat} (hσ:∀k,k<m->σ k=k)
include hσ
mutual
theorem nB:∀s:SVal,nb m s=true->du σ s=s
 | .bool _,_=>rfl
 | .int _ _,_=>rfl
 | .str _,_=>rfl
 | .nilPtr,_=>rfl
 | .aD,_=>rfl
 | .eJ,_=>rfl
 | .fY,_=>rfl
 | .nilIface,_=>rfl
 | .ptr k off,h=>by rw[du,hσ k (Wp h)]
 | .fv k s i off,h=>by rw[du,hσ k (Wp h)]
 | .own k s,h=>by rw[du,hσ k (Wp h)]
 | .map k,h=>by rw[du,hσ k (Wp h)]
 | .bR row off,h=>by rw[du,eZ row h]
 | .aK f rows,h=>by rw[du,uX rows h]
 | .func fn x y,h=>by
  rw[nb,Wa,Wa] at h
  rw[du,eZ x h.1.2,eZ y h.2]
  cases fn<;>first|rfl|(have:=h.1.1;rw[xR,hσ _ (Wp this)])
 | .iface t v,h=>by rw[du,nB v h]
 | .agg l,h=>by rw[du,eZ l h]
 | .dZ l,h=>by rw[du,eZ l h]
theorem eZ:∀l:List SVal,cX m l=true->cz σ l=l
 |[],_=>rfl
 |s::r,h=>by
  rw[cX,Wa] at h
  rw[cz,nB s h.1,eZ r h.2]
theorem uX:∀l:List (List SVal),js m l=true->lR σ l=l
 |[],_=>rfl
 |s::r,h=>by
  rw[js,Wa] at h
  rw[lR,eZ s h.1,uX r h.2]
end
theorem C1:∀l:List (SVal×SVal),Ts m l=true->u6 σ l=l
 |[],_=>rfl
 |p::r,h=>by
  rw[Ts,Wa,Wa] at h
  rw[u6,nB hσ p.1 h.1.1,nB hσ p.2 h.1.2,C1 r h.2]
theorem CY:∀l:List (Nat×SVal),lM m l=true->xQ σ l=l
 |[],_=>rfl
 |p::r,h=>by
  rw[lM,Wa] at h
  rw[xQ,nB hσ p.2 h.1,CY r h.2]
theorem C0:∀{o:bo},gN m o=true->fw σ o=o
 | .cells l,h=>W4 bo.cells (eZ hσ l h)
 | .still l,h=>W4 bo.still (eZ hσ l h)
 | .row m rows s y,h=>W4 (fun r=>bo.row m r s y) (uX hσ rows h)
 | .map es,h=>W4 bo.map (C1 hσ es h)
 | .lU g l,h=>W4 (bo.lU g) (eZ hσ l h)
 | .loop r,h=>by
  show bo.loop ⟨⟨r.fr.n,xQ σ r.fr.t⟩,_,_,_,_,_⟩=_
  rw[CY hσ _ h]
end
noncomputable def C6:Nat->List bo->St->St
 |i,o::os,st=>C6 (i+1) os (st.put i o)
 |_,[],st=>st
noncomputable def oZ:Nat->List bo->St->(St->Prop)->Prop
 |i,o::os,st,K=>hY st i o fun st'=>oZ (i+1) os st' K
 |_,[],st,K=>K st
theorem q9:∀{os:List bo} {i:Nat} {st:St} {K:St->Prop},oZ i os st K->K (C6 i os st)
 |[],i,st,K,h=>by unfold oZ at h;exact h
 |o::os,i,st,K,h=>by
  unfold oZ at h
  have g:oZ (i+1) os (st.put i o) K:=dB h
  show K (C6 (i+1) os (st.put i o))
  exact q9 g
theorem u9 {σ:Nat->Nat}:∀{os:List bo} {i:Nat} {st:St},(∀o∈os,fw σ o=o)->hU σ (List.range' i os.length) os st=C6 i os st
 |[],i,st,_=>rfl
 |o::os,i,st,h=>by
  show hU σ (List.range' (i+1) os.length) os (st.put i (fw σ o))=_
  rw[h o (V0 ..),u9 fun x hx=>h x (VX _ hx)]
  rfl
def vt (st:St):Nat->List bo->Prop
 |i,o::os=>st.look i=some o/\vt st (i+1) os
 |_,[]=>True
theorem yR {st:St}:∀{os:List bo} {i:Nat},vt st i os->∀(j:Nat) (o:bo),os[j]? =some o->st.look (i+j)=some o
 |[],_,_,j,o,h=>by simp at h
 |o::os,i,⟨h1,h2⟩,0,x,h=>by simp at h;subst h;exact h1
 |o::os,i,⟨h1,h2⟩,j+1,x,h=>by
  have:=yR h2 j x (by simpa using h)
  rw[show i+(j+1)=i+1+j by omega]
  exact this
theorem yO {P:Program} {f:FuncId} {objs objs':List bo} {args:List SVal} {s:SVal} (h:xi P f objs args s objs') {big:St} (hl:vt big 0 objs):hJ P f args big s (C6 0 objs' big):=by
 have hσ:∀k,k<objs.length->(List.range objs.length).getD k 0=k:=fun k hk=>by simp[List.getD,hk]
 have hc:=vn h (big:=big) (ks:=List.range objs.length) (σ:=fun i=>(List.range objs.length).getD i 0) (fun _=>rfl) (by simp) Yx fun i k o h1 h2=>by
  have hi:i<objs.length:=(VZ.1 h2).1
  rw[C0 hσ (h.po o (V6 h2)).2]
  have:=yR hl i o h2
  rw[WU] at this
  simp[hi] at h1
  rw[<-h1];exact this
 have e:=u9 (σ:=fun i=>(List.range objs.length).getD i 0) (os:=objs') (i:=0) (st:=big) fun o ho=>C0 hσ (h.po' o ho).2
 rw[eZ hσ _ h.na,nB hσ _ h.ns] at hc
 rw[<-List.range_eq_range',h.len] at e
 rw[<-e]
 exact hc
section
variable {P:Program} {E:Env}
structure VA (next k:Nat) (x:Ex) (st3:St) (K:SVal->St->Prop):Prop where
 out:∃(r3:jq) (heap2:Hp) (next2:Nat),st3.look k=some (.loop r3)/\kS next ⟨heap2,next2,0,[],[]⟩ (st3.put k (.loop ⟨r3.fr,r3.ps,r3.assign,r3.body,Bool.rec 2 0 (dT x),jm x⟩))/\mb next2 heap2 heap2/\K (.bool (dT x)) ⟨heap2,next2,0,[],[]⟩
def bodK (next k:Nat) (K:SVal->St->Prop) (x:Ex) (_:Fr) (st:St):Prop:=VA next k x st K
structure VS (P:Program) (E:Env) (next k:Nat) (r:jq) (K:SVal->St->Prop) (fr1:Fr) (st1:St):Prop where
 out:st1.look k=some (.loop r)/\xC P E next r.body fr1 (st1.put k (.loop ⟨r.fr,r.ps,r.assign,r.body,1,r.lS⟩)) (bodK next k K)
def asgK (P:Program) (E:Env) (next k:Nat) (r:jq) (K:SVal->St->Prop) (x:Ex) (fr:Fr) (st:St):Prop:=match x with
 | .normal=>VS P E next k r K fr st
 |_=>False
theorem tZ (hE:bz P E) {k:Nat} {ss:List SVal} {heap:Hp} {next:Nat} {K:SVal->St->Prop} {r:jq} {fr:Fr} (hk:bB heap k=some (.loop r)) (h0:r.state=0) (hp:vb r.ps ss r.fr=some fr) (hh:mb next heap heap) (ha:cX next ss=true)
  (h:xC P E next r.assign fr ⟨heap,next,0,[],[]⟩ (asgK P E next k r K)):PH P k ss ⟨heap,next,0,[],[]⟩ K:=by
 obtain⟨x,fr1,st1,h1,h2⟩:=jw P E next hE h
 cases x with
 |exit j=>exact h2.elim
 |ret=>exact h2.elim
 |normal=>
  obtain⟨h3,h4⟩:=VS.out h2
  obtain⟨y,fr2,st3,h5,h6⟩:=jw P E next hE h4
  obtain⟨r3,heap2,next2,g1,g2,g3,g4⟩:=VA.out h6
  have hsta:eS ⟨heap,next,0,[],[]⟩ ⟨heap2,next2,0,[],[]⟩:={
   cE:=rfl
   mark:=rfl
   next:=g2.low
   log:=fun _ h=>h
   same:=fun k _ h2=>absurd h2 (Nat.not_lt_zero k)
   wf:=fun _ k hk=>by
    have hk:next2<=k:=hk
    show bB heap2 k=none
    cases hx:bB heap2 k with
    |none=>rfl
    |some o=>have:=(fF g3 k o hx).2.2;omega
   LQ:=fun n hn=> .inl hn}
  refine⟨_,_,fun o d fop first cap ev ho hc hf hev=>J2 ho hc hf hev hk h0 hp hsta (fun k o hk=>(fF hh k o hk).2.1) ha ?_,g4⟩
  exact h1 _ ⟨rfl,h3,h5 _ ⟨r3,g1,rfl,g2⟩⟩
theorem G8 {k:Nat} {next:Nat} {K:SVal->St->Prop} {r:jq} {fr1:Fr} {heap1:Hp} {next1:Nat} (hk:bB heap1 k=some (.loop r))
  (h:xC P E next r.body fr1 ⟨iS heap1 k (.loop ⟨r.fr,r.ps,r.assign,r.body,1,r.lS⟩),next1,0,[],[]⟩ (bodK next k K)):VS P E next k r K fr1 ⟨heap1,next1,0,[],[]⟩:=⟨hk,h⟩
theorem tp {k next:Nat} {x:Ex} {K:SVal->St->Prop} {heap3:Hp} {next3:Nat} (r3:jq) (hk:bB heap3 k=some (.loop r3)) (hn:next<=next3)
  (hh:mb next3 (iS heap3 k (.loop ⟨r3.fr,r3.ps,r3.assign,r3.body,Bool.rec 2 0 (dT x),jm x⟩)) (iS heap3 k (.loop ⟨r3.fr,r3.ps,r3.assign,r3.body,Bool.rec 2 0 (dT x),jm x⟩)))
  (kk:K (.bool (dT x)) ⟨iS heap3 k (.loop ⟨r3.fr,r3.ps,r3.assign,r3.body,Bool.rec 2 0 (dT x),jm x⟩),next3,0,[],[]⟩):VA next k x ⟨heap3,next3,0,[],[]⟩ K:=
 ⟨r3,_,next3,hk,⟨V2 _,hn,rfl,rfl,rfl,(fun k hk=>by cases hk),fF hh,fun _ _=>rfl⟩,hh,kk⟩
def Ub (k:Nat) (fr:Fr) (K:Ex->Fr->St->Prop) (st:St):Prop:=
 ∃rc ex,st.look k=some (.loop rc)/\rc.state≠1/\N1 rc.lS=some ex/\K ex fr (st.drop k)
noncomputable def UW:List SVal->St->(List SVal->St->Prop)->Prop
 |[],st,K=>K [] st
 |s::r,st,K=>match s with
  | .ptr k off=>UW r st fun r' st'=>K (.ptr k off::r') st'
  | .func f x y=>UW r st fun r' st'=>K (.func f x y::r') st'
  |s=>xZ s st fun s' st'=>UW r st' fun r' st''=>K (s'::r') st''
theorem Bf:∀{l:List SVal} {st:St} {K:List SVal->St->Prop},UW l st K->∃l' st',iK st l l' st'/\K l' st'
 |[],st,K,h=>⟨[],st,.nil,by unfold UW at h;exact h⟩
 |s::r,st,K,h=>by
  unfold UW at h
  split at h
  ·obtain⟨l',st',h1,h2⟩:=Bf h
   exact⟨_,_,.same h1,h2⟩
  ·obtain⟨l',st',h1,h2⟩:=Bf h
   exact⟨_,_,.same h1,h2⟩
  ·obtain⟨s',st1,h1,h2⟩:=Ok h
   obtain⟨l',st',h3,h4⟩:=Bf h2
   exact⟨_,_,iK.app h1 h3,h4⟩
noncomputable def xMh (P:Program) (E:Env) (fn:Func) (heap:Hp) (m:Nat) (args:List SVal) (Ψ:SVal->List bo->Prop):Prop:=match fn with
 |{ntmps:=n,results:=rs,body:=some b,.. }=>yes (Nat.ble args.length n)<|cF (w6 0 args) fun t=>xC P E m b ⟨n,t⟩ ⟨heap,m,0,[],[]⟩ (GF E m rs.toList Ψ)
 |_=>False
theorem mJ (hE:bz P E) {f:FuncId} {fn:Func} (hf:E.funcs.get f=some fn) {objs:List bo} {args:List SVal} {Ψ:SVal->List bo->Prop} (heap:Hp) (m:Nat) (hh:tc 0 objs=heap) (hl:objs.length=m) (hp:k8 m objs) (hn:cX m args=true) (h:xMh P E fn heap m args Ψ):xj P f objs args Ψ:=by
 subst hh hl
 exact tK P E hE hf hp hn h
theorem jn {f:FuncId} {objs:List bo} {args' args:List SVal} {Ψ:SVal->List bo->Prop} {st:St} {K:SVal->St->Prop} (h:xj P f objs args' Ψ)
  (k:UW args st fun l st1=>l=args'/\vt st1 0 objs/\∀s objs',Ψ s objs'->oZ 0 objs' st1 (K s)):eU P f args st K:=by
 obtain⟨s,objs',h1,h2⟩:=h
 obtain⟨l',st1,f1,rfl,hl,kk⟩:=Bf k
 exact⟨_,_,fun _ _ _ _ _ _ _ ho hc' hf hev he=>q6 ho hc' hf hev (by rw[he];exact f1) (yO h1 hl),q9 (kk s objs' h2)⟩
theorem so {lo:Nat} {g:Operand} {ps:Array Tmp} {x y:Code} {n:Nat} {t t1:List (Nat×SVal)} {heap:Hp} {next:Nat} {K:Ex->Fr->St->Prop} {f:FuncId} {first cap:List SVal} {objs:List bo} {args':List SVal} {Ψ:SVal->List bo->Prop}
  (h:xj P f objs args' Ψ) (hf1:Mp next t t1) (hg:Fw ⟨n,t⟩ g=some (.func (.func f) first cap)) (n1:jB x=true) (n2:jB y=true) (ha:cH (first++([SVal.func (.yield next) [] []]++cap))=args')
  (hl:vt ⟨(next,.loop ⟨⟨n,t1⟩,ps.toList,x,y,0,none⟩)::heap,next+1,0,[],[]⟩ 0 objs)
  (k:∀s objs',Ψ s objs'->oZ 0 objs' ⟨(next,.loop ⟨⟨n,t1⟩,ps.toList,x,y,0,none⟩)::heap,next+1,0,[],[]⟩ (Ub next ⟨n,t⟩ K)):xf P lo (.rangeFunc g ps x y) ⟨n,t⟩ ⟨heap,next,0,[],[]⟩ K:=by
 obtain⟨s,objs',h1,h2⟩:=h
 have hc:=yO h1 hl
 obtain⟨rc,ex,e1,e2,e3,e4⟩:=q9 (k s objs' h2)
 refine⟨⟨ex,⟨n,t⟩,_,fun Φ hΦ=>W.range (st:=⟨heap,next,0,[],[]⟩) (fr:=⟨n,t⟩) (fr1:=⟨n,t1⟩) rfl (fun k s hs=>(tv hf1 k s hs).1) hg n1 n2 ⟨hc.body,hc.eX,fun hr hwf hfree vs hd=>hc.ok hr hwf hfree ?_⟩ e1 e2 e3 hΦ,e4⟩⟩
 rw[<-ha]
 exact gE _ _ hd
theorem sk {lo:Nat} {z:Code} {n:Nat} {t:List (Nat×SVal)} {heap:Hp} {next:Nat} {K:Ex->Fr->St->Prop} {l:List SVal} (k i m:Nat) (hk:bB heap k=some (.cells l)) (hi:l[i]? =some .aD)
  (h:xf P lo z ⟨n,t⟩ ⟨iS ((next,.row m [] 0 false)::heap) k (.cells (l.set i (.own next 0))),next+1,0,[],[]⟩ K):xf P lo z ⟨n,t⟩ ⟨heap,next,0,[],[]⟩ K:=by
 obtain⟨x,fr',st',h1,h2⟩:=h.out
 exact⟨x,fr',st',fun Φ hΦ=>W.Tt (st:=⟨heap,next,0,[],[]⟩) m hk hi (h1 Φ hΦ),h2⟩
end
end Sv
namespace Sv
open Go Go.RowKit
structure Bx (Q:Prop):Prop where
 out:Q
theorem z {P Q:Prop} (k:Q) (h:Bx Q->P:=by
  intro h
  (try conv=>whnf)
  (repeat ((first|refine And.intro (And.intro ii ii) ?_|refine And.intro rfl ?_|refine RF ?_|refine RE ?_|refine UG ?_|rw[Yu]|refine And.intro (lens1 rfl) ?_|refine And.intro (PQ.ok (kf:=SVal.int IntKind.i64) _) (And.intro (Gv (kf:=SVal.int IntKind.i64) _ _) ?_)|refine And.intro (PQ.ok (kf:=SVal.str) _) (And.intro (Gv (kf:=SVal.str) _ _) ?_)|refine And.intro (by first|omega|(simp only[V4,WA];omega)|(simp only[V4,Ws];omega)|(simp only[V4,WA,V5,Ws,V7];omega)|(intro r hr;obtain⟨x,_,rfl⟩:=WQ.1 hr;first|rfl|(rw[cA];rfl)|(rw[cP];rfl)|(rw[eo];rfl))) ?_);(try conv=>whnf)))
  exact h.out):P:=h ⟨k⟩
theorem zd {c p q p' q':Prop} [Decidable c] (k1:c->p') (k2:¬c->q') (h1:Bx p'->p:=by intro h;exact z h.out) (h2:Bx q'->q:=by intro h;exact z h.out): @Bool.rec (fun _=>Prop) q p (decide c):=aO (fun h=>h1 ⟨k1 h⟩) fun h=>h2 ⟨k2 h⟩
theorem zn {c p q p' q':Prop} [Decidable c] (k1:¬c->p') (k2:c->q') (h1:Bx p'->p:=by intro h;exact z h.out) (h2:Bx q'->q:=by intro h;exact z h.out): @Bool.rec (fun _=>Prop) q p (!decide c):=eB (fun h=>h1 ⟨k1 h⟩) fun h=>h2 ⟨k2 h⟩
theorem zr {b:Bool} {p q p' q':Prop} (k1:b=true->p') (k2:b=false->q') (h1:Bx p'->p:=by intro h;exact z h.out) (h2:Bx q'->q:=by intro h;exact z h.out): @Bool.rec (fun _=>Prop) q p b:=dm (fun h=>h1 ⟨k1 h⟩) fun h=>h2 ⟨k2 h⟩
theorem zm {b:Bool} {p q p' q':Prop} (k1:b=false->p') (k2:b=true->q') (h1:Bx p'->p:=by intro h;exact z h.out) (h2:Bx q'->q:=by intro h;exact z h.out): @Bool.rec (fun _=>Prop) q p (!b):=dx (fun h=>h1 ⟨k1 h⟩) fun h=>h2 ⟨k2 h⟩
section
variable {ι:Type} {P:Program} {E:Env} {lo:Nat}
theorem bk {F:ι->Fr} {S:ι->St} {m:ι->Nat} {i:ι} {fr:Fr} {st:St} (j:ι)
  (k:Fits lo fr st (F j) (S j):=by
   refine TA ?_ ?_ ?_ ?_ ?_<;>(repeat' first|exact trivial|exact rfl|exact cG _ _ _|exact c9 _ _ _|exact rm _ _|exact nI (fun _=>rfl) _|exact Ww rfl|refine And.intro ?_ ?_|(simp only[nb,cX,gN,lM,js,aE,a7,cG,c9,dN,V3,WD,Wz];done)|(simp only[nb,cX,gN,lM,js,aE,a7,cG,c9,dN,V3,WD,Wz,bq _ _ hc];done)|(simp[nb,cX,gN,lM,js,aE,a7,cG,c9,dN,V3,WD,Wz];done)|omega))
  (h:m j<m i:=by(dsimp only;omega)):qR P lo F S m i fr st:=SS j h k
theorem lg {α:Type} (hE:bz P E) {z:Code} {fr:Fr} {st:St} {K:Ex->Fr->St->Prop} (G:α->Prop×Fr×St×Nat) (i:{x//(G x).1}) (h:∀x (hx:(G x).1),xC P E lo z (G x).2.1 (G x).2.2.1 (NO P lo (fun i:{x//(G x).1}=>(G i.1).2.1) (fun i=>(G i.1).2.2.1) (fun i=>(G i.1).2.2.2) ⟨x,hx⟩ K))
  (h0:Fits lo fr st (G i.1).2.1 (G i.1).2.2.1:=by
   refine TA ?_ ?_ ?_ ?_ ?_<;>(repeat' first|exact trivial|exact rfl|exact cG _ _ _|exact c9 _ _ _|exact rm _ _|exact nI (fun _=>rfl) _|exact Ww rfl|refine And.intro ?_ ?_|(simp only[nb,cX,gN,lM,js,aE,a7,cG,c9,dN,V3,WD,Wz];done)|(simp only[nb,cX,gN,lM,js,aE,a7,cG,c9,dN,V3,WD,Wz,bq _ _ hc];done)|(simp[nb,cX,gN,lM,js,aE,a7,cG,c9,dN,V3,WD,Wz];done)|omega)):fg P lo z fr st K:=RD hE (fun i:{x//(G x).1}=>(G i.1).2.1) (fun i=>(G i.1).2.2.1) (fun i=>(G i.1).2.2.2) i h0 fun i=>h i.1 i.2
end
section
variable {next mark:Nat} {log:List Nat} {cE:List (Nat×Nat)} {ss l:List SVal} {heap heap0:Hp} {next1:Nat}
variable [lW]
theorem ed {K:List SVal->St->Prop} (k:K ss ⟨heap,next1,mark,log,cE⟩) (hn:next<=next1:=by omega)
  (hh:mb next1 heap heap:=by
   (repeat' first|exact trivial|exact rfl|exact cG _ _ _|exact c9 _ _ _|exact rm _ _|exact nI (fun _=>rfl) _|exact Ww rfl|refine And.intro ?_ ?_|(simp only[nb,cX,gN,lM,js,aE,a7,cG,c9,dN,V3,WD,Wz];done)|(simp only[nb,cX,gN,lM,js,aE,a7,cG,c9,dN,V3,WD,Wz,bq _ _ hc];done)|(simp[nb,cX,gN,lM,js,aE,a7,cG,c9,dN,V3,WD,Wz];done)|omega))
  (hs:CL heap0 heap log next:=by(repeat' first|exact trivial|exact Or.inl rfl|exact Or.inr (by decide)|refine And.intro ?_ ?_)) (hb:cE.all (fun p=>Nat.ble p.2 next1)=true:=by rfl) (hl:jM mark cE log=true:=by rfl) (hv:cX next1 ss=true:=by rfl):Tc heap0 next mark cE ss ⟨heap,next1,mark,log,cE⟩ K:=Ox hn hh hs hb hl hv k
theorem ei {K:List SVal->St->Prop} (k:K ss ⟨heap,next1,0,[],[]⟩) (hn:next<=next1:=by omega)
  (hh:mb next1 heap heap:=by
   (repeat' first|exact trivial|exact rfl|exact cG _ _ _|exact c9 _ _ _|exact rm _ _|exact nI (fun _=>rfl) _|exact Ww rfl|refine And.intro ?_ ?_|(simp only[nb,cX,gN,lM,js,aE,a7,cG,c9,dN,V3,WD,Wz];done)|(simp only[nb,cX,gN,lM,js,aE,a7,cG,c9,dN,V3,WD,Wz,bq _ _ hc];done)|(simp[nb,cX,gN,lM,js,aE,a7,cG,c9,dN,V3,WD,Wz];done)|omega))
  (hs:cX next1 ss=true:=by rfl):Ta next ss ⟨heap,next1,0,[],[]⟩ K:=R8 hn hh hs k
theorem mt {K:List SVal->List bo->Prop} (hs:bB heap 0=some ba:=by rfl) (hx:1<=next:=by first|omega|exact Ww rfl)
  (hc:aB l=true:=by first|rfl|simp only[bH,aB,closed,aL,dF,cq,cg,tP,ec,bN,cj,eM,cl,V3])
  (k:K l [ba]:=by first|exact⟨rfl,rfl,rfl⟩|exact⟨by simp only[bH,aB,closed,aL,dF,cq,cg,tP,ec,bN,cj,eM,cl,V3],rfl,rfl⟩):ka 1 l ⟨heap,next,0,[],[]⟩ K:=Dj hs hx hc k
theorem mst {K:List SVal->List bo->Prop} (hs:bB heap 0=some ba:=by rfl) (hx:1<=next:=by omega)
  (hc:aB l=true:=by first|rfl|simp only[bH,aB,closed,aL,dF,cq,cg,tP,ec,bN,cj,eM,cl,V3])
  (k:K l [ba]:=by first|exact⟨rfl,rfl,rfl⟩|exact⟨by simp only[bH,aB,closed,aL,dF,cq,cg,tP,ec,bN,cj,eM,cl,V3],rfl,rfl⟩):LJ 1 l ⟨heap,next,0,[],[]⟩ K:=cY (Dj hs hx hc k)
end
section
variable {P:Program} {E:Env} {f:FuncId} {fn:Func} {args:List SVal}
theorem hs {Ψ:SVal->Prop} (hE:bz P E) (fn:Func) (h:xF P E fn args Ψ) (hf:E.funcs.get f=some fn:=by rfl)
  (hc:aB args=true:=by first|rfl|(simp only[aB,closed,aL,bN,cj,eM,cl,dF,V3];done)|(simp only[aB,closed,aL,bN,cj,eM,cl,dF,hc,V3];done)|(simp only[aB,closed,aL,cN,bN,cj,eM,cl,dF,V3];done)|simp only[aB,closed,aL,cN,bN,cj,eM,cl,dF,hc,V3]):Has P f args Ψ:=US _ _ hE hf hc h
variable [lW]
theorem ht {Ψ:SVal->Prop} (hE:bz P E) (fn:Func) (h:xT P E fn args fun s o=>closed s=true/\o=[ba]/\Ψ s) (hf:E.funcs.get f=some fn:=by rfl)
  (hc:aB args=true:=by first|rfl|(simp only[aB,closed,aL,bN,cj,eM,cl,dF,V3];done)|(simp only[aB,closed,aL,bN,cj,eM,cl,dF,hc,V3];done)|(simp only[aB,closed,aL,cN,bN,cj,eM,cl,dF,V3];done)|simp only[aB,closed,aL,cN,bN,cj,eM,cl,dF,hc,V3]):bp P f args Ψ:=RR hE hf hc h
end
section
variable {P:Program} {E:Env} {f:FuncId} {args:List SVal} {heap:Hp} {next mark:Nat}
theorem ci {K:SVal->St->Prop} (hE:bz P E) (fn:Func) (h:xI P E fn args heap next K) (hf:E.funcs.get f=some fn:=by rfl)
  (hh:mb next heap heap:=by
   (repeat' first|exact trivial|exact rfl|exact cG _ _ _|exact c9 _ _ _|exact rm _ _|exact nI (fun _=>rfl) _|exact Ww rfl|refine And.intro ?_ ?_|(simp only[nb,cX,gN,lM,js,aE,a7,cG,c9,dN,V3,WD,Wz];done)|(simp only[nb,cX,gN,lM,js,aE,a7,cG,c9,dN,V3,WD,Wz,bq _ _ hc];done)|(simp[nb,cX,gN,lM,js,aE,a7,cG,c9,dN,V3,WD,Wz];done)|omega))
  (ha:cX next args=true:=by first|rfl|(simp only[nb,cX,gN,lM,js,aE,a7,cG,c9,dN,V3,WD,Wz];done)|simp[nb,cX,gN,lM,js,aE,a7,cG,c9,dN,bq _ _ hc]):eU P f args ⟨heap,next,0,[],[]⟩ K:=SM hE fn hf hh ha h
variable [lW]
theorem cd {cE:List (Nat×Nat)} {K:SVal->St->Prop} (hE:bz P E) (fn:Func) (h:xD P E fn args heap next mark cE K) (hf:E.funcs.get f=some fn:=by rfl)
  (hh:mb next heap heap:=by
   (repeat' first|exact trivial|exact rfl|exact cG _ _ _|exact c9 _ _ _|exact rm _ _|exact nI (fun _=>rfl) _|exact Ww rfl|refine And.intro ?_ ?_|(simp only[nb,cX,gN,lM,js,aE,a7,cG,c9,dN,V3,WD,Wz];done)|(simp only[nb,cX,gN,lM,js,aE,a7,cG,c9,dN,V3,WD,Wz,bq _ _ hc];done)|(simp[nb,cX,gN,lM,js,aE,a7,cG,c9,dN,V3,WD,Wz];done)|omega))
  (ha:cX next args=true:=by first|rfl|(simp only[nb,cX,gN,lM,js,aE,a7,cG,c9,dN,V3,WD,Wz];done)|simp[nb,cX,gN,lM,js,aE,a7,cG,c9,dN,bq _ _ hc]):eU P f args ⟨heap,next,mark,[],cE⟩ K:=Ph hE fn hf hh ha h
theorem ct {v:SVal} {args':List SVal} {st:St} {K:SVal->St->Prop} (h:bp P f args' fun s=>s=v) (k:K v st) (ha:cH args=args':=by rfl) (hl:st.look 0=some ba:=by rfl):eU P f args st K:=jb h ha hl k
theorem ce {v:SVal} {args':List SVal} {st:St} {K:SVal->St->Prop} (h:Has P f args' fun s=>s=v) (k:K v st) (ha:cH args=args':=by rfl):eU P f args st K:=kO h ha k
theorem fc {l:List SVal} {st:St} {K:List SVal->Prop} (h:aB l=true:=by first|rfl|simp only[bH,aB,closed,aL,dF,cq,cg,tP,ec,bN,cj,eM,cl,V3]) (k:K l:=by rfl):FzR l st K:=nX h k
theorem e2 {K:Prop} {l:List SVal} (h:aB l=true:=by simp only[bH,aB,closed,aL,dF,cq,cg,tP,ec,bN,cj,eM,cl,V3]) (k:K:=by rfl):aB l=true/\K:=⟨h,k⟩
theorem dg (hE:bz P E) {lo id:Nat} {ops:Array Oper} {fr:Fr} {st:St} {K:Fr->St->Prop} (before:List Nat) (sup:List ft) (h:BW P E before sup ops.toList ops.toList 0 fr st [] fun fr st acc=>gP before sup acc=true/\K fr st) (hb:(Region.before ops).toList=before:=by kernel_rfl) (hrel:Kd ops.toList fr.n=true:=by kernel_rfl):Jz P lo id ops fr st K:=Sa hE before sup hb hrel h
section
variable {l:List SVal} {heap:Hp} {next:Nat} {K:List SVal->List bo->Prop}
theorem mso {o':bo} (h0:bB heap 0=some ba:=by rfl) (h1:bB heap 1=some o':=by rfl) (hx:2<=next:=by omega) (hc:aB l=true:=by first|rfl|simp only[bH,aB,closed,aL,dF,cq,cg,tP,ec,bN,cj,eM,cl,V3]) (ho:bH o'=true:=by first|rfl|simp only[bH,aB,closed,aL,dF,cq,cg,tP,ec,bN,cj,eM,cl,V3])
  (k:K l [ba,o']:=by first|exact⟨rfl,_,rfl,rfl,rfl,rfl⟩|exact⟨by simp only[bH,aB,closed,aL,dF,cq,cg,tP,ec,bN,cj,eM,cl,V3],_,rfl,by simp only[bH,aB,closed,aL,dF,cq,cg,tP,ec,bN,cj,eM,cl,V3],rfl,rfl⟩):LJ 2 l ⟨heap,next,0,[],[]⟩ K:=cY (NG h0 h1 hx hc ho k)
theorem ml {t m:Nat} {rest:List SVal} {rows:List (List SVal)} (h0:bB heap 0=some ba:=by rfl) (h1:bB heap 1=some (.cells (.own 2 t::rest)):=by rfl) (h2:bB heap 2=some (.row m rows t false):=by rfl) (hx:3<=next:=by omega) (hc:aB l=true:=by first|rfl|simp only[bH,aB,closed,aL,dF,cq,cg,tP,ec,bN,cj,eM,cl,V3]) (hr:aB rest=true:=by first|rfl|simp only[bH,aB,closed,aL,dF,cq,cg,tP,ec,bN,cj,eM,cl,V3]) (ho:aL rows=true:=by first|rfl|simp only[bH,aB,closed,aL,dF,cq,cg,tP,ec,bN,cj,eM,cl,V3])
  (k:K l (ba::lT m rest rows t):=by exact⟨by simp only[bH,aB,closed,aL,dF,cq,cg,tP,ec,bN,cj,eM,cl,V3],_,_,rfl,by simp only[bH,aB,closed,aL,dF,cq,cg,tP,ec,bN,cj,eM,cl,V3],rfl,rfl⟩):ka 3 l ⟨heap,next,0,[],[]⟩ K:=Dk h0 h1 h2 hx hc hr ho k
theorem msl {t m:Nat} {rest:List SVal} {rows:List (List SVal)} (h0:bB heap 0=some ba:=by rfl) (h1:bB heap 1=some (.cells (.own 2 t::rest)):=by rfl) (h2:bB heap 2=some (.row m rows t false):=by rfl) (hx:3<=next:=by omega) (hc:aB l=true:=by first|rfl|simp only[bH,aB,closed,aL,dF,cq,cg,tP,ec,bN,cj,eM,cl,V3]) (hr:aB rest=true:=by first|rfl|simp only[bH,aB,closed,aL,dF,cq,cg,tP,ec,bN,cj,eM,cl,V3]) (ho:aL rows=true:=by first|rfl|simp only[bH,aB,closed,aL,dF,cq,cg,tP,ec,bN,cj,eM,cl,V3])
  (k:K l (ba::lT m rest rows t):=by exact⟨by simp only[bH,aB,closed,aL,dF,cq,cg,tP,ec,bN,cj,eM,cl,V3],_,_,rfl,by simp only[bH,aB,closed,aL,dF,cq,cg,tP,ec,bN,cj,eM,cl,V3],rfl,rfl⟩):LJ 3 l ⟨heap,next,0,[],[]⟩ K:=cY (Dk h0 h1 h2 hx hc hr ho k)
end
end
end Sv
