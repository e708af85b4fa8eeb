/- For ConcreteOnly and ConcreteBack: contracts of functions, and the rules once more. -/
import Derived.Test.YtaagahmkmcnhaaaGreatDoorSB
import Derived.KernelRfl
set_option linter.unusedVariables false
set_option linter.unusedSimpArgs false
set_option linter.unusedSectionVars false
namespace Sv
open Go Go.RowKit
theorem z7 {ks:List Nat} {n:Nat} (h:n∈ks):∃i,i<ks.length/\ks[i]? =some n:=by
 obtain⟨i,hi,e⟩:=List.getElem_of_mem h
 exact⟨i,hi,by rw[Tj hi,e]⟩
open Classical in
theorem uA {P:Program} {f:FuncId} {objs objs':List bm} {args:List SVal} {s:SVal} (h:wh P f objs args s objs') {big:St} {ks:List Nat} {σ:Nat->Nat} (hσ:∀i,σ i=ks.getD i 0) (hlen:ks.length=objs.length) (hnd:ks.Nodup)
  (hbig:∀(i k:Nat) (o:bm),ks[i]? =some k->objs[i]? =some o->big.look k=some (ft σ o)):gX P f (cx σ args) big (dp σ s) (gZ σ ks objs' big):=by
 have hsome:∀k∈ks,∃o,big.look k=some o:=fun k hk=>by
  obtain⟨i,hi,e⟩:=z7 hk
  exact⟨_,hbig i k _ e (Tj (hlen▸hi))⟩
 obtain⟨p1,p2,p3,p4⟩:=ni (σ:=σ) (ks:=ks) (os:=objs') (st:=big) (hlen.trans h.len.symm) hnd hsome
 have hget:∀i,i<objs.length->ks[i]? =some (σ i):=fun i hi=>by
  rw[hσ,TB,Tj (hlen▸hi)]
  rfl
 have hinj:∀i j,i<objs.length->j<objs.length->σ i=σ j->i=j:=fun i j hi hj e=>by
  have h1:=hget i hi
  have h2:=hget j hj
  rw[<-e] at h2
  exact(List.getElem?_inj (hlen▸hi) hnd).1 (h1.trans h2.symm)
 have hmem:∀n,n∈ks->∃i,i<objs.length/\σ i=n:=fun n hn=>by
  obtain⟨i,hi,e⟩:=z7 hn
  have:=hget i (hlen▸hi)
  rw[e] at this
  cases this
  exact⟨i,hlen▸hi,rfl⟩
 have hin:∀i,i<objs.length->σ i∈ks:=fun i hi=>Ts (hget i hi)
 refine⟨h.sem.body,p1,fun{c w} hr hwf hfree {vs} hd=> ?_⟩
 let m:=objs.length
 let c0:Ctx:=⟨fun i=>if i<m then c.ρ (σ i) else none,c.fz⟩
 have hρ0:∀k,k<m->c.ρ (σ k)=c0.ρ k:=fun k hk=>(Th hk).symm
 have hr0:dD c0 (gD objs).look w:=by
  refine⟨fun k o hk=> ?_,fun k j o o' l l' r hk hj hne hl hl' hb=> ?_,hr.fz⟩
  ·rw[ez] at hk
   have hlt:k<m:=(Tk.1 hk).1
   obtain⟨l,h1,h2⟩:=hr.dF _ _ (hbig k _ o (hget k hlt) hk)
   obtain⟨g1,g2⟩:=h.po o (Ts hk)
   exact⟨l,(hρ0 k hlt)▸h1,(eK.dp hρ0 rfl g1 g2 l w).1 h2⟩
  ·rw[ez] at hk hj
   have hlt:k<m:=(Tk.1 hk).1
   have hlt':j<m:=(Tk.1 hj).1
   rw[<-hρ0 k hlt] at hl
   rw[<-hρ0 j hlt'] at hl'
   exact hr.sep _ _ _ _ l l' r (hbig k _ o (hget k hlt) hk) (hbig j _ o' (hget j hlt') hj) (fun e=>hne (hinj k j hlt hlt' e)) hl hl' hb
 have hwf0:Wf (gD objs):=⟨fun k hk=>by
   show bx (sG 0 objs) k=none
   rw[jo,Th (TC _)]
   have hk:objs.length<=k:=hk
   exact T2 ii,fun k hk=>(by cases hk),TC _⟩
 have hn0:(gD objs').next=(gD objs).next:=h.len
 have hd0:aJ c0 args vs:=(aJ.dp hρ0 rfl args vs h.na).1 hd
 refine(h.sem.ok hr0 hwf0 (fun k h1 h2=>by rw[hn0] at h2;omega) hd0).mono fun e w' he=> ?_
 obtain⟨v,rfl,c1,gd⟩:=he
 refine⟨v,rfl,?_⟩
 let c':Ctx:=⟨fun n=>if hx:∃i,i<m/\σ i=n then c1.ρ hx.choose else c.ρ n,c1.fz⟩
 have hin':∀i,i<m->c'.ρ (σ i)=c1.ρ i:=fun i hi=>by
  have hx:∃j,j<m/\σ j=σ i:=⟨i,hi,rfl⟩
  show(if hx:∃j,j<m/\σ j=σ i then c1.ρ hx.choose else c.ρ (σ i))=_
  rw[VH hx]
  rw[hinj _ _ hx.choose_spec.1 hi hx.choose_spec.2]
 have hout:∀n,n∉ks->c'.ρ n=c.ρ n:=fun n hn=>by
  have hx:¬∃j,j<m/\σ j=n:=fun⟨j,h1,h2⟩=>hn (h2▸hin j h1)
  show(if hx:∃j,j<m/\σ j=n then c1.ρ hx.choose else c.ρ n)=_
  rw[dif_neg hx]
 have hown0:∀r,fN c0 (gD objs).look r->fN c big.look r:=fun r ⟨k,o,l,h1,h2,h3⟩=>by
  rw[ez] at h1
  have hlt:k<m:=(Tk.1 h1).1
  exact⟨σ k,_,l,hbig k _ o (hget k hlt) h1,(hρ0 k hlt).trans h2,h3⟩
 have hle:Le c c':=by
  refine⟨fun n l hl=> ?_,gd.step.le.fz⟩
  by_cases hn:n∈ks
  ·obtain⟨i,hi,rfl⟩:=hmem n hn
   rw[hρ0 i hi] at hl
   obtain⟨l',h1,h2⟩:=gd.step.le.ρ i l hl
   exact⟨l',(hin' i hi).trans h1,h2⟩
  ·exact⟨l,(hout n hn).trans hl,dz.refl l⟩
 have hfar:∀n o l b,n∉ks->big.look n=some o->c.ρ n=some l->iR l=some b->¬fN c0 (gD objs).look b:=fun n o l b hn ho hl hb ⟨k,o',l',h1,h2,h3⟩=>by
  rw[ez] at h1
  have hlt:k<m:=(Tk.1 h1).1
  exact hr.sep n (σ k) o _ l l' b ho (hbig k _ o' (hget k hlt) h1) (fun e=>hn (e▸hin k hlt)) hl ((hρ0 k hlt).trans h2) hb h3
 have hown1:∀r,fN c' (gZ σ ks objs' big).look r->fN c big.look r\/w.heap.size<=r:=fun r ⟨n,o,l,h1,h2,h3⟩=>by
  by_cases hn:n∈ks
  ·obtain⟨i,hi,rfl⟩:=hmem n hn
   rw[hin' i hi] at h2
   exact(gd.step.owns r ⟨i,_,l,by rw[ez];exact Tj (h.len▸hi),h2,h3⟩).imp (hown0 r) id
  ·rw[p3 n hn] at h1
   exact .inl ⟨n,o,l,h1,(hout n hn)▸h2,h3⟩
 refine⟨c',(Den.dp hin' rfl s v h.ns).2 gd.val,⟨fun n o ho=> ?_,fun n j o o' l l' r hn hj hne hl hl' hb=> ?_,gd.rep.fz⟩,hle,fun n hn e=> ?_,fun n l hn hl=> ?_,gd.step.os,gd.step.tape,gd.step.output,gd.step.size,fun r hlt hno=>gd.step.kept r hlt fun ho=>hno (hown0 r ho),hown1,fun b i v hv=> ?_⟩
 ·by_cases hn:n∈ks
  ·obtain⟨i,hi,rfl⟩:=hmem n hn
   have hi':i<objs'.length:=h.len▸hi
   have h1:=p4 i (σ i) _ (hget i hi) (Tj hi')
   rw[h1] at ho
   cases ho
   obtain⟨l,h2,h3⟩:=gd.rep.dF i _ (by rw[ez];exact Tj hi')
   obtain⟨g1,g2⟩:=h.po' _ (TT hi')
   exact⟨l,(hin' i hi).trans h2,(eK.dp hin' rfl g1 g2 l w').2 h3⟩
  ·rw[p3 n hn] at ho
   obtain⟨l,h1,h2⟩:=hr.dF n o ho
   refine⟨l,(hout n hn).trans h1,h2.sF hle (fun b hb=>gd.step.kept b (h2.lt hb) (hfar n o l b hn ho h1 hb)) fun b hb i v hv=> ?_⟩
   rcases gd.step.wR b i v hv with h3|h3|h3
   ·exact h3
   ·exact(hfar n o l b hn ho h1 hb h3).elim
   ·have:=h2.lt hb;omega
 ·have key:∀n j o o' l l' r,(gZ σ ks objs' big).look n=some o->(gZ σ ks objs' big).look j=some o'->n∈ks->j∉ks->c'.ρ n=some l->c'.ρ j=some l'->iR l=some r->iR l'≠some r:=fun n j o o' l l' r hn hj h1 h2 hl hl' hb hb'=>by
   obtain⟨i,hi,rfl⟩:=hmem n h1
   rw[hin' i hi] at hl
   rw[hout j h2] at hl'
   rw[p3 j h2] at hj
   obtain⟨l2,h5,h6⟩:=hr.dF j o' hj
   rw[hl'] at h5
   cases h5
   rcases gd.step.owns r ⟨i,_,l,by rw[ez];exact Tj (h.len▸hi),hl,hb⟩ with h3|h3
   ·exact hfar j o' l' r h2 hj hl' hb' h3
   ·have:=h6.lt hb';omega
  by_cases h1:n∈ks<;>by_cases h2:j∈ks
  ·obtain⟨i,hi,rfl⟩:=hmem n h1
   obtain⟨i',hi',rfl⟩:=hmem j h2
   rw[hin' i hi] at hl
   rw[hin' i' hi'] at hl'
   exact gd.rep.sep i i' _ _ l l' r (by rw[ez];exact Tj (h.len▸hi)) (by rw[ez];exact Tj (h.len▸hi')) (fun e=>hne (by rw[e])) hl hl' hb
  ·exact key n j o o' l l' r hn hj h1 h2 hl hl' hb
  ·exact fun hb'=>key j n o' o l' l r hj hn h2 h1 hl' hl hb' hb
  ·rw[p3 n h1] at hn
   rw[p3 j h2] at hj
   exact hr.sep n j o o' l l' r hn hj hne ((hout n h1)▸hl) ((hout j h2)▸hl') hb
 ·by_cases h1:n∈ks
  ·obtain⟨o,ho⟩:=hsome n h1
   obtain⟨l,hl,_⟩:=hr.dF n o ho
   rw[hl] at e
   cases e
  ·exact(hout n h1).trans e
 ·have h1:n∉ks:=fun h1=>by
   obtain⟨o,ho⟩:=hsome n h1
   rw[hn] at ho
   cases ho
  exact⟨(p3 n h1).trans hn,(hout n h1).trans hl⟩
 ·rcases gd.step.wR b i v hv with h3|h3|h3
  ·exact .inl h3
  ·exact .inr (.inl (hown0 b h3))
  ·exact .inr (.inr h3)
structure km (m:Nat) (l:List SVal) (st:St) (K:List SVal->List bm->Prop):Prop where
 out:∃objs',kO m (gD objs') st/\objs'.length=m/\(∀o∈objs',plainO o=true/\gK m o=true)/\cY m l=true/\K l objs'
structure Jq (m:Nat) (l:List SVal) (st:St) (K:List SVal->List bm->Prop):Prop where
 out:∃l' st',iN st l l' st'/\km m l' st' K
theorem cZ {m:Nat} {l:List SVal} {st:St} {K:List SVal->List bm->Prop} (h:km m l st K):Jq m l st K:=⟨l,st,qj l,h⟩
theorem aV {m:Nat} {l:List SVal} {st:St} {K:List SVal->List bm->Prop} (h:EF l st fun l' st'=>km m l' st' K):Jq m l st K:=⟨jq h⟩
def kX (m:Nat):List bm->Prop
 |[]=>True
 |o::r=>plainO o=true/\gK m o=true/\kX m r
theorem kx {m:Nat}:∀{l:List bm},kX m l->∀o∈l,plainO o=true/\gK m o=true
 |[],_,o,h=>by cases h
 |a::r,⟨h1,h2,h3⟩,o,h=>by
  rcases Tv.1 h with rfl|h
  ·exact⟨h1,h2⟩
  ·exact kx h3 o h
def D2 (t:Hp):Nat->List bm->Prop
 |_,[]=>True
 |i,o::r=>bx t i=some o/\D2 t (i+1) r
theorem qP {t:Hp}:∀{l:List bm} {i:Nat},D2 t i l->∀k,i<=k->k<i+l.length->bx t k=l[k-i]?
 |[],i,_,k,h1,h2=>by simp at h2;omega
 |o::r,i,⟨h1,h2⟩,k,h3,h4=>by
  by_cases e:k=i
  ·subst e;simpa using h1
  ·have:=qP h2 k ii (by simp at h4;omega)
   rw[this]
   have:k-i=(k-(i+1))+1:=by omega
   rw[this];simp
theorem dC {m:Nat} {l:List SVal} {heap:Hp} {next:Nat} {K:List SVal->List bm->Prop} (objs':List bm) (hl:objs'.length=m) (hs:D2 heap 0 objs') (hp:kX m objs') (hn:cY m l=true) (hx:m<=next) (k:K l objs'):km m l ⟨heap,next,0,[],[]⟩ K:=by
 refine⟨objs',⟨by rw[<-hl] at hx;exact hx,VJ hl.symm,rfl,rfl,rfl,fun k hk=>(by cases hk),fun k o hk=> ?_,fun k hk=> ?_⟩,hl,kx hp,hn,k⟩
 ·have hk:bx (sG 0 objs') k=some o:=hk
  rw[jo,Th (TC _),Vi] at hk
  have hlt:k<objs'.length:=(Tk.1 hk).1
  refine⟨(qP hs k (TC _) ii).trans (by simpa using hk),?_,hlt⟩
  show gK objs'.length o=true
  rw[hl]
  exact(kx hp o (Ts hk)).2
 ·show bx (sG 0 objs') k=bx heap k
  rw[jo,Th (TC _),qP hs k (TC _) ii]
section
variable (P:Program) (E:Env)
noncomputable def EJ (m:Nat) (rs:List ResultVar) (Ψ:SVal->List bm->Prop) (x:Ex) (fr:Fr) (st:St):Prop:=match x with
 | .exit _=>False
 |_=>Eh E fr st rs fun ss=>Jq m ss st fun ss' objs'=>match ss' with
  |[v]=>Ψ v objs'
  |vs=>Ψ (.dT vs) objs'
noncomputable def xM (fn:Func) (objs:List bm) (args:List SVal) (Ψ:SVal->List bm->Prop):Prop:=match fn with
 |{ntmps:=n,results:=rs,body:=some b,.. }=>yes (Nat.ble args.length n)<|cC (vV 0 args) fun t=>xC P E objs.length b ⟨n,t⟩ ⟨sG 0 objs,objs.length,0,[],[]⟩ (EJ E objs.length rs.toList Ψ)
 |_=>False
def wi (f:FuncId) (objs:List bm) (args:List SVal) (Ψ:SVal->List bm->Prop):Prop:=∃s objs',wh P f objs args s objs'/\Ψ s objs'
theorem pX {m:Nat} {ss:List SVal} (h:cY m ss=true):nb m (oN ss)=true:=by
 match ss,h with
 |[],_=>rfl
 |[v],h=>exact(Tw .. ▸h:_/\_).1
 |a::b::r,h=>exact h
theorem Pa {m:Nat} {rs:List ResultVar} {Ψ:SVal->List bm->Prop} {x:Ex} {fr:Fr} {st:St} (h:EJ E m rs Ψ x fr st):sk x=true/\∃ss,pj E fr st rs ss/\∃ss' st2,iN st ss ss' st2/\km m ss' st2 fun l o=>Ψ (oN l) o:=by
 unfold EJ at h
 split at h
 ·exact h.elim
 ·rename_i hx
  obtain⟨ss,h1,g⟩:=mZ E h
  obtain⟨ss',st2,h2,⟨objs',g1,g2,g3,g4,g5⟩⟩:=g.out
  refine⟨?_,ss,h1,ss',st2,h2,⟨objs',g1,g2,g3,g4,?_⟩⟩
  ·cases x with
   |exit j=>exact(hx j rfl).elim
   |normal=>rfl
   |ret=>rfl
  ·split at g5
   ·exact g5
   ·rename_i hv
    match ss',hv,g5 with
    |[],_,g=>exact g
    |[v],hv,_=>exact(hv v rfl).elim
    |a::b::r,_,g=>exact g
theorem HT {objs objs':List bm} (h:objs'.length=objs.length):eJ (gD objs) (gD objs') where
 cB:=rfl
 mark:=rfl
 next:=VJ h.symm
 log:=fun _ h=>h
 same:=fun k _ h2=>absurd h2 (Nat.not_lt_zero k)
 wf:=fun _ k hk=>by
  have hk:objs'.length<=k:=hk
  show bx (sG 0 objs') k=none
  rw[jo,Th (TC _)]
  exact T2 ii
 AO:=fun n hn=> .inl hn
theorem s7 (hE:bt P E) {f:FuncId} {fn:Func} (hf:E.funcs.get f=some fn) {objs:List bm} {args:List SVal} {Ψ:SVal->List bm->Prop} (hp:kX objs.length objs) (hn:cY objs.length args=true) (h:xM P E fn objs args Ψ):wi P f objs args Ψ:=by
 unfold xM at h
 split at h
 ·obtain⟨h1,g⟩:=bY h
  obtain⟨t,h2,g⟩:=aD g
  cases qC h2
  obtain⟨x,fr',st',h3,h4⟩:=jG P E objs.length hE g
  obtain⟨h5,ss,h6,ss',st2,h7,⟨objs',k1,k2,k3,k4,k5⟩⟩:=Pa E h4
  have hnext:(gD objs').next=objs.length:=k2
  refine⟨oN ss',objs',⟨At hE hf rfl (HT k2) (fun k o hk=> ?_) hn ?_,k2,kx hp,k3,hn,pX k4⟩,k5⟩
  ·have hk:bx (sG 0 objs) k=some o:=hk
   rw[jo,Th (TC _),Vi] at hk
   exact(kx hp o (Ts hk)).2
  ·unfold entry
   rw[show args.length+(_-args.length)=_ from Vn (TS h1)]
   exact h3 _ ⟨h5,ss,h6,ss',st2,h7,rfl,k1,by rw[hnext];exact pX k4⟩
 ·exact h.elim
def looks (σ:Nat->Nat) (big:St):List Nat->List bm->Prop
 |k::ks,o::os=>big.look k=some (ft σ o)/\looks σ big ks os
 |[],[]=>True
 |_,_=>False
end
def Kr (h h1:Hp):Nat->Prop
 |0=>True
 |k+1=>bx h1 k=bx h k/\Kr h h1 k
theorem BA {h h1:Hp}:∀{n:Nat},Kr h h1 n->∀k,k<n->bx h1 k=bx h k
 |0,_,k,hk=>by omega
 |n+1,⟨g1,g2⟩,k,hk=>by
  by_cases e:k=n
  ·subst e;exact g1
  ·exact BA g2 k ii
theorem QF {lo n next next1:Nat} {t t1:List (Nat×SVal)} {h h1:Hp} (hf:J3 next1 t t1) (hh:l9 next1 h h1) (hs:Kr h h1 lo) (hn:next1<=next) (hlo:lo<=next1):Fits lo ⟨n,t⟩ ⟨h,next,0,[],[]⟩ ⟨n,t1⟩ ⟨h1,next1,0,[],[]⟩ where
 fr:=⟨rfl,sP hf⟩
 st:={
  next:=hn
  low:=hlo
  cB:=rfl
  mark:=rfl
  log:=rfl
  SU:=fun k hk=>by cases hk
  heap:=fx hh
  same:=fun k hk=>BA hs k hk}
section
variable {P:Program} {E:Env}
theorem bA (hE:bt P E) {lo:Nat} {z:Code} {fr:Fr} {st:St} {K:Ex->Fr->St->Prop} (h:xC P E lo z fr st (Bd (fun fr st=>eX P lo z fr st K) K)):eX P lo z fr st K:=⟨R.loop (jG P E lo hE h)⟩
structure Qj (next:Nat) (ss:List SVal) (st:St) (K:List SVal->St->Prop):Prop where
 out:∃heap2 next2,kO next ⟨heap2,next2,0,[],[]⟩ st/\l9 next2 heap2 heap2/\cY next2 ss=true/\K ss ⟨heap2,next2,0,[],[]⟩
theorem Ph {next:Nat} {ss:List SVal} {heap:Hp} {next1:Nat} {K:List SVal->St->Prop} (hn:next<=next1) (hh:l9 next1 heap heap) (hs:cY next1 ss=true) (k:K ss ⟨heap,next1,0,[],[]⟩):Qj next ss ⟨heap,next1,0,[],[]⟩ K:=
 ⟨heap,next1,⟨Tp _,hn,rfl,rfl,rfl,(fun k hk=>by cases hk),fx hh,fun _ _=>rfl⟩,hh,hs,k⟩
noncomputable def Sa (E:Env) (next:Nat) (rs:List ResultVar) (K:SVal->St->Prop) (x:Ex) (fr:Fr) (st:St):Prop:=match x with
 | .exit _=>False
 |_=>Eh E fr st rs fun ss=>Qj next ss st fun ss st=>match ss with
  |[v]=>K v st
  |vs=>K (.dT vs) st
theorem Pc {next:Nat} {rs:List ResultVar} {K:SVal->St->Prop} {x:Ex} {fr:Fr} {st:St} (h:Sa E next rs K x fr st):sk x=true/\∃ss,pj E fr st rs ss/\Qj next ss st fun ss st=>K (oN ss) st:=by
 unfold Sa at h
 split at h
 ·exact h.elim
 ·rename_i hx
  obtain⟨ss,h1,⟨a,b,g1,g2,g3,g4⟩⟩:=mZ E h
  refine⟨?_,ss,h1,⟨a,b,g1,g2,g3,?_⟩⟩
  ·cases x with
   |exit j=>exact(hx j rfl).elim
   |normal=>rfl
   |ret=>rfl
  ·split at g4
   ·exact g4
   ·rename_i hv
    match ss,hv,g4 with
    |[],_,g=>exact g
    |[v],hv,_=>exact(hv v rfl).elim
    |a::b::r,_,g=>exact g
noncomputable def xI (P:Program) (E:Env) (fn:Func) (args:List SVal) (heap:Hp) (next:Nat) (K:SVal->St->Prop):Prop:=match fn with
 |{ntmps:=n,results:=rs,body:=some b,.. }=>yes (Nat.ble args.length n)<|cC (vV 0 args) fun t=>xC P E next b ⟨n,t⟩ ⟨heap,next,0,[],[]⟩ (Sa E next rs.toList K)
 |_=>False
theorem PT (hE:bt P E) {f:FuncId} (fn:Func) (hf:E.funcs.get f=some fn) {args:List SVal} {heap:Hp} {next:Nat} {K:SVal->St->Prop} (hh:l9 next heap heap) (ha:cY next args=true) (h:xI P E fn args heap next K):eL P f args ⟨heap,next,0,[],[]⟩ K:=by
 unfold xI at h
 split at h
 ·obtain⟨h1,g⟩:=bY h
  obtain⟨t,h2,g⟩:=aD g
  cases qC h2
  obtain⟨x,fr',st',h3,h4⟩:=jG P E next hE g
  obtain⟨h5,ss,h6,⟨heap2,next2,k1,k2,k3,k4⟩⟩:=Pc h4
  have hsta:eJ ⟨heap,next,0,[],[]⟩ ⟨heap2,next2,0,[],[]⟩:={
   cB:=rfl
   mark:=rfl
   next:=k1.low
   log:=fun _ h=>h
   same:=fun k _ h2=>absurd h2 (Nat.not_lt_zero k)
   wf:=fun _ k hk=>by
    have hk:next2<=k:=hk
    show bx heap2 k=none
    cases hx:bx heap2 k with
    |none=>rfl
    |some o=>have:=(fx k2 k o hx).2.2;omega
   AO:=fun n hn=> .inl hn}
  refine⟨_,_,fun _ _ _ _ _ _ _ ho hc hf' hev he=>kt ho hc hf' hev ?_,k4⟩
  rw[he]
  refine At hE hf rfl hsta (fun k o hk=>(fx hh k o hk).2.1) ha ?_
  unfold entry
  rw[show args.length+(_-args.length)=_ from Vn (TS h1)]
  exact h3 _ ⟨h5,ss,h6,ss,st',qj ss,rfl,k1,pX k3⟩
 ·exact h.elim
end
def IsB (s:SVal):Prop:=∃r,s= .bool r
theorem uz {st:St} {c:Ctx} {w:World} (hr:dD c st.look w) (hf:c.ρ st.next=none) (hwf:Wf st) (m:Nat):
  ∃c',dD c' (st.fresh (.row m [] 0 false)).look w/\Step st.next (st.fresh (.row m [] 0 false)).next c st.look w c' (st.fresh (.row m [] 0 false)).look w/\(∀k,k≠st.next->c'.ρ k=c.ρ k)/\∀v,Den c .ax v->Den c' (.own st.next 0) v:=by
 obtain⟨g1,g2⟩:=gN (o:= .row m [] 0 false) (l:= .row none 0 m (.slice none 0 0)) hr hf hwf (df.refl w) (fun b hb=>by cases hb) ⟨rfl,rfl,rfl,none,rfl⟩
 refine⟨_,g1,g2,fun k hk=> ?_,fun v hv=> ?_⟩
 ·show(if k=st.next then _ else c.ρ k)=_
  rw[Ti hk]
 ·cases hv
  exact gU (cI _ _ _) ⟨_,_,_,rfl⟩
theorem W.name {P:Program} {lo:Nat} {z:Code} {fr fr1:Fr} {st:St} {Φ:Ex->Fr->St->Prop} (m:Nat) (hn:fr1.n=fr.n) (hf:∀t x,fr1.get t=some x->fr.get t=some x\/(fr.get t=some .ax/\x= .own st.next 0))
  (h:W P lo z fr1 (st.fresh (.row m [] 0 false)) Φ):W P lo z fr st Φ:=by
 intro ro B D c w a he hr Q hq
 obtain⟨c',h2,h3,h5,h4⟩:=uz he.rep (he.wW _ (Tp _)) he.wf m
 have hs:eh lo c st.look w c' (st.fresh (.row m [] 0 false)).look w:=h3.c he.low
 have hsta:=dw st (.row m [] 0 false)
 have ht:=hsta.c he.low
 refine h ⟨h2,he.wf.eP hsta,fun n hn=> ?_,⟨by rw[hn];exact he.fr.size,fun t x hx=> ?_,he.fr.defers⟩,he.Ep,he.base,TR he.low hsta.next,by rw[hsta.mark];exact he.mark⟩ hr fun x fr' st' D' c2 a' w' g1 g2 g3 g4 g5=>hq x fr' st' D' c2 a' w' g1 g2 (hs.trans g3) (ht.trans g4) (g5.trans hn)
 ·have hn:st.next+1<=n:=hn
  rw[h5 n ii]
  exact he.wW n ii
 ·rcases hf t x hx with e|⟨e,rfl⟩
  ·obtain⟨v,e1,e2⟩:=he.fr.get t x e
   exact⟨v,e1,Den.le h3.le _ _ e2⟩
  ·obtain⟨v,e1,e2⟩:=he.fr.get t _ e
   exact⟨v,e1,h4 v e2⟩
theorem R.name {P:Program} {lo:Nat} {z:Code} {fr fr1:Fr} {st:St} {K:Ex->Fr->St->Prop} (m:Nat) (hn:fr1.n=fr.n) (hf:∀t x,fr1.get t=some x->fr.get t=some x\/(fr.get t=some .ax/\x= .own st.next 0))
  (h:R P lo z fr1 (st.fresh (.row m [] 0 false)) K):R P lo z fr st K:=by
 obtain⟨x,fr',st',h1,h2⟩:=h
 exact⟨x,fr',st',fun Φ hΦ=>W.name m hn hf (h1 Φ hΦ),h2⟩
theorem cy {P:Program} {lo:Nat} {z:Code} {n:Nat} {t:List (Nat×SVal)} {heap:Hp} {next mark:Nat} {log:List Nat} {cB:List (Nat×Nat)} {K:Ex->Fr->St->Prop} (d m:Nat) (hd:bx t d=some .ax)
  (h:eX P lo z ⟨n,(d,.own next 0)::t⟩ ⟨(next,.row m [] 0 false)::heap,next+1,mark,log,cB⟩ K):eX P lo z ⟨n,t⟩ ⟨heap,next,mark,log,cB⟩ K:=by
 refine⟨R.name (fr1:=⟨n,(d,.own next 0)::t⟩) m rfl (fun k x hx=> ?_) h.out⟩
 have h1:(if d=k then some (SVal.own next 0) else bx t k)=some x:=(bZ (d,SVal.own next 0) t k).symm.trans hx
 by_cases e:d=k
 ·rw[Th e] at h1
  exact .inr ⟨e▸hd,(TD h1).symm⟩
 ·rw[Ti e] at h1
  exact .inl h1
def yf (c:Prop) [Decidable c]:Option Unit:=if c then some () else none
section
variable {α β:Type}
abbrev aN (l:List α):Option Unit:=yf (l.length<=1000000000)
def cN (l:List α) (i:Int):Option α:=if 0<=i then l[i.toNat]? else none
def kS (l:List α) (i:Int) (x:α):Option (List α):=if 0<=i/\i<l.length then some (l.set i.toNat x) else none
def nV (l:List α) (i:Int) (f:α->α):Option (List α):=(cN l i).bind fun x=>some (l.set i.toNat (f x))
def SV (m:Nat) (l:List α) (i:Int):Option α:=if 0<=i/\i<m then l[i.toNat]? else none
def sD (m:Nat) (l:List α) (i:Int) (x:α):Option (List α):=if 0<=i/\i<m/\i<l.length then some (l.set i.toNat x) else none
def push (l:List α) (x:α):Option (List α):=if l.length<1000000000 then some (l++[x]) else none
def pS (l r:List α):Option (List α):=if l.length+r.length<=1000000000 then some (l++r) else none
theorem aa {x:Option α} {k:α->Option β} {r:β} (h:x.bind k=some r):∃v,x=some v/\k v=some r:=Option.bind_eq_some_iff.1 h
theorem aB {x:Option α} {r:α} (h:x=some r):x.bind some=some r:=by subst h;rfl
theorem ah {c:Prop} [Decidable c] {k:Unit->Option β} {r:β} (h:(yf c).bind k=some r):c/\k ()=some r:=by
 unfold yf at h
 by_cases hc:c
 ·rw[Th hc] at h;exact⟨hc,h⟩
 ·rw[Ti hc] at h;cases h
theorem toNat_eq {i:Int} (h:0<=i):i=((i.toNat:Nat):Int):=by omega
theorem av {l:List α} {i:Int} {k:α->Option β} {r:β} (h:(cN l i).bind k=some r):∃(j:Nat) (x:α),i=(j:Int)/\l[j]? =some x/\k x=some r:=by
 obtain⟨x,h1,h2⟩:=aa h
 unfold cN at h1
 split at h1
 ·rename_i h0
  exact⟨i.toNat,x,toNat_eq h0,h1,h2⟩
 ·cases h1
theorem cV {l:List α} {i:Int} {y:α} {k:List α->Option β} {r:β} (h:(kS l i y).bind k=some r):∃(j:Nat) (x:α),i=(j:Int)/\l[j]? =some x/\k (l.set j y)=some r:=by
 obtain⟨x,h1,h2⟩:=aa h
 unfold kS at h1
 split at h1
 ·rename_i h0
  cases h1
  exact⟨i.toNat,l[i.toNat]'ii,toNat_eq h0.1,Tj ii,h2⟩
 ·cases h1
theorem bV {l:List α} {i:Int} {f:α->α} {k:List α->Option β} {r:β} (h:(nV l i f).bind k=some r):∃(j:Nat) (x:α),i=(j:Int)/\l[j]? =some x/\k (l.set j (f x))=some r:=by
 unfold nV at h
 rw[Tl] at h
 obtain⟨j,x,h1,h2,h3⟩:=av h
 refine⟨j,x,h1,h2,?_⟩
 rw[HP,show i.toNat=j by omega] at h3
 exact h3
theorem gS {m:Nat} {l:List α} {i:Int} {k:α->Option β} {r:β} (h:(SV m l i).bind k=some r):∃(j:Nat) (x:α),i=(j:Int)/\j<m/\l[j]? =some x/\k x=some r:=by
 obtain⟨x,h1,h2⟩:=aa h
 unfold SV at h1
 split at h1
 ·rename_i h0
  exact⟨i.toNat,x,toNat_eq h0.1,by omega,h1,h2⟩
 ·cases h1
theorem dX {m:Nat} {l:List α} {i:Int} {y:α} {k:List α->Option β} {r:β} (h:(sD m l i y).bind k=some r):∃(j:Nat) (x:α),i=(j:Int)/\j<m/\l[j]? =some x/\k (l.set j y)=some r:=by
 obtain⟨x,h1,h2⟩:=aa h
 unfold sD at h1
 split at h1
 ·rename_i h0
  cases h1
  exact⟨i.toNat,l[i.toNat]'ii,toNat_eq h0.1,by omega,Tj ii,h2⟩
 ·cases h1
theorem ay {l:List α} {x:α} {k:List α->Option β} {r:β} (h:(push l x).bind k=some r):l.length<1000000000/\k (l++[x])=some r:=by
 unfold push at h
 split at h
 ·rename_i h0;exact⟨h0,h⟩
 ·cases h
theorem fS {l x:List α} {k:List α->Option β} {r:β} (h:(pS l x).bind k=some r):l.length+x.length<=1000000000/\k (l++x)=some r:=by
 unfold pS at h
 split at h
 ·rename_i h0;exact⟨h0,h⟩
 ·cases h
end
theorem nt {b:Bool} (h:b=false):¬b=true:=by rw[h];exact Bool.noConfusion
inductive Ctl (R S:Type) where
 |ret (r:R)
 |Nj (s:S)
section
variable {α:Type} {f:α->List SVal} {l:List α}
theorem bq {j:Nat} {x:α} {sz:Nat} {K:List SVal->Prop} (h:l[j]? =some x) (hl:(f x).length=sz) (k:K (f x)):AtR (l.map f) (j:Int) sz K:=⟨j,f x,rfl,by rw[TO,h];rfl,hl,k⟩
theorem bF {n:Int} {j:Nat} {x:α} {sz:Nat} {K:List SVal->Prop} (en:n=(j:Int)) (h:l[j]? =some x) (hl:(f x).length=sz) (k:K (f x)):AtR (l.map f) n sz K:=by
 subst en;exact bq h hl k
theorem nA {j:Nat} {x:α} (h:l[j]? =some x):j<l.length:=(Tk.1 h).1
theorem cA {n:Int} {m j:Nat} {K:Nat->Prop} (en:n=(j:Int)) (h:j<m) (k:K j):M7 n m K:=⟨j,en,h,k⟩
theorem aK {n:Int} {j:Nat} {x:α} {K:Nat->Prop} (en:n=(j:Int)) (h:l[j]? =some x) (k:K j):M7 n (l.map f).length K:=⟨j,en,by rw[Tr];exact nA h,k⟩
theorem bP {j:Nat} {x:α} {K:List SVal->Prop} (h:l[j]? =some x) (k:K (f x)):S4 (l.map f) j K:=⟨f x,by rw[TO,h];rfl,k⟩
theorem drop_cons {i:Nat} (h:((i:Nat):Int)<(((l.map f).length:Nat):Int)):∃x,l[i]? =some x/\l.drop i=x::l.drop (i+1):=by
 rw[Tr] at h
 have hi:i<l.length:=by omega
 exact⟨l[i],Tj hi,TN hi⟩
theorem an {i:Nat} (h:((i:Nat):Int)<((l.length:Nat):Int)):∃x,l[i]? =some x/\l.drop i=x::l.drop (i+1):=by
 have hi:i<l.length:=by omega
 exact⟨l[i],Tj hi,TN hi⟩
theorem aq {i:Nat} (h:¬((i:Nat):Int)<((l.length:Nat):Int)):l.drop i=[]:=TV ii
end
theorem c9 {n i:Nat} (h:(i:Int)<(n:Int)):n-i=(n-(i+1))+1:=by omega
theorem c8 {n i:Nat} (h:¬(i:Int)<(n:Int)):n-i=0:=by omega
section
variable {α:Type} {g:α->SVal} {l:List α}
theorem CK {j:Nat} {x:α} (h:l[j]? =some x):(l.map g).drop j=g x::(l.map g).drop (j+1):=by
 have hj:j<(l.map g).length:=by rw[Tr];exact nA h
 rw[TN hj]
 congr 1
 rw[List.getElem_map]
 congr 1
 exact TD ((Tj (nA h)).symm.trans h)
theorem Lk:∀l:List SVal,Cd l []=some l
 |[]=>rfl
 |_::_=>rfl
theorem xG:∀{l:List α} {j:Nat} {y:α},j<l.length->ky (l.map g) j [g y]=some ((l.set j y).map g)
 |[],j,y,h=>by simp at h
 |a::l,0,y,_=>by
  show Cd (g a::l.map g) [g y]=_
  unfold Cd
  rw[Lk]
  rfl
 |a::l,j+1,y,h=>by
  have:=xG (l:=l) (j:=j) (y:=y) (by simpa using h)
  show ky (g a::l.map g) (j+1) [g y]=_
  unfold ky
  rw[this]
  rfl
theorem eT {E:Env} {t:TypeId} {off j:Nat} {x:α} (h:l[j]? =some x) (ho:off=j) (ha:MV E t=some false):uI E t ((l.map g).drop off)=some (g x):=by
 subst ho
 rw[CK h]
 unfold uI
 rw[ha]
theorem dJ {off j:Nat} {x y:α} (h:l[j]? =some x) (ho:off=j):ky (l.map g) off [g y]=some ((l.set j y).map g):=by
 subst ho;exact xG (nA h)
end
section
variable {P:Program}
theorem cm {f:FuncId} {args args':List SVal} {v:SVal} {st:St} {K:SVal->St->Prop} (h:Has P f args' fun s=>s=v) (hs:sS v=true) (k:EF args st fun l _=>l=args'/\K v st):eL P f args st K:=by
 obtain⟨s,h1,rfl⟩:=h
 obtain⟨l',st',g1,rfl,g2⟩:=jq k
 exact⟨s,st,fun _ _ _ _ _ _ _ ho hc hf hev he=>wF ho hc hf hev (he▸g1) hs h1,g2⟩
theorem fJ {f:FuncId} {args args':List SVal} {v:SVal} {st:St} {K:SVal->St->Prop} (h:Has P f args' fun s=>s=v) (k:EF args st fun l st'=>l=args'/\K v st'):eL P f args st K:=by
 obtain⟨s,h1,rfl⟩:=h
 exact MD P h1 k
theorem kK {f:FuncId} {args args':List SVal} {v:SVal} {st:St} {K:SVal->St->Prop} (h:Has P f args' fun s=>s=v) (ha:cG args=args') (k:K v st):eL P f args st K:=by
 obtain⟨s,h1,rfl⟩:=h
 exact Ja P h1 ha k
end
theorem jV {α:Type} (f:α->List SVal) {n:Nat} (n':Nat) {row:List SVal} {K:List (List SVal)->Prop} (x:α) (hn:n=n') (h:f x=row) (k:K ((List.replicate n' x).map f)):wm (List.replicate n row) K:=by
 subst hn;exact Fh f x h k
theorem ji {st:St} {k:Nat} {o o':bm} (hk:st.look k=some o) {c:Ctx} {w:World} (hr:dD c st.look w) (ho:∀l,eK c o l w->eK c o' l w):dD c (st.put k o').look w/\Step st.next (st.put k o').next c st.look w c (st.put k o').look w:=by
 obtain⟨l,h1,h2⟩:=hr.dF _ _ hk
 exact eE hr hk h1 h1 (dz.refl l) (fun _ _=>rfl) (fun _ _ _ h=>h) (fun b i v h=> .inl h) (fun r h=> .inl h) ⟨rfl,rfl,rfl,Tp _,fun _ _ _=>rfl⟩ (fun b i v _ hv=>hr.fz b i v hv) (ho l h2)
theorem mH {c:Ctx} {s s':SVal} (hs:∀v,Den c s v->Den c s' v):∀{l:List SVal} {i:Nat} {vs:List Value},l[i]? =some s->aJ c l vs->aJ c (l.set i s') vs
 |[],i,vs,h,_=>by simp at h
 |a::l,0,vs,h,⟨v,r,h1,h2,h3⟩=>by
  simp at h
  subst h
  exact⟨v,r,hs v h1,h2,h3⟩
 |a::l,i+1,vs,h,⟨v,r,h1,h2,h3⟩=>⟨v,r,h1,mH hs (by simpa using h) h2,h3⟩
theorem W.Qy {P:Program} {lo:Nat} {z:Code} {fr:Fr} {st:St} {Φ:Ex->Fr->St->Prop} {k i:Nat} {l:List SVal} (m:Nat) (hk:st.look k=some (.cells l)) (hi:l[i]? =some .ax)
  (h:W P lo z fr ((st.fresh (.row m [] 0 false)).put k (.cells (l.set i (.own st.next 0)))) Φ):W P lo z fr st Φ:=by
 intro ro B D c w a he hr Q hq
 obtain⟨c',h2,h3,h5,h4⟩:=uz he.rep (he.wW _ (Tp _)) he.wf m
 have hne:k≠st.next:=fun e=>by
  have:=he.wf.none k ii
  rw[(cR hk).1] at this
  cases this
 have hk':(st.fresh (.row m [] 0 false)).look k=some (.cells l):=by
  rw[look_eq]
  have h6:=cR hk
  show(if b8 k st.cB=true then none else bx ((st.next,bm.row m [] 0 false)::st.heap) k)=_
  rw[h6.2,bZ,Ti (UZ hne),h6.1]
  rfl
 obtain⟨h7,h8⟩:=ji (o':= .cells (l.set i (.own st.next 0))) hk' h2 fun lc ho=>by
  cases lc with
  |row=>exact ho.elim
  |box b=>
   obtain⟨arr,e,g1,g2,g3⟩:=ho
   exact⟨arr,e,g1,mH h4 hi g2,g3⟩
 have hsta:=(dw st (.row m [] 0 false)).trans (dt (.cells (l.set i (.own st.next 0))) hk')
 have hs:eh lo c st.look w c' ((st.fresh (.row m [] 0 false)).put k (.cells (l.set i (.own st.next 0)))).look w:=(h3.trans h8 (U1 _) (Tp _)).c he.low
 have ht:=hsta.c he.low
 refine h ⟨h7,he.wf.eP hsta,fun n hn=> ?_,⟨he.fr.size,fun t x hx=> ?_,he.fr.defers⟩,he.Ep,he.base,TR he.low hsta.next,by rw[hsta.mark];exact he.mark⟩ hr fun x fr' st' D' c2 a' w' g1 g2 g3 g4 g5=>hq x fr' st' D' c2 a' w' g1 g2 (hs.trans g3) (ht.trans g4) g5
 ·have hn:st.next+1<=n:=hn
  rw[h5 n ii]
  exact he.wW n ii
 ·obtain⟨v,e1,e2⟩:=he.fr.get t x hx
  exact⟨v,e1,Den.le h3.le _ _ e2⟩
theorem aY {P:Program} {lo:Nat} {z:Code} {fr:Fr} {st:St} {n:Nat} {t:List (Nat×SVal)} {heap:Hp} {next:Nat} {K:Ex->Fr->St->Prop} (hf:fr=⟨n,t⟩) (hs:st=⟨heap,next,0,[],[]⟩) (h:eX P lo z ⟨n,t⟩ ⟨heap,next,0,[],[]⟩ K):eX P lo z fr st K:=by
 subst hf hs;exact h
theorem bJ {P:Program} {lo:Nat} {z:Code} {n:Nat} {t:List (Nat×SVal)} {heap:Hp} {next:Nat} {K:Ex->Fr->St->Prop} {l:List SVal} (k i m:Nat) (hk:bx heap k=some (.cells l)) (hi:l[i]? =some .ax)
  (h:eX P lo z ⟨n,t⟩ ⟨iW ((next,.row m [] 0 false)::heap) k (.cells (l.set i (.own next 0))),next+1,0,[],[]⟩ K):eX P lo z ⟨n,t⟩ ⟨heap,next,0,[],[]⟩ K:=by
 obtain⟨x,fr',st',h1,h2⟩:=h.out
 exact⟨x,fr',st',fun Φ hΦ=>W.Qy (st:=⟨heap,next,0,[],[]⟩) m hk hi (h1 Φ hΦ),h2⟩
theorem Gj {α:Type} {g:α->SVal} {m:Nat} (h:∀x,nb m (g x)=true):∀l:List α,cY m (l.map g)=true
 |[]=>rfl
 |a::l=>by
  show(nb m (g a)&&cY m (l.map g))=true
  rw[h a,Gj h l];rfl
theorem q8 (m:Nat) (l:List Bool):cY m (l.map SVal.bool)=true:=Gj (fun _=>rfl) l
theorem KL {c c':Ctx} (e:c'.ρ=c.ρ) {k s:Nat} {v:Value} (h:Den c' (.own k s) v):Den c (.own k s) v:=by
 obtain⟨h0,b,st,sz,u,h1,h2⟩:=h
 exact⟨h0,b,st,sz,u,by rw[<-e];exact h1,h2⟩
theorem W.O8 {P:Program} {lo:Nat} {z:Code} {fr:Fr} {st:St} {Φ:Ex->Fr->St->Prop} {b i k s m:Nat} {l:List SVal} {rows:List (List SVal)} {y:Bool} (hb:st.look b=some (.cells l)) (hi:l[i]? =some (.own k s)) (hk:st.look k=some (.row m rows s y))
  (h:W P lo z fr ((st.put k (.row m rows s true)).put b (.cells (l.set i (.aE false rows)))) Φ):W P lo z fr st Φ:=by
 intro ro B D c w a he hr Q hq
 obtain⟨c',e1,h2,h3,h4⟩:=oX hk he.rep
 have hne:b≠k:=fun e=>by subst e;rw[hb] at hk;cases hk
 have hb':(st.put k (.row m rows s true)).look b=some (.cells l):=by
  rw[nj hk,Ti hne];exact hb
 obtain⟨h7,h8⟩:=ji (o':= .cells (l.set i (.aE false rows))) hb' h2 fun lc ho=>by
  cases lc with
  |row=>exact ho.elim
  |box bb=>
   obtain⟨arr,e,g1,g2,g3⟩:=ho
   exact⟨arr,e,g1,mH (fun v hv=>h4 v (KL e1 hv)) hi g2,g3⟩
 have hsta:=(dt (.row m rows s true) hk).trans (dt (.cells (l.set i (.aE false rows))) hb')
 have hs:eh lo c st.look w c' ((st.put k (.row m rows s true)).put b (.cells (l.set i (.aE false rows)))).look w:=(h3.trans h8 (Tp _) (Tp _)).c he.low
 have ht:=hsta.c he.low
 refine h ⟨h7,he.wf.eP hsta,fun n hn=>by rw[e1];exact he.wW n hn,⟨he.fr.size,fun t x hx=> ?_,he.fr.defers⟩,he.Ep,he.base,TR he.low hsta.next,by rw[hsta.mark];exact he.mark⟩ hr fun x fr' st' D' c2 a' w' g1 g2 g3 g4 g5=>hq x fr' st' D' c2 a' w' g1 g2 (hs.trans g3) (ht.trans g4) g5
 obtain⟨v,f1,f2⟩:=he.fr.get t x hx
 exact⟨v,f1,Den.le h3.le _ _ f2⟩
section
variable {P:Program} {lo:Nat} {n:Nat} {t:List (Nat×SVal)} {heap:Hp} {next:Nat} {l:List SVal} {k s m:Nat} {rows:List (List SVal)} {y:Bool}
theorem R.O8 {z:Code} {K:Ex->Fr->St->Prop} (b i:Nat) (hb:bx heap b=some (.cells l)) (hi:l[i]? =some (.own k s)) (hk:bx heap k=some (.row m rows s y))
  (h:R P lo z ⟨n,t⟩ ⟨iW (iW heap k (.row m rows s true)) b (.cells (l.set i (.aE false rows))),next,0,[],[]⟩ K):R P lo z ⟨n,t⟩ ⟨heap,next,0,[],[]⟩ K:=by
 obtain⟨x,fr',st',h1,h2⟩:=h
 exact⟨x,fr',st',fun Φ hΦ=>W.O8 (st:=⟨heap,next,0,[],[]⟩) hb hi hk (h1 Φ hΦ),h2⟩
theorem ID {z:Code} {K:Ex->Fr->St->Prop} (b i:Nat) (hb:bx heap b=some (.cells l)) (hi:l[i]? =some (.own k s)) (hk:bx heap k=some (.row m rows s y))
  (h:eX P lo z ⟨n,t⟩ ⟨iW (iW heap k (.row m rows s true)) b (.cells (l.set i (.aE false rows))),next,0,[],[]⟩ K):eX P lo z ⟨n,t⟩ ⟨heap,next,0,[],[]⟩ K:=⟨R.O8 b i hb hi hk h.out⟩
theorem yQ {ι:Type} {F:ι->Fr} {S:ι->St} {ms:ι->Nat} {j:ι} (b i:Nat) (hb:bx heap b=some (.cells l)) (hi:l[i]? =some (.own k s)) (hk:bx heap k=some (.row m rows s y))
  (h:qH P lo F S ms j ⟨n,t⟩ ⟨iW (iW heap k (.row m rows s true)) b (.cells (l.set i (.aE false rows))),next,0,[],[]⟩):qH P lo F S ms j ⟨n,t⟩ ⟨heap,next,0,[],[]⟩:=MK (fun _ _=>R.O8 b i hb hi hk) h
theorem vT {ι:Type} {F:ι->Fr} {S:ι->St} {ms:ι->Nat} {j:ι} {fr:Fr} {st:St} (hf:fr=⟨n,t⟩) (hs:st=⟨heap,next,0,[],[]⟩) (h:qH P lo F S ms j ⟨n,t⟩ ⟨heap,next,0,[],[]⟩):qH P lo F S ms j fr st:=by
 subst hf hs;exact h
end
class M6 {κ:Type} (kf:κ->SVal) where
 d:TypeDesc
 ok:∀x,fL d (kf x)
 inj:∀x y,kf x=kf y->x=y
 low:∀m x,nb m (kf x)=true
instance :M6 SVal.str:=⟨.string,fun _=>trivial,fun _ _ h=>by injection h,fun _ _=>rfl⟩
instance :M6 (SVal.int .i64):=⟨.int .i64,fun _=>rfl,fun _ _ h=>by injection h,fun _ _=>rfl⟩
section
variable {α κ:Type}
abbrev jD (kf:κ->SVal) (g:α->SVal) (m:List (κ×α)):List (SVal×SVal):=m.map fun p=>(kf p.1,g p.2)
def cH [DecidableEq κ] (x:κ):List (κ×α)->Option α
 |[]=>none
 |p::r=>if p.1=x then some p.2 else cH x r
variable {kf:κ->SVal} [hk:M6 kf] [DecidableEq κ] {g:α->SVal}
theorem EA (g:α->SVal) (m:List (κ×α)):∀p∈jD kf g m,fL hk.d p.1:=fun p hp=>by
 obtain⟨q,_,rfl⟩:=T4.1 hp
 exact hk.ok _
theorem o5 {x:κ}:∀{m:List (κ×α)},cH x m=none->iu (jD kf g m) (kf x) none
 |[],_=> .nil
 |p::r,h=>by
  unfold cH at h
  split at h
  ·cases h
  ·rename_i hne
   exact iu.there (p:=(kf p.1,g p.2)) (x:=none) (fun e=>hne (hk.inj _ _ e)) (o5 h)
theorem oZ {x:κ} {v:α}:∀{m:List (κ×α)},cH x m=some v->∃i,iu (jD kf g m) (kf x) (some (i,g v))
 |p::r,h=>by
  unfold cH at h
  split at h
  ·rename_i e
   cases h
   rw[<-e]
   exact⟨0,.here⟩
  ·rename_i hne
   obtain⟨i,hi⟩:=oZ h
   exact⟨i+1,iu.there (p:=(kf p.1,g p.2)) (x:=some (i,g v)) (fun e=>hne (hk.inj _ _ e)) hi⟩
theorem nL {m:List (κ×α)} {x:κ} {Q:Option (Nat×SVal)->Prop} (h1:cH x m=none->Q none) (h2:∀v i,cH x m=some v->Q (some (i,g v))):∃r,iu (jD kf g m) (kf x) r/\Q r:=by
 cases h:cH x m with
 |none=>exact⟨none,o5 h,h1 h⟩
 |some v=>obtain⟨i,hi⟩:=oZ (kf:=kf) (g:=g) h;exact⟨_,hi,h2 v i h⟩
theorem eU {m:List (κ×α)} {x:κ} {v:α} {Q:Option (Nat×SVal)->Prop} (h:cH x m=some v) (k:∀i,Q (some (i,g v))):∃r,iu (jD kf g m) (kf x) r/\Q r:=by
 obtain⟨i,hi⟩:=oZ (kf:=kf) (g:=g) h
 exact⟨_,hi,k i⟩
theorem DW {m:List (κ×α)} {x:κ} {v:α} {st:St} {k:Nat} {K:St->Prop} (hf:cH x m=none) (h:hJ st k (.map (jD kf g (m++[(x,v)]))) K):
  fL hk.d (kf x)/\(∀p∈jD kf g m,fL hk.d p.1)/\iu (jD kf g m) (kf x) none/\hJ st k (.map (jD kf g m++[(kf x,g v)])) K:=by
 refine⟨hk.ok x,EA g m,o5 hf,?_⟩
 rw[jD,Un] at h
 exact h
theorem nr {k:Nat} (h:∀x,nb k (g x)=true) (m:List (κ×α)):gK k (.map (jD kf g m))=true:=by
 show Qx k _=true
 induction m with
 |nil=>rfl
 |cons p r ih=>
  show(nb k (kf p.1)&&nb k (g p.2)&&Qx k (jD kf g r))=true
  rw[hk.low,h,ih];rfl
end
def bM (n:Int):List SVal:=[.int .i64 n]
def GN (n:Int):List SVal:=[.int .u8 n]
def dd (b:Bool):List SVal:=[.bool b]
def lj (s:List UInt8):List SVal:=[.str s]
def gh (l:List Int):List SVal:=[.aE false (l.map bM)]
instance :Cl bM:=⟨fun _=>rfl⟩
instance :Cl GN:=⟨fun _=>rfl⟩
instance :Cl dd:=⟨fun _=>rfl⟩
instance :Cl lj:=⟨fun _=>rfl⟩
instance :Cl gh:=⟨fun l=>by simp only[gh,aw,closed,eC bM,Tq]⟩
def Ge:List Int:=[1,10,100,1000,10000,100000,1000000,10000000,100000000,1000000000,10000000000,100000000000,1000000000000,10000000000000,100000000000000,1000000000000000,10000000000000000,100000000000000000,1000000000000000000,10000000000000000000]
class lV where
 g:Nat
def aX [lV]:bm:= .lR lV.g (Ge.map (SVal.int .u64))
variable [lV]
mutual
theorem dS (σ:Nat->Nat):∀s:SVal,closed s=true->dp σ s=s
 | .bool _,_=>rfl
 | .int _ _,_=>rfl
 | .str _,_=>rfl
 | .nilPtr,_=>rfl
 | .ax,_=>rfl
 | .eA,_=>rfl
 | .fT,_=>rfl
 | .nilIface,_=>rfl
 | .ptr _ _,h=>by cases h
 | .fq _ _ _ _,h=>by cases h
 | .own _ _,h=>by cases h
 | .map _,h=>by cases h
 | .bN row off,h=>by rw[dp,bS σ row h]
 | .aE f rows,h=>by rw[dp,mg σ rows h]
 | .func fn x y,h=>by
  rw[closed,Tw,Tw] at h
  rw[dp,bS σ x h.1.2,bS σ y h.2]
  cases fn<;>first|rfl|(have:=h.1.1;simp[dx] at this)
 | .iface t v,h=>by rw[dp,dS σ v h]
 | .agg l,h=>by rw[dp,bS σ l h]
 | .dT l,h=>by rw[dp,bS σ l h]
theorem bS (σ:Nat->Nat):∀l:List SVal,aw l=true->cx σ l=l
 |[],_=>rfl
 |s::r,h=>by
  rw[aw,Tw] at h
  rw[cx,dS σ s h.1,bS σ r h.2]
theorem mg (σ:Nat->Nat):∀l:List (List SVal),aG l=true->lL σ l=l
 |[],_=>rfl
 |s::r,h=>by
  rw[aG,Tw] at h
  rw[lL,bS σ s h.1,mg σ r h.2]
end
theorem sO (σ:Nat->Nat):ft σ aX=aX:=by
 show bm.lR _ (cx σ _)=_
 rw[bS σ _ (by decide)]
 rfl
theorem jX:plainO aX=true/\gK 1 aX=true:=⟨rfl,rfl⟩
theorem putsT {st:St} (hl:st.look 0=some aX) (σ:Nat->Nat):(gZ σ [0] [aX] st).look=st.look/\(gZ σ [0] [aX] st).next=st.next:=by
 refine⟨funext fun n=> ?_,rfl⟩
 show(st.put 0 (ft σ aX)).look n=_
 rw[sO,nj hl]
 split
 ·rename_i e;rw[e,hl]
 ·rfl
theorem ME {P:Program} {f:FuncId} {args:List SVal} {s:SVal} (h:wh P f [aX] args s [aX]) (ha:aw args=true) (hs:closed s=true) {st:St} (hl:st.look 0=some aX):gX P f args st s st:=by
 have hc:=uA h (big:=st) (ks:=[0]) (σ:=fun i=>[0].getD i 0) (fun _=>rfl) rfl (by simp) (fun i k o h1 h2=>by
  cases i with
  |zero=>simp at h1 h2;subst h1 h2;rw[sO];exact hl
  |succ i=>simp at h1)
 rw[bS _ _ ha,dS _ _ hs] at hc
 obtain⟨e1,e2⟩:=putsT hl (fun i=>[0].getD i 0)
 refine⟨hc.body,eJ.refl st,fun{c w} hr hwf hfr vs hd=>(hc.ok hr hwf (fun k h1 h2=>by rw[e2] at h2;omega) hd).mono fun e w' he=> ?_⟩
 obtain⟨v,h1,c',gd⟩:=he
 exact⟨v,h1,c',gd.val,by rw[<-e1];exact gd.rep,by have:=gd.step;rw[e1,e2] at this;exact this⟩
section
variable {P:Program} {E:Env}
def bj (P:Program) (f:FuncId) (args:List SVal) (Ψ:SVal->Prop):Prop:=aw args=true/\wi P f [aX] args fun s o=>closed s=true/\o=[aX]/\Ψ s
noncomputable def xT (P:Program) (E:Env) (fn:Func) (args:List SVal) (Ψ:SVal->List bm->Prop):Prop:=match fn with
 |{ntmps:=n,results:=rs,body:=some b,.. }=>yes (Nat.ble args.length n)<|cC (vV 0 args) fun t=>xC P E 1 b ⟨n,t⟩ ⟨[(0,aX)],1,0,[],[]⟩ (EJ E 1 rs.toList Ψ)
 |_=>False
theorem O2 (hE:bt P E) {f:FuncId} {fn:Func} (hf:E.funcs.get f=some fn) {args:List SVal} {Ψ:SVal->Prop} (hc:aw args=true) (h:xT P E fn args fun s o=>closed s=true/\o=[aX]/\Ψ s):bj P f args Ψ:=
 ⟨hc,s7 P E hE hf ⟨jX.1,jX.2,trivial⟩ (bo _ _ hc) h⟩
theorem H3 {o:Oper} {ev:jA} {st st1:St} {d:Go.Call} {fop:Operand} {f:FuncId} {first cap ss args:List SVal} {s:SVal} (ho:o.op= .call d) (hc:d.callee= .value fop) (hf:ev fop=some (.func (.func f) first cap)) (hev:lZ ev d.args.toList=some ss) (ha:iN st (first++(ss++cap)) args st1) (h:gX P f args st1 s st1):bD P o ev st s st1:=
 ⟨by simp[ho],ha.eP.1,fun{c w} hr hwf hfr {e} he a next Q hn=>by
  obtain⟨vs,h1,h2⟩:=jb (P:=P) ho hc hf hev he
  obtain⟨fn,body,g1,g2,g3⟩:=h.body
  rw[h2]
  obtain⟨c1,e1,r1,s1,d1⟩:=ha.ok hr h1
  refine eW g1 g2 g3 (h.ok r1 (hwf.eP ha.eP.1) (fun k g1 g2=>by omega) d1) o a next Q fun v w' ⟨c2,gd⟩=> ?_
  exact hn c2 v w' ⟨gd.val,gd.rep,s1.trans gd.step ha.eP.1.next (Tp _)⟩⟩
theorem jd {f:FuncId} {args args':List SVal} {v:SVal} {st:St} {K:SVal->St->Prop} (h:bj P f args' fun s=>s=v) (ha:cG args=args') (hl:st.look 0=some aX) (k:K v st):eL P f args st K:=by
 obtain⟨hcl,s,o,h1,h2,rfl,rfl⟩:=h
 have hc:=ME h1 hcl h2 hl
 refine⟨_,_,fun _ _ _ _ _ _ _ ho hc' hf hev he=>kt ho hc' hf hev ?_,k⟩
 rw[he]
 refine⟨hc.body,hc.eP,fun hr hwf hfree vs hd=>hc.ok hr hwf hfree ?_⟩
 rw[<-ha]
 exact gB _ _ hd
theorem bH {f:FuncId} {args args':List SVal} {v:SVal} {st:St} {K:SVal->St->Prop} (h:bj P f args' fun s=>s=v) (k:EF args st fun l st'=>l=args'/\st'.look 0=some aX/\K v st'):eL P f args st K:=by
 obtain⟨hcl,s,o,h1,h2,rfl,rfl⟩:=h
 obtain⟨l',st',g1,rfl,g2,g3⟩:=jq k
 have hc:=ME h1 hcl h2 g2
 exact⟨_,_,fun _ _ _ _ _ _ _ ho hc' hf hev he=>H3 ho hc' hf hev (by rw[he];exact g1) hc,g3⟩
theorem BX {l:List SVal} {heap:Hp} {next:Nat} {K:List SVal->List bm->Prop} (hs:bx heap 0=some aX) (hx:1<=next) (hc:aw l=true) (k:K l [aX]):km 1 l ⟨heap,next,0,[],[]⟩ K:=
 dC [aX] rfl ⟨hs,trivial⟩ ⟨jX.1,jX.2,trivial⟩ (bo _ _ hc) hx k
end
theorem Ff {n:Nat}:∀{cB:List (Nat×Nat)},cB.all (fun p=>Nat.ble p.2 n)=true->∀k,b8 k cB=true->k<n
 |[],_,k,h=>by cases h
 |p::r,h,k,hk=>by
  rw[List.all_cons,Tw] at h
  have hk: @Bool.rec (fun _=>Bool) (b8 k r) (@Bool.rec (fun _=>Bool) (b8 k r) true (Nat.ble (Nat.succ k) p.2)) (Nat.ble p.1 k)=true:=hk
  cases h1:Nat.ble p.1 k with
  |false=>rw[h1] at hk;exact Ff h.2 k hk
  |true=>
   rw[h1] at hk
   cases h2:Nat.ble (Nat.succ k) p.2 with
   |false=>rw[h2] at hk;exact Ff h.2 k hk
   |true=>exact Us (cT h2) (cT h.1)
def Bz (h h1:Hp) (log:List Nat):Nat->Prop
 |0=>True
 |k+1=>(bx h1 k=bx h k\/k∈log)/\Bz h h1 log k
theorem By {h h1:Hp} {log:List Nat}:∀{n:Nat},Bz h h1 log n->∀k,k<n->k∉log->bx h1 k=bx h k
 |0,_,k,hk,_=>by omega
 |n+1,⟨g1,g2⟩,k,hk,hl=>by
  by_cases e:k=n
  ·subst e;exact g1.elim id fun h=>(hl h).elim
  ·exact By g2 k ii hl
noncomputable def HF (mark:Nat) (cB:List (Nat×Nat)):List Nat->Bool
 |[]=>true
 |n::r=>match b8 n cB with
  |true=>false
  |false=>match Nat.ble (Nat.succ n) mark with
   |true=>HF mark cB r
   |false=>false
theorem FH {mark:Nat} {cB:List (Nat×Nat)}:∀{l:List Nat},HF mark cB l=true->∀n∈l,b8 n cB=false/\n<mark
 |[],_,n,h=>by cases h
 |a::r,h,n,hn=>by
  unfold HF at h
  split at h
  ·cases h
  ·rename_i h1
   split at h
   ·rename_i h2
    rcases Tv.1 hn with rfl|hn
    ·exact⟨h1,cT h2⟩
    ·exact FH h n hn
   ·cases h
structure Qk (heap0:Hp) (next mark:Nat) (cB:List (Nat×Nat)) (ss:List SVal) (st:St) (K:List SVal->St->Prop):Prop where
 out:∃heap2 next2 log2,kO next ⟨heap2,next2,mark,log2,cB⟩ st/\l9 next2 heap2 heap2/\Bz heap0 heap2 log2 next/\HF mark cB log2=true/\cY next2 ss=true/\K ss ⟨heap2,next2,mark,log2,cB⟩
theorem LZ {heap0:Hp} {next mark:Nat} {log:List Nat} {cB:List (Nat×Nat)} {ss:List SVal} {heap:Hp} {next1:Nat} {K:List SVal->St->Prop} (hn:next<=next1) (hh:l9 next1 heap heap) (hs:Bz heap0 heap log next) (hb:cB.all (fun p=>Nat.ble p.2 next1)=true) (hl:HF mark cB log=true) (hv:cY next1 ss=true) (k:K ss ⟨heap,next1,mark,log,cB⟩):Qk heap0 next mark cB ss ⟨heap,next1,mark,log,cB⟩ K:=
 ⟨heap,next1,log,⟨Tp _,hn,rfl,rfl,rfl,Ff hb,fx hh,fun _ _=>rfl⟩,hh,hs,hl,hv,k⟩
section
variable {P:Program} {E:Env}
noncomputable def Sb (E:Env) (heap0:Hp) (next mark:Nat) (cB:List (Nat×Nat)) (rs:List ResultVar) (K:SVal->St->Prop) (x:Ex) (fr:Fr) (st:St):Prop:=match x with
 | .exit _=>False
 |_=>Eh E fr st rs fun ss=>Qk heap0 next mark cB ss st fun ss st=>match ss with
  |[v]=>K v st
  |vs=>K (.dT vs) st
theorem Pd {heap0:Hp} {next mark:Nat} {cB:List (Nat×Nat)} {rs:List ResultVar} {K:SVal->St->Prop} {x:Ex} {fr:Fr} {st:St} (h:Sb E heap0 next mark cB rs K x fr st):sk x=true/\∃ss,pj E fr st rs ss/\Qk heap0 next mark cB ss st fun ss st=>K (oN ss) st:=by
 unfold Sb at h
 split at h
 ·exact h.elim
 ·rename_i hx
  obtain⟨ss,h1,⟨a,b,c,g1,g2,g0,gv,g3,g4⟩⟩:=mZ E h
  refine⟨?_,ss,h1,⟨a,b,c,g1,g2,g0,gv,g3,?_⟩⟩
  ·cases x with
   |exit j=>exact(hx j rfl).elim
   |normal=>rfl
   |ret=>rfl
  ·split at g4
   ·exact g4
   ·rename_i hv
    match ss,hv,g4 with
    |[],_,g=>exact g
    |[v],hv,_=>exact(hv v rfl).elim
    |a::b::r,_,g=>exact g
noncomputable def xD (P:Program) (E:Env) (fn:Func) (args:List SVal) (heap:Hp) (next mark:Nat) (cB:List (Nat×Nat)) (K:SVal->St->Prop):Prop:=match fn with
 |{ntmps:=n,results:=rs,body:=some b,.. }=>yes (Nat.ble args.length n)<|cC (vV 0 args) fun t=>xC P E next b ⟨n,t⟩ ⟨heap,next,mark,[],cB⟩ (Sb E heap next mark cB rs.toList K)
 |_=>False
theorem MC (hE:bt P E) {f:FuncId} (fn:Func) (hf:E.funcs.get f=some fn) {args:List SVal} {heap:Hp} {next mark:Nat} {cB:List (Nat×Nat)} {K:SVal->St->Prop} (hh:l9 next heap heap) (ha:cY next args=true) (h:xD P E fn args heap next mark cB K):eL P f args ⟨heap,next,mark,[],cB⟩ K:=by
 unfold xD at h
 split at h
 ·obtain⟨h1,g⟩:=bY h
  obtain⟨t,h2,g⟩:=aD g
  cases qC h2
  obtain⟨x,fr',st',h3,h4⟩:=jG P E next hE g
  obtain⟨h5,ss,h6,⟨heap2,next2,log2,k1,k2,k0,kv,k3,k4⟩⟩:=Pd h4
  have hsta:eJ ⟨heap,next,mark,[],cB⟩ ⟨heap2,next2,mark,log2,cB⟩:={
   cB:=rfl
   mark:=rfl
   next:=k1.low
   log:=fun _ h=>(by cases h)
   same:=fun k h1 _ h3=>By k0 k h1 h3
   wf:=fun _ k hk=>by
    have hk:next2<=k:=hk
    show bx heap2 k=none
    cases hx:bx heap2 k with
    |none=>rfl
    |some o=>have:=(fx k2 k o hx).2.2;omega
   AO:=fun n hn=> .inr (FH kv n hn)}
  refine⟨_,_,fun _ _ _ _ _ _ _ ho hc hf' hev he=>kt ho hc hf' hev ?_,k4⟩
  rw[he]
  refine At hE hf rfl hsta (fun k o hk=>(fx hh k o hk).2.1) ha ?_
  unfold entry
  rw[show args.length+(_-args.length)=_ from Vn (TS h1)]
  exact h3 _ ⟨h5,ss,h6,ss,st',qj ss,rfl,k1,pX k3⟩
 ·exact h.elim
end
end Sv
namespace Sv
open Go Go.RowKit
variable [lV] {P:Program} {E:Env}
def bE:bm->Bool
 | .cells l=>aw l
 | .row _ rows _ _=>aG rows
 | .lR _ l=>aw l
 |_=>false
theorem fE (σ:Nat->Nat):∀{o:bm},bE o=true->ft σ o=o
 | .cells l,h=>Ub bm.cells (bS σ l h)
 | .row m rows s y,h=>Ub (fun r=>bm.row m r s y) (mg σ rows h)
 | .lR g l,h=>Ub (bm.lR g) (bS σ l h)
 | .still l,h=>by cases h
 | .map l,h=>by cases h
 | .loop r,h=>by cases h
theorem oi:∀{o:bm},bE o=true->plainO o=true
 | .cells _,_=>rfl
 | .row _ _ _ _,_=>rfl
 | .lR _ _,_=>rfl
 | .still l,h=>by cases h
 | .map l,h=>by cases h
 | .loop r,h=>by cases h
theorem uw (m:Nat):∀{o:bm},bE o=true->gK m o=true
 | .cells l,h=>bo m l h
 | .row _ rows _ _,h=>gJ m rows h
 | .lR _ l,h=>bo m l h
 | .still l,h=>by cases h
 | .map l,h=>by cases h
 | .loop r,h=>by cases h
abbrev sig (ks:List Nat):Nat->Nat:=fun i=>(0::ks).getD i 0
theorem nu {f:FuncId} {objs objs':List bm} {args:List SVal} {s:SVal} (h:wh P f (aX::objs) args s (aX::objs')) {big:St} {ks:List Nat} (hlen:ks.length=objs.length) (hnd:(0::ks).Nodup) (h0:big.look 0=some aX)
  (hbig:∀(i k:Nat) (o:bm),ks[i]? =some k->objs[i]? =some o->big.look k=some (ft (sig ks) o)):gX P f (cx (sig ks) args) big (dp (sig ks) s) (gZ (sig ks) ks objs' big):=by
 have hb:∀(i k:Nat) (o:bm),(0::ks)[i]? =some k->(aX::objs)[i]? =some o->big.look k=some (ft (sig ks) o):=fun i k o h1 h2=>by
  cases i with
  |zero=>simp at h1 h2;subst h1 h2;rw[sO];exact h0
  |succ i=>exact hbig i k o (by simpa using h1) (by simpa using h2)
 have hc:=uA h (big:=big) (ks:=0::ks) (σ:=sig ks) (fun _=>rfl) (Ub (· +1) hlen) hnd hb
 have hl':objs'.length=objs.length:=by have:=h.len;simpa using this
 have hsome:∀k∈ks,∃o,big.look k=some o:=fun k hk=>by
  obtain⟨i,hi,e⟩:=z7 hk
  exact⟨_,hbig i k _ e (Tj (hlen▸hi))⟩
 rw[Vr] at hnd
 obtain⟨p1,p2,p3,p4⟩:=ni (σ:=sig ks) (ks:=ks) (os:=objs') (st:=big) (hlen.trans hl'.symm) hnd.2 hsome
 have hlk0:=nj (o:=ft (sig ks) aX) h0
 have hsome':∀k∈ks,∃o,(big.put 0 (ft (sig ks) aX)).look k=some o:=fun k hk=>by
  rw[hlk0]
  split
  ·exact⟨_,rfl⟩
  ·exact hsome k hk
 obtain⟨q1,q2,q3,q4⟩:=ni (σ:=sig ks) (ks:=ks) (os:=objs') (st:=big.put 0 (ft (sig ks) aX)) (hlen.trans hl'.symm) hnd.2 hsome'
 have e1:(gZ (sig ks) (0::ks) (aX::objs') big).look=(gZ (sig ks) ks objs' big).look:=by
  funext n
  show(gZ (sig ks) ks objs' (big.put 0 (ft (sig ks) aX))).look n=_
  by_cases hn:n∈ks
  ·obtain⟨i,hi,e⟩:=z7 hn
   have hi':i<objs'.length:=by omega
   rw[q4 i n _ e (Tj hi'),p4 i n _ e (Tj hi')]
  ·rw[q3 n hn,p3 n hn,hlk0]
   split
   ·rename_i e;rw[e,h0,sO]
   ·rfl
 have e2:(gZ (sig ks) (0::ks) (aX::objs') big).next=(gZ (sig ks) ks objs' big).next:=by
  show(gZ (sig ks) ks objs' (big.put 0 (ft (sig ks) aX))).next=_
  rw[q2,p2]
  rfl
 refine⟨hc.body,p1,fun{c w} hr hwf hfr vs hd=>(hc.ok hr hwf (by rw[e2];exact hfr) hd).mono fun e w' he=> ?_⟩
 obtain⟨v,h1,c',gd⟩:=he
 exact⟨v,h1,c',gd.val,by rw[<-e1];exact gd.rep,by have:=gd.step;rw[e1,e2] at this;exact this⟩
def lY (P:Program) (f:FuncId) (o:bm) (args:List SVal) (Ψ:SVal->bm->Prop):Prop:=bE o=true/\wi P f [aX,o] args fun s os=>closed s=true/\∃o',os=[aX,o']/\bE o'=true/\Ψ s o'
theorem O5 (hE:bt P E) {f:FuncId} {fn:Func} (hf:E.funcs.get f=some fn) {o:bm} {args:List SVal} {Ψ:SVal->bm->Prop} (ho:bE o=true) (hn:cY 2 args=true) (h:xM P E fn [aX,o] args fun s os=>closed s=true/\∃o',os=[aX,o']/\bE o'=true/\Ψ s o'):lY P f o args Ψ:=
 ⟨ho,s7 P E hE hf ⟨jX.1,rfl,oi ho,uw _ ho,trivial⟩ hn h⟩
theorem dj {f:FuncId} {o o1:bm} {args args':List SVal} {v:SVal} {st:St} {K:SVal->St->Prop} (n:Nat) (h:lY P f o args' fun s o'=>s=v/\o'=o1) (ha:cG args=cx (sig [n]) args') (hn:Nat.ble 1 n=true) (h0:st.look 0=some aX) (hl:st.look n=some o) (k:hJ st n o1 (K v)):eL P f args st K:=by
 obtain⟨ho,s,os,h1,h2,o',rfl,h3,rfl,rfl⟩:=h
 have hnd:(0::[n]).Nodup:=by
  have:=TS hn
  simp;omega
 have hc:=nu (objs:=[o]) (objs':=[o']) h1 (big:=st) (ks:=[n]) rfl hnd h0 (fun i k o1 e1 e2=>by
  cases i with
  |zero=>simp at e1 e2;subst e1 e2;rw[fE _ ho];exact hl
  |succ i=>simp at e1)
 rw[dS _ _ h2,show gZ (sig [n]) [n] [o'] st=st.put n o' by show st.put n (ft _ o')=_;rw[fE _ h3]] at hc
 refine⟨_,_,fun _ _ _ _ _ _ _ ho hc' hf hev he=>kt ho hc' hf hev ?_,du k⟩
 rw[he]
 refine⟨hc.body,hc.eP,fun hr hwf hfree vs hd=>hc.ok hr hwf hfree ?_⟩
 rw[<-ha]
 exact gB _ _ hd
theorem K7 {l:List SVal} {heap:Hp} {next:Nat} {o':bm} {K:List SVal->List bm->Prop} (h0:bx heap 0=some aX) (h1:bx heap 1=some o') (hx:2<=next) (hc:aw l=true) (ho:bE o'=true) (k:K l [aX,o']):km 2 l ⟨heap,next,0,[],[]⟩ K:=
 dC [aX,o'] rfl ⟨h0,h1,trivial⟩ ⟨jX.1,rfl,oi ho,uw _ ho,trivial⟩ (bo _ _ hc) hx k
def lN (m:Nat) (rest:List SVal) (rows:List (List SVal)) (s:Nat):List bm:=[.cells (.own 2 s::rest),.row m rows s false]
def sA (P:Program) (f:FuncId) (m:Nat) (rest:List SVal) (rows:List (List SVal)) (args:List SVal) (Ψ:SVal->List (List SVal)->Prop):Prop:=aw rest=true/\aG rows=true/\∀t,wi P f (aX::lN m rest rows t) args fun s os=>closed s=true/\∃rows' t',os=aX::lN m rest rows' t'/\aG rows'=true/\Ψ s rows'
theorem LG (hE:bt P E) {f:FuncId} {fn:Func} (hf:E.funcs.get f=some fn) {m:Nat} {rest:List SVal} {rows:List (List SVal)} {args:List SVal} {Ψ:SVal->List (List SVal)->Prop} (h1:aw rest=true) (h2:aG rows=true) (hn:cY 3 args=true)
  (h:∀t,xM P E fn [aX,.cells (.own 2 t::rest),.row m rows t false] args fun s os=>closed s=true/\∃rows' t',os=aX::lN m rest rows' t'/\aG rows'=true/\Ψ s rows'):sA P f m rest rows args Ψ:=
 ⟨h1,h2,fun t=>s7 P E hE hf ⟨jX.1,rfl,rfl,by show cY 3 (.own 2 t::rest)=true;rw[cY,bo _ _ h1];rfl,rfl,gJ _ _ h2,trivial⟩ hn (h t)⟩
theorem bp {f:FuncId} {m:Nat} {rest:List SVal} {rows rows1:List (List SVal)} {args args':List SVal} {v:SVal} {st:St} {K:SVal->St->Prop} (n k t:Nat) (h:sA P f m rest rows args' fun s r=>s=v/\r=rows1) (ha:cG args=cx (sig [n,k]) args') (hn:(Nat.ble 1 n&&Nat.ble 1 k&& !(Nat.beq n k))=true) (h0:st.look 0=some aX)
  (hl:st.look n=some (.cells (.own k t::rest))) (hl2:st.look k=some (.row m rows t false)) (kk:∀t',hJ st n (.cells (.own k t'::rest)) fun st=>hJ st k (.row m rows1 t' false) (K v)):eL P f args st K:=by
 obtain⟨g1,g2,h⟩:=h
 obtain⟨s,os,h1,h2,r,t',rfl,h3,rfl,rfl⟩:=h t
 rw[Tw,Tw] at hn
 have hnd:(0::[n,k]).Nodup:=by
  have a1:=TS hn.1.1
  have a2:=TS hn.1.2
  have a3:n≠k:=fun e=>by subst e;have:=hn.2;simp at this
  simp;omega
 have hren:∀u r,ft (sig [n,k]) (.cells (.own 2 u::rest))= .cells (.own k u::rest)/\(aG r=true->ft (sig [n,k]) (.row m r u false)= .row m r u false):=fun u r=>
  ⟨by show bm.cells (dp _ (.own 2 u)::cx _ rest)=_;rw[bS _ _ g1];rfl,fun hr=>fE _ hr⟩
 have hc:=nu (objs:=lN m rest rows t) (objs':=lN m rest r t') h1 (big:=st) (ks:=[n,k]) rfl hnd h0 (fun i k' o1 e1 e2=>by
  cases i with
  |zero=>simp[lN] at e1 e2;subst e1 e2;rw[(hren t rows).1];exact hl
  |succ i=>
   cases i with
   |zero=>simp[lN] at e1 e2;subst e1 e2;rw[(hren t rows).2 g2];exact hl2
   |succ i=>simp at e1)
 rw[dS _ _ h2,show gZ (sig [n,k]) [n,k] (lN m rest r t') st=(st.put n (.cells (.own k t'::rest))).put k (.row m r t' false) by
  show(st.put n (ft _ _)).put k (ft _ _)=_
  rw[(hren t' r).1,(hren t' r).2 h3]] at hc
 refine⟨_,_,fun _ _ _ _ _ _ _ ho hc' hf hev he=>kt ho hc' hf hev ?_,du (du (kk t'))⟩
 rw[he]
 refine⟨hc.body,hc.eP,fun hr hwf hfree vs hd=>hc.ok hr hwf hfree ?_⟩
 rw[<-ha]
 exact gB _ _ hd
theorem BY {l:List SVal} {heap:Hp} {next t m:Nat} {rest:List SVal} {rows:List (List SVal)} {K:List SVal->List bm->Prop} (h0:bx heap 0=some aX) (h1:bx heap 1=some (.cells (.own 2 t::rest))) (h2:bx heap 2=some (.row m rows t false)) (hx:3<=next) (hc:aw l=true) (hr:aw rest=true) (ho:aG rows=true) (k:K l (aX::lN m rest rows t)):km 3 l ⟨heap,next,0,[],[]⟩ K:=
 dC (aX::lN m rest rows t) rfl ⟨h0,h1,h2,trivial⟩ ⟨jX.1,rfl,rfl,by show cY 3 (.own 2 t::rest)=true;rw[cY,bo _ _ hr];rfl,rfl,gJ _ _ ho,trivial⟩ (bo _ _ hc) hx k
end Sv
namespace Sv
open Go Go.RowKit
inductive Va:Type
 |mk (v d:bG Va):Va
def Va.v:Va->bG Va
 | .mk v _=>v
def Va.d:Va->bG Va
 | .mk _ d=>d
mutual
def aL:Va->List SVal
 | .mk v d=>Jb v++Jb d
def Jb:bG Va->List SVal
 |⟨a,sc,ls,ss⟩=>[.bool a,.bool sc.null,.bool sc.py,.bool sc.px,aW sc.ints,aW sc.bz,aA sc.strs,.aE false (nR ls),.aE false (nQ ss)]
def nR:List (bg Va)->List (List SVal)
 |[]=>[]
 |c::r=>vN c::nR r
def vN:bg Va->List SVal
 |⟨i,r⟩=>[.aE false (E7 i),.aE false (E7 r)]
def E7:List Va->List (List SVal)
 |[]=>[]
 |x::r=>aL x::E7 r
def nQ:List (aM Va)->List (List SVal)
 |[]=>[]
 |c::r=>vL c::nQ r
def vL:aM Va->List SVal
 |⟨f,k⟩=>[.aE false (yL f),.aE false (yN k)]
def yL:List (dO Va)->List (List SVal)
 |[]=>[]
 |f::r=>MG f::yL r
def MG:dO Va->List SVal
 |⟨l,p,x⟩=> .str l:: .int .i64 p::aL x
def yN:List (dH Va)->List (List SVal)
 |[]=>[]
 |k::r=>MH k::yN r
def MH:dH Va->List SVal
 |⟨s,x⟩=>aA s::aL x
end
theorem Av:∀l:List Va,E7 l=l.map aL
 |[]=>rfl
 |x::r=>by rw[E7,Av r];rfl
theorem Jd:∀c:bg Va,vN c=aQ aL c
 |⟨i,r⟩=>by rw[vN,Av,Av];rfl
theorem vM:∀l:List (bg Va),nR l=l.map (aQ aL)
 |[]=>rfl
 |x::r=>by rw[nR,vM r,Jd];rfl
theorem PX:∀c:dO Va,MG c=di aL c
 |⟨l,p,x⟩=>by rw[MG];rfl
theorem Dc:∀l:List (dO Va),yL l=l.map (di aL)
 |[]=>rfl
 |x::r=>by rw[yL,Dc r,PX];rfl
theorem PY:∀c:dH Va,MH c=dN aL c
 |⟨l,x⟩=>by rw[MH];rfl
theorem De:∀l:List (dH Va),yN l=l.map (dN aL)
 |[]=>rfl
 |x::r=>by rw[yN,De r,PY];rfl
theorem Jc:∀c:aM Va,vL c=aC aL c
 |⟨f,k⟩=>by rw[vL,Dc,De];rfl
theorem vK:∀l:List (aM Va),nQ l=l.map (aC aL)
 |[]=>rfl
 |x::r=>by rw[nQ,vK r,Jc];rfl
theorem tf:∀v:bG Va,Jb v=cj aL v
 |⟨a,sc,ls,ss⟩=>by rw[Jb,vM,vK];rfl
def eo (x:Va):List SVal:=[.bool x.v.any,.bool x.v.sc.null,.bool x.v.sc.py,.bool x.v.sc.px,aW x.v.sc.ints,aW x.v.sc.bz,aA x.v.sc.strs,.aE false (x.v.lists.map (aQ aL)),.aE false (x.v.structs.map (aC aL)),
 .bool x.d.any,.bool x.d.sc.null,.bool x.d.sc.py,.bool x.d.sc.px,aW x.d.sc.ints,aW x.d.sc.bz,aA x.d.sc.strs,.aE false (x.d.lists.map (aQ aL)),.aE false (x.d.structs.map (aC aL))]
theorem cP:∀x:Va,aL x=eo x
 | .mk v d=>by rw[aL,tf,tf];rfl
abbrev lK (f:dO Va):List SVal:= .str f.label:: .int .i64 f.fj::eo f.val
theorem cW (f:dO Va):di aL f=lK f:=by rw[di,cP]
abbrev fA (k:dH Va):List SVal:=aA k.set::eo k.val
theorem cF (k:dH Va):dN aL k=fA k:=by rw[dN,cP]
mutual
theorem G3:∀x:Va,aw (aL x)=true
 | .mk v d=>by
  have h1:=Mo v
  have h2:=Mo d
  rw[aL,tf] at*
  rw[tf] at*
  show aw (cj aL v++cj aL d)=true
  simp only[cj,aw,Tw,Vf,UC] at h1 h2⊢
  simp only[h1,h2,and_self]
theorem Mo:∀v:bG Va,aw (Jb v)=true
 |⟨a,sc,ls,ss⟩=>by rw[Jb];simp only[aw,closed,bK,b6,Mq ls,Mp ss,Tq]
theorem Mq:∀l:List (bg Va),aG (nR l)=true
 |[]=>rfl
 |c::r=>by rw[nR,aG,cl_lc c,Mq r];rfl
theorem cl_lc:∀c:bg Va,aw (vN c)=true
 |⟨i,r⟩=>by rw[vN];simp only[aw,closed,EZ i,EZ r,Tq]
theorem EZ:∀l:List Va,aG (E7 l)=true
 |[]=>rfl
 |x::r=>by rw[E7,aG,G3 x,EZ r];rfl
theorem Mp:∀l:List (aM Va),aG (nQ l)=true
 |[]=>rfl
 |c::r=>by rw[nQ,aG,cl_sc c,Mp r];rfl
theorem cl_sc:∀c:aM Va,aw (vL c)=true
 |⟨f,k⟩=>by rw[vL];simp only[aw,closed,G5 f,G7 k,Tq]
theorem G5:∀l:List (dO Va),aG (yL l)=true
 |[]=>rfl
 |f::r=>by rw[yL,aG,SE f,G5 r];rfl
theorem SE:∀f:dO Va,aw (MG f)=true
 |⟨l,p,x⟩=>by rw[MG];simp only[aw,closed,G3 x,Tq]
theorem G7:∀l:List (dH Va),aG (yN l)=true
 |[]=>rfl
 |k::r=>by rw[yN,aG,SF k,G7 r];rfl
theorem SF:∀k:dH Va,aw (MH k)=true
 |⟨s,x⟩=>by rw[MH];simp only[aw,b6,G3 x,Tq]
end
instance :Cl aL:=⟨G3⟩
section
variable {α:Type} {f:α->List SVal} {l:List α}
theorem bC {j:Nat} {x:α} {sz:Nat} {row:List SVal} {K:List SVal->Prop} (u:f x=row) (h:l[j]? =some x) (hl:row.length=sz) (k:K row):AtR (l.map f) (j:Int) sz K:=by
 subst u;exact bq h hl k
theorem bI {n:Int} {j:Nat} {x:α} {sz:Nat} {row:List SVal} {K:List SVal->Prop} (u:f x=row) (en:n=(j:Int)) (h:l[j]? =some x) (hl:row.length=sz) (k:K row):AtR (l.map f) n sz K:=by
 subst u;exact bF en h hl k
theorem pP {j:Nat} {x:α} {row:List SVal} {K:List SVal->Prop} (u:f x=row) (h:l[j]? =some x) (k:K row):S4 (l.map f) j K:=by
 subst u;exact bP h k
end
structure Mem (D:Type) where
 label:List UInt8
 data:D
structure cJ (D:Type) where
 kind:Int
 num:Int
 str:List UInt8
 items:List D
 members:List (Mem D)
section
variable {D:Type} (e:D->List SVal)
def jF (m:Mem D):List SVal:= .str m.label::e m.data
def iF (d:cJ D):List SVal:=[.int .i64 d.kind,.int .i64 d.num,.str d.str,.aE false (d.items.map e),.aE false (d.members.map (jF e))]
variable {e} [h:Cl e]
instance :Cl (jF e):=⟨fun f=>by simp only[jF,aw,closed,cl e,Tq]⟩
instance :Cl (iF e):=⟨fun f=>by simp only[iF,aw,closed,eC e,eC (jF e),Tq]⟩
end
inductive aO:Type
 |mk (d:cJ aO):aO
def aO.c:aO->cJ aO
 | .mk d=>d
mutual
def de:aO->List SVal
 | .mk ⟨k,n,s,i,m⟩=>[.int .i64 k,.int .i64 n,.str s,.aE false (yM i),.aE false (yJ m)]
def yM:List aO->List (List SVal)
 |[]=>[]
 |x::r=>de x::yM r
def yJ:List (Mem aO)->List (List SVal)
 |[]=>[]
 |f::r=>MF f::yJ r
def MF:Mem aO->List SVal
 |⟨l,x⟩=> .str l::de x
end
theorem Dd:∀l:List aO,yM l=l.map de
 |[]=>rfl
 |x::r=>by rw[yM,Dd r];rfl
theorem PW:∀c:Mem aO,MF c=jF de c
 |⟨l,x⟩=>by rw[MF];rfl
theorem Db:∀l:List (Mem aO),yJ l=l.map (jF de)
 |[]=>rfl
 |x::r=>by rw[yJ,Db r,PW];rfl
abbrev cw (x:aO):List SVal:=iF de x.c
theorem cK:∀x:aO,de x=cw x
 | .mk ⟨k,n,s,i,m⟩=>by rw[de,Dd,Db];rfl
abbrev HH (m:Mem aO):List SVal:= .str m.label::cw m.data
theorem bB (f:Mem aO):jF de f=HH f:=by rw[jF,cK]
mutual
theorem E0:∀x:aO,aw (de x)=true
 | .mk ⟨k,n,s,i,m⟩=>by rw[de];simp only[aw,closed,G6 i,G4 m,Tq]
theorem G6:∀l:List aO,aG (yM l)=true
 |[]=>rfl
 |x::r=>by rw[yM,aG,E0 x,G6 r];rfl
theorem G4:∀l:List (Mem aO),aG (yJ l)=true
 |[]=>rfl
 |k::r=>by rw[yJ,aG,SD k,G4 r];rfl
theorem SD:∀k:Mem aO,aw (MF k)=true
 |⟨s,x⟩=>by rw[MF];simp only[aw,closed,E0 x,Tq]
end
instance :Cl de:=⟨E0⟩
instance :Cl cw:=⟨fun x=>cl (iF de) x.c⟩
instance :Cl HH:=⟨fun x=>by simp only[HH,aw,closed,cl cw,Tq]⟩
instance :Cl eo:=⟨fun x=>by simp only[eo,aw,closed,bK,b6,eC (aQ aL),eC (aC aL),Tq]⟩
instance :Cl lK:=⟨fun x=>by simp only[lK,aw,closed,cl eo,Tq]⟩
instance :Cl fA:=⟨fun x=>by simp only[fA,aw,b6,cl eo,Tq]⟩
variable [lV] {P:Program} {E:Env}
theorem bR {α:Type} {f:α->List SVal} [Cl f] (σ:Nat->Nat) (x:α):dp σ (.agg (f x))= .agg (f x):=dS _ _ (clA f x)
theorem bQ {α:Type} {f:α->List SVal} [Cl f] (σ:Nat->Nat) (b:Bool) (l:List α):dp σ (.aE b (l.map f))= .aE b (l.map f):=dS _ _ (clS f b l)
noncomputable def xO (P:Program) (E:Env) (fn:Func) (o:bm) (args:List SVal) (Ψ:SVal->List bm->Prop):Prop:=match fn with
 |{ntmps:=n,results:=rs,body:=some b,.. }=>yes (Nat.ble args.length n)<|cC (vV 0 args) fun t=>xC P E 2 b ⟨n,t⟩ ⟨[(0,aX),(1,o)],2,0,[],[]⟩ (EJ E 2 rs.toList Ψ)
 |_=>False
theorem dM (hE:bt P E) {f:FuncId} {fn:Func} (hf:E.funcs.get f=some fn) {o:bm} {args:List SVal} {Ψ:SVal->bm->Prop} (ho:bE o=true) (hn:cY 2 args=true) (h:xO P E fn o args fun s os=>closed s=true/\∃o',os=[aX,o']/\bE o'=true/\Ψ s o'):lY P f o args Ψ:=
 O5 hE hf ho hn h
noncomputable def xRw (P:Program) (E:Env) (fn:Func) (m:Nat) (rest:List SVal) (rows:List (List SVal)) (t:Nat) (args:List SVal) (Ψ:SVal->List bm->Prop):Prop:=match fn with
 |{ntmps:=n,results:=rs,body:=some b,.. }=>yes (Nat.ble args.length n)<|cC (vV 0 args) fun tt=>xC P E 3 b ⟨n,tt⟩ ⟨[(0,aX),(1,.cells (.own 2 t::rest)),(2,.row m rows t false)],3,0,[],[]⟩ (EJ E 3 rs.toList Ψ)
 |_=>False
theorem nF (hE:bt P E) {f:FuncId} {fn:Func} (hf:E.funcs.get f=some fn) {m:Nat} {rest:List SVal} {rows:List (List SVal)} {args:List SVal} {Ψ:SVal->List (List SVal)->Prop} (h1:aw rest=true) (h2:aG rows=true) (hn:cY 3 args=true)
  (h:∀t,xRw P E fn m rest rows t args fun s os=>closed s=true/\∃rows' t',os=aX::lN m rest rows' t'/\aG rows'=true/\Ψ s rows'):sA P f m rest rows args Ψ:=
 LG hE hf h1 h2 hn h
end Sv
namespace Sv
open Go Go.RowKit
theorem W.DY {P:Program} {lo:Nat} {z:Code} {fr:Fr} {st:St} {Φ:Ex->Fr->St->Prop} {b:Nat} {l:List SVal} (hb:st.look b=some (.cells l)) (hf:gb l=true)
  (h:W P lo z fr (st.put b (.still l)) Φ):W P lo z fr st Φ:=by
 intro ro B D c w a he hr Q hq
 obtain⟨c',e1,h2,h3,h4⟩:=xn hb he.rep (hZ hf) fun b' arr e hc hw=>by
  obtain⟨lc,g1,g2⟩:=he.rep.dF _ _ hb
  rw[hc] at g1
  cases g1
  obtain⟨arr',e',k1,k2,k3⟩:=g2
  rw[hw] at k1
  cases k1
  exact k2
 have hsta:=dt (.still l) hb
 have hs:eh lo c st.look w c' (st.put b (.still l)).look w:=h3.c he.low
 have ht:=hsta.c he.low
 refine h ⟨h2,he.wf.eP hsta,fun n hn=>by rw[e1];exact he.wW n hn,⟨he.fr.size,fun t x hx=> ?_,he.fr.defers⟩,he.Ep,he.base,TR he.low hsta.next,by rw[hsta.mark];exact he.mark⟩ hr fun x fr' st' D' c2 a' w' g1 g2 g3 g4 g5=>hq x fr' st' D' c2 a' w' g1 g2 (hs.trans g3) (ht.trans g4) g5
 obtain⟨v,f1,f2⟩:=he.fr.get t x hx
 exact⟨v,f1,Den.le h3.le _ _ f2⟩
section
variable {P:Program} {lo:Nat} {n:Nat} {t:List (Nat×SVal)} {heap:Hp} {next:Nat} {l:List SVal}
theorem R.DY {z:Code} {K:Ex->Fr->St->Prop} (b:Nat) (hb:bx heap b=some (.cells l)) (hf:gb l=true)
  (h:R P lo z ⟨n,t⟩ ⟨iW heap b (.still l),next,0,[],[]⟩ K):R P lo z ⟨n,t⟩ ⟨heap,next,0,[],[]⟩ K:=by
 obtain⟨x,fr',st',h1,h2⟩:=h
 exact⟨x,fr',st',fun Φ hΦ=>W.DY (st:=⟨heap,next,0,[],[]⟩) hb hf (h1 Φ hΦ),h2⟩
theorem r6 {z:Code} {K:Ex->Fr->St->Prop} (b:Nat) (hb:bx heap b=some (.cells l)) (hf:gb l=true)
  (h:eX P lo z ⟨n,t⟩ ⟨iW heap b (.still l),next,0,[],[]⟩ K):eX P lo z ⟨n,t⟩ ⟨heap,next,0,[],[]⟩ K:=⟨R.DY b hb hf h.out⟩
end
theorem Fi {α:Type} {f:α->List SVal} {l:List α} {K:List (List SVal)->Prop} (k:K (l.map f)):wm (List.drop 0 (List.take l.length (l.map f))) K:=⟨by
 rw[<-Tr (f:=f),List.take_length]
 exact k⟩
theorem qR {P:Program} {o:Oper} {ev:jA} {st st1 st2:St} {d:Go.Call} {fop:Operand} {f:FuncId} {first cap ss args:List SVal} {s:SVal} (ho:o.op= .call d) (hc:d.callee= .value fop) (hf:ev fop=some (.func (.func f) first cap)) (hev:lZ ev d.args.toList=some ss) (ha:iN st (first++(ss++cap)) args st1) (h:gX P f args st1 s st2):bD P o ev st s st2:=
 ⟨by simp[ho],ha.eP.1.trans h.eP,fun{c w} hr hwf hfr {e} he a next Q hn=>by
  obtain⟨vs,h1,h2⟩:=jb (P:=P) ho hc hf hev he
  obtain⟨fn,body,g1,g2,g3⟩:=h.body
  rw[h2]
  obtain⟨c1,e1,r1,s1,d1⟩:=ha.ok hr h1
  refine eW g1 g2 g3 (h.ok r1 (hwf.eP ha.eP.1) (fun k g1 g2=>by rw[ha.eP.2] at g1;rw[e1];exact hfr k g1 g2) d1) o a next Q fun v w' ⟨c2,gd⟩=> ?_
  exact hn c2 v w' ⟨gd.val,gd.rep,s1.trans gd.step ha.eP.1.next h.eP.next⟩⟩
section
variable [lV] {P:Program}
theorem vI {f:FuncId} {o o1:bm} {v fn fn':SVal} {st:St} {K:SVal->St->Prop} {s:Nat} (n:Nat) (h:lY P f o [.own 1 s,fn'] fun x o'=>x=v/\o'=o1) (hn:Nat.ble 1 n=true) (hfc:closed fn'=true)
  (k:EF [fn] st fun l st1=>l=[fn']/\st1.look 0=some aX/\st1.look n=some o/\hJ st1 n o1 (K v)):eL P f [.own n s,fn] st K:=by
 obtain⟨ho,r,os,h1,h2,o',rfl,h3,rfl,rfl⟩:=h
 obtain⟨l',st1,g1,rfl,g2,g3,g4⟩:=jq k
 have hnd:(0::[n]).Nodup:=by
  have:=TS hn
  simp;omega
 have hc:=nu (objs:=[o]) (objs':=[o']) h1 (big:=st1) (ks:=[n]) rfl hnd g2 (fun i k o1 e1 e2=>by
  cases i with
  |zero=>simp at e1 e2;subst e1 e2;rw[fE _ ho];exact g3
  |succ i=>simp at e1)
 rw[dS _ _ h2,show gZ (sig [n]) [n] [o'] st1=st1.put n o' by show st1.put n (ft _ o')=_;rw[fE _ h3],show cx (sig [n]) [.own 1 s,fn']=[.own n s,fn'] by rw[cx,cx,dS _ fn' hfc];rfl] at hc
 exact⟨_,_,fun _ _ _ _ _ _ _ ho hc' hf hev he=>qR ho hc' hf hev (by rw[he];exact .same g1) hc,du g4⟩
end
theorem DO {α:Type} {f:α->List SVal} {l:List α} {i off:Nat} {v row row':List SVal} {K:List (List SVal)->Prop} (x y:α) (ux:f x=row) (uy:f y=row') (h:l[i]? =some x) (hr:ky row off v=some row') (k:K ((l.set i y).map f)):WrR (l.map f) i off v K:=by
 subst ux uy
 exact cq x y h hr k
theorem Iq {P:Program} {o:Oper} {ev:jA} {st st1 st':St} {s:SVal} (hsta:eJ st st1)
  (hpre:∀{c:Ctx} {w:World},dD c st.look w->Wf st->pk c st.next st'.next->∃c1,dD c1 st1.look w/\Step st.next st1.next c st.look w c1 st1.look w) (h:bD P o ev st1 s st'):bD P o ev st s st' where
 nd:=h.nd
 eP:=hsta.trans h.eP
 ok:=fun{c w} hr hwf hfr {e} he a next Q hn=>by
  obtain⟨c1,h2,h3⟩:=hpre hr hwf hfr
  exact h.ok h2 (hwf.eP hsta) (pk.step hfr h3 hsta.next) (fun x hx s hs=>Den.le h3.le _ _ (he x hx s hs)) a next Q fun c' v w' gd=>hn c' v w' ⟨gd.val,gd.rep,h3.trans gd.step hsta.next h.eP.next⟩
theorem E4 {P:Program} {f:FuncId} {args:List SVal} {st:St} {K:SVal->St->Prop} {l:List SVal} (k i m:Nat) (hk:st.look k=some (.cells l)) (hi:l[i]? =some .ax)
  (h:hJ (st.fresh (.row m [] 0 false)) k (.cells (l.set i (.own st.next 0))) fun st1=>eL P f args st1 K) (hw:Nat.ble (Nat.succ k) st.next=true):eL P f args st K:=by
 have hne:k≠st.next:=fun e=>by
  have:=TS hw
  omega
 have hk':(st.fresh (.row m [] 0 false)).look k=some (.cells l):=by
  rw[look_eq]
  have h6:=cR hk
  show(if b8 k st.cB=true then none else bx ((st.next,bm.row m [] 0 false)::st.heap) k)=_
  rw[h6.2,bZ,Ti (UZ hne),h6.1]
  rfl
 have hsta:=(dw st (.row m [] 0 false)).trans (dt (.cells (l.set i (.own st.next 0))) hk')
 obtain⟨s,st',h1,h2⟩:=(du h).out
 refine⟨s,st',fun _ _ _ _ _ _ _ ho hc' hf hev he=> ?_,h2⟩
 have g:=h1 _ _ _ _ _ _ _ ho hc' hf hev he
 refine Iq hsta (fun{c w} hr hwf hfr=> ?_) g
 have hn:c.ρ st.next=none:=hfr _ (Tp _) (Us (Ug _) g.eP.next)
 obtain⟨c',h2,h3,h5,h4⟩:=uz hr hn hwf m
 obtain⟨h7,h8⟩:=ji (o':= .cells (l.set i (.own st.next 0))) hk' h2 fun lc ho=>by
  cases lc with
  |row=>exact ho.elim
  |box b=>
   obtain⟨arr,e,g1,g2,g3⟩:=ho
   exact⟨arr,e,g1,mH h4 hi g2,g3⟩
 exact⟨c',h7,h3.trans h8 (U1 _) (Tp _)⟩
theorem fI {P:Program} {f:FuncId} {args:List SVal} {heap:Hp} {next mark:Nat} {log:List Nat} {cB:List (Nat×Nat)} {K:SVal->St->Prop} {l:List SVal} (k i m:Nat) (hk:St.look ⟨heap,next,mark,log,cB⟩ k=some (.cells l)) (hi:l[i]? =some .ax)
  (h:hJ ⟨(next,.row m [] 0 false)::heap,next+1,mark,log,cB⟩ k (.cells (l.set i (.own next 0))) fun st1=>eL P f args st1 K) (hw:Nat.ble (Nat.succ k) next=true):eL P f args ⟨heap,next,mark,log,cB⟩ K:=
 E4 k i m hk hi h hw
section
variable [lV] {P:Program}
theorem dv {f:FuncId} {m off:Nat} {rest:List SVal} {rows rows1:List (List SVal)} {args args':List SVal} {v:SVal} {st:St} {K:SVal->St->Prop} (n k t:Nat) (h:sA P f m rest rows (.ptr 1 off::args') fun s r=>s=v/\r=rows1) (hcl:aw args'=true) (hn:(Nat.ble 1 n&&Nat.ble 1 k&& !(Nat.beq n k))=true)
  (kk:EF args st fun l st1=>l=args'/\st1.look 0=some aX/\st1.look n=some (.cells (.own k t::rest))/\st1.look k=some (.row m rows t false)/\∀t',hJ st1 n (.cells (.own k t'::rest)) fun st=>hJ st k (.row m rows1 t' false) (K v)):eL P f (.ptr n off::args) st K:=by
 obtain⟨g1,g2,h⟩:=h
 obtain⟨s,os,h1,h2,r,t',rfl,h3,rfl,rfl⟩:=h t
 obtain⟨l',st1,f1,rfl,h0,hl,hl2,kk⟩:=jq kk
 rw[Tw,Tw] at hn
 have hnd:(0::[n,k]).Nodup:=by
  have a1:=TS hn.1.1
  have a2:=TS hn.1.2
  have a3:n≠k:=fun e=>by subst e;have:=hn.2;simp at this
  simp;omega
 have hren:∀u r,ft (sig [n,k]) (.cells (.own 2 u::rest))= .cells (.own k u::rest)/\(aG r=true->ft (sig [n,k]) (.row m r u false)= .row m r u false):=fun u r=>
  ⟨by show bm.cells (dp _ (.own 2 u)::cx _ rest)=_;rw[bS _ _ g1];rfl,fun hr=>fE _ hr⟩
 have hc:=nu (objs:=lN m rest rows t) (objs':=lN m rest r t') h1 (big:=st1) (ks:=[n,k]) rfl hnd h0 (fun i k' o1 e1 e2=>by
  cases i with
  |zero=>simp[lN] at e1 e2;subst e1 e2;rw[(hren t rows).1];exact hl
  |succ i=>
   cases i with
   |zero=>simp[lN] at e1 e2;subst e1 e2;rw[(hren t rows).2 g2];exact hl2
   |succ i=>simp at e1)
 rw[dS _ _ h2,show gZ (sig [n,k]) [n,k] (lN m rest r t') st1=(st1.put n (.cells (.own k t'::rest))).put k (.row m r t' false) by
  show(st1.put n (ft _ _)).put k (ft _ _)=_
  rw[(hren t' r).1,(hren t' r).2 h3],show cx (sig [n,k]) (.ptr 1 off::l')= .ptr n off::l' by rw[cx,bS _ _ hcl];rfl] at hc
 exact⟨_,_,fun _ _ _ _ _ _ _ ho hc' hf hev he=>qR ho hc' hf hev (by rw[he];exact .same f1) hc,du (du (kk t'))⟩
end
theorem Ay {rows:List (List SVal)} {K:List (List SVal)->Prop} (k:K rows):wm ([]++rows) K:=⟨k⟩
theorem OH {c:Ctx} {v:Value} (h:Den c (.aE true []) v):∃a,v= .slice a 0 0:=by
 rcases h with⟨_,a,cap,h1,h2⟩|⟨b,base,size,cap,h1,h2,h3,_⟩
 ·exact⟨a,by rw[h1,h2 rfl]⟩
 ·exact⟨_,by rw[h1,h3 rfl];rfl⟩
theorem Iv {st:St} {c:Ctx} {w:World} (hr:dD c st.look w) (hf:c.ρ st.next=none) (hwf:Wf st) (m:Nat) {v:Value} (hv:∃a,v= .slice a 0 0):
  ∃c',dD c' (st.fresh (.row m [] 0 false)).look w/\Step st.next (st.fresh (.row m [] 0 false)).next c st.look w c' (st.fresh (.row m [] 0 false)).look w/\(∀k,k≠st.next->c'.ρ k=c.ρ k)/\Den c' (.own st.next 0) v:=by
 obtain⟨a,rfl⟩:=hv
 obtain⟨g1,g2⟩:=gN (o:= .row m [] 0 false) (l:= .row none 0 m (.slice a 0 0)) hr hf hwf (df.refl w) (fun b hb=>by cases hb) ⟨rfl,rfl,rfl,a,rfl⟩
 refine⟨_,g1,g2,fun k hk=> ?_,?_⟩
 ·show(if k=st.next then _ else c.ρ k)=_
  rw[Ti hk]
 ·exact gU (cI _ _ _) ⟨_,_,_,rfl⟩
theorem W.nameL {P:Program} {lo:Nat} {z:Code} {fr fr1:Fr} {st:St} {Φ:Ex->Fr->St->Prop} (d m:Nat) (hn:fr1.n=fr.n) (hd:fr.get d=some (.aE true [])) (hf:∀t x,fr1.get t=some x->(t≠d/\fr.get t=some x)\/(t=d/\x= .own st.next 0))
  (h:W P lo z fr1 (st.fresh (.row m [] 0 false)) Φ):W P lo z fr st Φ:=by
 intro ro B D c w a he hr Q hq
 obtain⟨v,e1,e2⟩:=he.fr.get d _ hd
 obtain⟨c',h2,h3,h5,h4⟩:=Iv he.rep (he.wW _ (Tp _)) he.wf m (OH e2)
 have hs:eh lo c st.look w c' (st.fresh (.row m [] 0 false)).look w:=h3.c he.low
 have hsta:=dw st (.row m [] 0 false)
 have ht:=hsta.c he.low
 refine h ⟨h2,he.wf.eP hsta,fun n hn=> ?_,⟨by rw[hn];exact he.fr.size,fun t x hx=> ?_,he.fr.defers⟩,he.Ep,he.base,TR he.low hsta.next,by rw[hsta.mark];exact he.mark⟩ hr fun x fr' st' D' c2 a' w' g1 g2 g3 g4 g5=>hq x fr' st' D' c2 a' w' g1 g2 (hs.trans g3) (ht.trans g4) (g5.trans hn)
 ·have hn:st.next+1<=n:=hn
  rw[h5 n ii]
  exact he.wW n ii
 ·rcases hf t x hx with⟨_,e⟩|⟨rfl,rfl⟩
  ·obtain⟨v,e1,e2⟩:=he.fr.get t x e
   exact⟨v,e1,Den.le h3.le _ _ e2⟩
  ·exact⟨v,e1,h4⟩
theorem Eu {P:Program} {lo:Nat} {z:Code} {n:Nat} {t:List (Nat×SVal)} {heap:Hp} {next mark:Nat} {log:List Nat} {cB:List (Nat×Nat)} {K:Ex->Fr->St->Prop} (d m:Nat) (hd:bx t d=some (.aE true []))
  (h:eX P lo z ⟨n,(d,.own next 0)::t⟩ ⟨(next,.row m [] 0 false)::heap,next+1,mark,log,cB⟩ K):eX P lo z ⟨n,t⟩ ⟨heap,next,mark,log,cB⟩ K:=by
 obtain⟨x,fr',st',h1,h2⟩:=h.out
 refine⟨⟨x,fr',st',fun Φ hΦ=>W.nameL (fr:=⟨n,t⟩) (fr1:=⟨n,(d,.own next 0)::t⟩) d m rfl hd (fun k x hx=> ?_) (h1 Φ hΦ),h2⟩⟩
 have h1:(if d=k then some (SVal.own next 0) else bx t k)=some x:=(bZ (d,SVal.own next 0) t k).symm.trans hx
 by_cases e:d=k
 ·rw[Th e] at h1
  exact .inr ⟨e.symm,(TD h1).symm⟩
 ·rw[Ti e] at h1
  exact .inl ⟨fun h=>e h.symm,h1⟩
theorem Oz {c:Ctx} {v:Value} (h:Den c .ax v):Den c (.aE false []) v:= .inl ⟨rfl,none,0,h,fun e=>by cases e⟩
theorem W.lstB {P:Program} {lo:Nat} {z:Code} {fr:Fr} {st:St} {Φ:Ex->Fr->St->Prop} {b i:Nat} {l:List SVal} (hb:st.look b=some (.cells l)) (hi:l[i]? =some .ax)
  (h:W P lo z fr (st.put b (.cells (l.set i (.aE false [])))) Φ):W P lo z fr st Φ:=by
 intro ro B D c w a he hr Q hq
 obtain⟨h7,h8⟩:=ji (o':= .cells (l.set i (.aE false []))) hb he.rep fun lc ho=>by
  cases lc with
  |row=>exact ho.elim
  |box bb=>
   obtain⟨arr,e,g1,g2,g3⟩:=ho
   exact⟨arr,e,g1,mH (fun v hv=>Oz hv) hi g2,g3⟩
 have hsta:=dt (.cells (l.set i (.aE false []))) hb
 have hs:eh lo c st.look w c (st.put b (.cells (l.set i (.aE false [])))).look w:=h8.c he.low
 have ht:=hsta.c he.low
 exact h ⟨h7,he.wf.eP hsta,he.wW,he.fr,he.Ep,he.base,TR he.low hsta.next,by rw[hsta.mark];exact he.mark⟩ hr fun x fr' st' D' c2 a' w' g1 g2 g3 g4 g5=>hq x fr' st' D' c2 a' w' g1 g2 (hs.trans g3) (ht.trans g4) g5
theorem iZ {P:Program} {lo:Nat} {z:Code} {n:Nat} {t:List (Nat×SVal)} {heap:Hp} {next:Nat} {K:Ex->Fr->St->Prop} {l:List SVal} (b i:Nat) (hb:bx heap b=some (.cells l)) (hi:l[i]? =some .ax)
  (h:eX P lo z ⟨n,t⟩ ⟨iW heap b (.cells (l.set i (.aE false []))),next,0,[],[]⟩ K):eX P lo z ⟨n,t⟩ ⟨heap,next,0,[],[]⟩ K:=by
 obtain⟨x,fr',st',h1,h2⟩:=h.out
 exact⟨x,fr',st',fun Φ hΦ=>W.lstB (st:=⟨heap,next,0,[],[]⟩) hb hi (h1 Φ hΦ),h2⟩
theorem W.rowT {P:Program} {lo:Nat} {z:Code} {fr:Fr} {st:St} {Φ:Ex->Fr->St->Prop} {b m s:Nat} {rows:List (List SVal)} (hb:st.look b=some (.row m rows s false))
  (h:W P lo z fr (st.put b (.row m rows s true)) Φ):W P lo z fr st Φ:=by
 intro ro B D c w a he hr Q hq
 obtain⟨h7,h8⟩:=ji (o':= .row m rows s true) hb he.rep fun lc ho=>by
  cases lc with
  |box=>exact ho.elim
  |row ob st' sz u=>
   obtain⟨g1,g2,g3⟩:=ho
   refine⟨g1,g2,?_⟩
   cases ob with
   |none=>exact g3
   |some bb=>
    obtain⟨arr,e,cap,h⟩:=g3
    exact⟨arr,e,cap,h.val,h.cells,h.size,h.fits,h.elems,fun i v hv=>absurd (h.fz i v hv).1 (by decide)⟩
 have hsta:=dt (.row m rows s true) hb
 have hs:eh lo c st.look w c (st.put b (.row m rows s true)).look w:=h8.c he.low
 have ht:=hsta.c he.low
 exact h ⟨h7,he.wf.eP hsta,he.wW,he.fr,he.Ep,he.base,TR he.low hsta.next,by rw[hsta.mark];exact he.mark⟩ hr fun x fr' st' D' c2 a' w' g1 g2 g3 g4 g5=>hq x fr' st' D' c2 a' w' g1 g2 (hs.trans g3) (ht.trans g4) g5
theorem IC {P:Program} {lo:Nat} {z:Code} {n:Nat} {t:List (Nat×SVal)} {heap:Hp} {next:Nat} {K:Ex->Fr->St->Prop} {m s:Nat} {rows:List (List SVal)} (b:Nat) (hb:bx heap b=some (.row m rows s false))
  (h:eX P lo z ⟨n,t⟩ ⟨iW heap b (.row m rows s true),next,0,[],[]⟩ K):eX P lo z ⟨n,t⟩ ⟨heap,next,0,[],[]⟩ K:=by
 obtain⟨x,fr',st',h1,h2⟩:=h.out
 exact⟨x,fr',st',fun Φ hΦ=>W.rowT (st:=⟨heap,next,0,[],[]⟩) hb (h1 Φ hΦ),h2⟩
noncomputable def EI (c:Code):Option (List Tmp×Code×Code):=
 Code.rec (motive:=fun _=>Option (List Tmp×Code×Code)) none (fun _ _ _=>none) (fun _ _ a b=>Option.rec b some a) (fun _ _ _ a b=>Option.rec b some a) (fun _ _ a=>a) (fun _ a=>a) (fun _ ps x y _ _=>some (ps.toList,x,y)) (fun _=>none)
  (fun _ a=>a) (fun _=>none) (fun _=>none) none (fun _=>none) c
noncomputable def ng (fn:Func):List Tmp×Code×Code:=match fn with
 |{body:=some b,.. }=>(EI b).getD ([],.skip,.skip)
 |_=>([],.skip,.skip)
section
variable {σ:Nat->Nat} {m:Nat} (hσ:∀k,k<m->σ k=k)
include hσ
mutual
theorem nc:∀s:SVal,nb m s=true->dp σ s=s
 | .bool _,_=>rfl
 | .int _ _,_=>rfl
 | .str _,_=>rfl
 | .nilPtr,_=>rfl
 | .ax,_=>rfl
 | .eA,_=>rfl
 | .fT,_=>rfl
 | .nilIface,_=>rfl
 | .ptr k off,h=>by rw[dp,hσ k (TF h)]
 | .fq k s i off,h=>by rw[dp,hσ k (TF h)]
 | .own k s,h=>by rw[dp,hσ k (TF h)]
 | .map k,h=>by rw[dp,hσ k (TF h)]
 | .bN row off,h=>by rw[dp,eS row h]
 | .aE f rows,h=>by rw[dp,tY rows h]
 | .func fn x y,h=>by
  rw[nb,Tw,Tw] at h
  rw[dp,eS x h.1.2,eS y h.2]
  cases fn<;>first|rfl|(have:=h.1.1;rw[wP,hσ _ (TF this)])
 | .iface t v,h=>by rw[dp,nc v h]
 | .agg l,h=>by rw[dp,eS l h]
 | .dT l,h=>by rw[dp,eS l h]
theorem eS:∀l:List SVal,cY m l=true->cx σ l=l
 |[],_=>rfl
 |s::r,h=>by
  rw[cY,Tw] at h
  rw[cx,nc s h.1,eS r h.2]
theorem tY:∀l:List (List SVal),jC m l=true->lL σ l=l
 |[],_=>rfl
 |s::r,h=>by
  rw[jC,Tw] at h
  rw[lL,eS s h.1,tY r h.2]
end
theorem BI:∀l:List (SVal×SVal),Qx m l=true->ue σ l=l
 |[],_=>rfl
 |p::r,h=>by
  rw[Qx,Tw,Tw] at h
  rw[ue,nc hσ p.1 h.1.1,nc hσ p.2 h.1.2,BI r h.2]
theorem BF:∀l:List (Nat×SVal),lG m l=true->wO σ l=l
 |[],_=>rfl
 |p::r,h=>by
  rw[lG,Tw] at h
  rw[wO,nc hσ p.2 h.1,BF r h.2]
theorem BH:∀{o:bm},gK m o=true->ft σ o=o
 | .cells l,h=>Ub bm.cells (eS hσ l h)
 | .still l,h=>Ub bm.still (eS hσ l h)
 | .row m rows s y,h=>Ub (fun r=>bm.row m r s y) (tY hσ rows h)
 | .map es,h=>Ub bm.map (BI hσ es h)
 | .lR g l,h=>Ub (bm.lR g) (eS hσ l h)
 | .loop r,h=>by
  show bm.loop ⟨⟨r.fr.n,wO σ r.fr.t⟩,_,_,_,_,_⟩=_
  rw[BF hσ _ h]
end
noncomputable def BN:Nat->List bm->St->St
 |i,o::os,st=>BN (i+1) os (st.put i o)
 |_,[],st=>st
noncomputable def oO:Nat->List bm->St->(St->Prop)->Prop
 |i,o::os,st,K=>hJ st i o fun st'=>oO (i+1) os st' K
 |_,[],st,K=>K st
theorem qU:∀{os:List bm} {i:Nat} {st:St} {K:St->Prop},oO i os st K->K (BN i os st)
 |[],i,st,K,h=>by unfold oO at h;exact h
 |o::os,i,st,K,h=>by
  unfold oO at h
  have g:oO (i+1) os (st.put i o) K:=du h
  show K (BN (i+1) os (st.put i o))
  exact qU g
theorem uh {σ:Nat->Nat}:∀{os:List bm} {i:Nat} {st:St},(∀o∈os,ft σ o=o)->gZ σ (List.range' i os.length) os st=BN i os st
 |[],i,st,_=>rfl
 |o::os,i,st,h=>by
  show gZ σ (List.range' (i+1) os.length) os (st.put i (ft σ o))=_
  rw[h o (Tn ..),uh fun x hx=>h x (Tm _ hx)]
  rfl
def uF (st:St):Nat->List bm->Prop
 |i,o::os=>st.look i=some o/\uF st (i+1) os
 |_,[]=>True
theorem xQ {st:St}:∀{os:List bm} {i:Nat},uF st i os->∀(j:Nat) (o:bm),os[j]? =some o->st.look (i+j)=some o
 |[],_,_,j,o,h=>by simp at h
 |o::os,i,⟨h1,h2⟩,0,x,h=>by simp at h;subst h;exact h1
 |o::os,i,⟨h1,h2⟩,j+1,x,h=>by
  have:=xQ h2 j x (by simpa using h)
  rw[show i+(j+1)=i+1+j by omega]
  exact this
theorem xJ {P:Program} {f:FuncId} {objs objs':List bm} {args:List SVal} {s:SVal} (h:wh P f objs args s objs') {big:St} (hl:uF big 0 objs):gX P f args big s (BN 0 objs' big):=by
 have hσ:∀k,k<objs.length->(List.range objs.length).getD k 0=k:=fun k hk=>by simp[List.getD,hk]
 have hc:=uA h (big:=big) (ks:=List.range objs.length) (σ:=fun i=>(List.range objs.length).getD i 0) (fun _=>rfl) (by simp) VU fun i k o h1 h2=>by
  have hi:i<objs.length:=(Tk.1 h2).1
  rw[BH hσ (h.po o (Ts h2)).2]
  have:=xQ hl i o h2
  rw[Ue] at this
  simp[hi] at h1
  rw[<-h1];exact this
 have e:=uh (σ:=fun i=>(List.range objs.length).getD i 0) (os:=objs') (i:=0) (st:=big) fun o ho=>BH hσ (h.po' o ho).2
 rw[eS hσ _ h.na,nc hσ _ h.ns] at hc
 rw[<-List.range_eq_range',h.len] at e
 rw[<-e]
 exact hc
section
variable {P:Program} {E:Env}
structure S1 (next k:Nat) (x:Ex) (st3:St) (K:SVal->St->Prop):Prop where
 out:∃(r3:jz) (heap2:Hp) (next2:Nat),st3.look k=some (.loop r3)/\kO next ⟨heap2,next2,0,[],[]⟩ (st3.put k (.loop ⟨r3.fr,r3.ps,r3.assign,r3.body,Bool.rec 2 0 (dK x),js x⟩))/\l9 next2 heap2 heap2/\K (.bool (dK x)) ⟨heap2,next2,0,[],[]⟩
def bodK (next k:Nat) (K:SVal->St->Prop) (x:Ex) (_:Fr) (st:St):Prop:=S1 next k x st K
structure Tf (P:Program) (E:Env) (next k:Nat) (r:jz) (K:SVal->St->Prop) (fr1:Fr) (st1:St):Prop where
 out:st1.look k=some (.loop r)/\xC P E next r.body fr1 (st1.put k (.loop ⟨r.fr,r.ps,r.assign,r.body,1,r.lM⟩)) (bodK next k K)
def asgK (P:Program) (E:Env) (next k:Nat) (r:jz) (K:SVal->St->Prop) (x:Ex) (fr:Fr) (st:St):Prop:=match x with
 | .normal=>Tf P E next k r K fr st
 |_=>False
theorem tp (hE:bt P E) {k:Nat} {ss:List SVal} {heap:Hp} {next:Nat} {K:SVal->St->Prop} {r:jz} {fr:Fr} (hk:bx heap k=some (.loop r)) (h0:r.state=0) (hp:uj r.ps ss r.fr=some fr) (hh:l9 next heap heap) (ha:cY next ss=true)
  (h:xC P E next r.assign fr ⟨heap,next,0,[],[]⟩ (asgK P E next k r K)):M0 P k ss ⟨heap,next,0,[],[]⟩ K:=by
 obtain⟨x,fr1,st1,h1,h2⟩:=jG P E next hE h
 cases x with
 |exit j=>exact h2.elim
 |ret=>exact h2.elim
 |normal=>
  obtain⟨h3,h4⟩:=Tf.out h2
  obtain⟨y,fr2,st3,h5,h6⟩:=jG P E next hE h4
  obtain⟨r3,heap2,next2,g1,g2,g3,g4⟩:=S1.out h6
  have hsta:eJ ⟨heap,next,0,[],[]⟩ ⟨heap2,next2,0,[],[]⟩:={
   cB:=rfl
   mark:=rfl
   next:=g2.low
   log:=fun _ h=>h
   same:=fun k _ h2=>absurd h2 (Nat.not_lt_zero k)
   wf:=fun _ k hk=>by
    have hk:next2<=k:=hk
    show bx heap2 k=none
    cases hx:bx heap2 k with
    |none=>rfl
    |some o=>have:=(fx g3 k o hx).2.2;omega
   AO:=fun n hn=> .inl hn}
  refine⟨_,_,fun o d fop first cap ev ho hc hf hev=>HX ho hc hf hev hk h0 hp hsta (fun k o hk=>(fx hh k o hk).2.1) ha ?_,g4⟩
  exact h1 _ ⟨rfl,h3,h5 _ ⟨r3,g1,rfl,g2⟩⟩
theorem Fg {k:Nat} {next:Nat} {K:SVal->St->Prop} {r:jz} {fr1:Fr} {heap1:Hp} {next1:Nat} (hk:bx heap1 k=some (.loop r))
  (h:xC P E next r.body fr1 ⟨iW heap1 k (.loop ⟨r.fr,r.ps,r.assign,r.body,1,r.lM⟩),next1,0,[],[]⟩ (bodK next k K)):Tf P E next k r K fr1 ⟨heap1,next1,0,[],[]⟩:=⟨hk,h⟩
theorem sL {k next:Nat} {x:Ex} {K:SVal->St->Prop} {heap3:Hp} {next3:Nat} (r3:jz) (hk:bx heap3 k=some (.loop r3)) (hn:next<=next3)
  (hh:l9 next3 (iW heap3 k (.loop ⟨r3.fr,r3.ps,r3.assign,r3.body,Bool.rec 2 0 (dK x),js x⟩)) (iW heap3 k (.loop ⟨r3.fr,r3.ps,r3.assign,r3.body,Bool.rec 2 0 (dK x),js x⟩)))
  (kk:K (.bool (dK x)) ⟨iW heap3 k (.loop ⟨r3.fr,r3.ps,r3.assign,r3.body,Bool.rec 2 0 (dK x),js x⟩),next3,0,[],[]⟩):S1 next k x ⟨heap3,next3,0,[],[]⟩ K:=
 ⟨r3,_,next3,hk,⟨Tp _,hn,rfl,rfl,rfl,(fun k hk=>by cases hk),fx hh,fun _ _=>rfl⟩,hh,kk⟩
def Rs (k:Nat) (fr:Fr) (K:Ex->Fr->St->Prop) (st:St):Prop:=
 ∃rc ex,st.look k=some (.loop rc)/\rc.state≠1/\Lp rc.lM=some ex/\K ex fr (st.drop k)
noncomputable def R8:List SVal->St->(List SVal->St->Prop)->Prop
 |[],st,K=>K [] st
 |s::r,st,K=>match s with
  | .ptr k off=>R8 r st fun r' st'=>K (.ptr k off::r') st'
  | .func f x y=>R8 r st fun r' st'=>K (.func f x y::r') st'
  |s=>wV s st fun s' st'=>R8 r st' fun r' st''=>K (s'::r') st''
theorem Aa:∀{l:List SVal} {st:St} {K:List SVal->St->Prop},R8 l st K->∃l' st',iN st l l' st'/\K l' st'
 |[],st,K,h=>⟨[],st,.nil,by unfold R8 at h;exact h⟩
 |s::r,st,K,h=>by
  unfold R8 at h
  split at h
  ·obtain⟨l',st',h1,h2⟩:=Aa h
   exact⟨_,_,.same h1,h2⟩
  ·obtain⟨l',st',h1,h2⟩:=Aa h
   exact⟨_,_,.same h1,h2⟩
  ·obtain⟨s',st1,h1,h2⟩:=LO h
   obtain⟨l',st',h3,h4⟩:=Aa h2
   exact⟨_,_,iN.app h1 h3,h4⟩
noncomputable def xMh (P:Program) (E:Env) (fn:Func) (heap:Hp) (m:Nat) (args:List SVal) (Ψ:SVal->List bm->Prop):Prop:=match fn with
 |{ntmps:=n,results:=rs,body:=some b,.. }=>yes (Nat.ble args.length n)<|cC (vV 0 args) fun t=>xC P E m b ⟨n,t⟩ ⟨heap,m,0,[],[]⟩ (EJ E m rs.toList Ψ)
 |_=>False
theorem mC (hE:bt P E) {f:FuncId} {fn:Func} (hf:E.funcs.get f=some fn) {objs:List bm} {args:List SVal} {Ψ:SVal->List bm->Prop} (heap:Hp) (m:Nat) (hh:sG 0 objs=heap) (hl:objs.length=m) (hp:kX m objs) (hn:cY m args=true) (h:xMh P E fn heap m args Ψ):wi P f objs args Ψ:=by
 subst hh hl
 exact s7 P E hE hf hp hn h
theorem jx {f:FuncId} {objs:List bm} {args' args:List SVal} {Ψ:SVal->List bm->Prop} {st:St} {K:SVal->St->Prop} (h:wi P f objs args' Ψ)
  (k:R8 args st fun l st1=>l=args'/\uF st1 0 objs/\∀s objs',Ψ s objs'->oO 0 objs' st1 (K s)):eL P f args st K:=by
 obtain⟨s,objs',h1,h2⟩:=h
 obtain⟨l',st1,f1,rfl,hl,kk⟩:=Aa k
 exact⟨_,_,fun _ _ _ _ _ _ _ ho hc' hf hev he=>qR ho hc' hf hev (by rw[he];exact f1) (xJ h1 hl),qU (kk s objs' h2)⟩
theorem rV {lo:Nat} {g:Operand} {ps:Array Tmp} {x y:Code} {n:Nat} {t t1:List (Nat×SVal)} {heap:Hp} {next:Nat} {K:Ex->Fr->St->Prop} {f:FuncId} {first cap:List SVal} {objs:List bm} {args':List SVal} {Ψ:SVal->List bm->Prop}
  (h:wi P f objs args' Ψ) (hf1:J3 next t t1) (hg:DE ⟨n,t⟩ g=some (.func (.func f) first cap)) (n1:jM x=true) (n2:jM y=true) (ha:cG (first++([SVal.func (.yield next) [] []]++cap))=args')
  (hl:uF ⟨(next,.loop ⟨⟨n,t1⟩,ps.toList,x,y,0,none⟩)::heap,next+1,0,[],[]⟩ 0 objs)
  (k:∀s objs',Ψ s objs'->oO 0 objs' ⟨(next,.loop ⟨⟨n,t1⟩,ps.toList,x,y,0,none⟩)::heap,next+1,0,[],[]⟩ (Rs next ⟨n,t⟩ K)):wc P lo (.rangeFunc g ps x y) ⟨n,t⟩ ⟨heap,next,0,[],[]⟩ K:=by
 obtain⟨s,objs',h1,h2⟩:=h
 have hc:=xJ h1 hl
 obtain⟨rc,ex,e1,e2,e3,e4⟩:=qU (k s objs' h2)
 refine⟨⟨ex,⟨n,t⟩,_,fun Φ hΦ=>W.range (st:=⟨heap,next,0,[],[]⟩) (fr:=⟨n,t⟩) (fr1:=⟨n,t1⟩) rfl (fun k s hs=>(sP hf1 k s hs).1) hg n1 n2 ⟨hc.body,hc.eP,fun hr hwf hfree vs hd=>hc.ok hr hwf hfree ?_⟩ e1 e2 e3 hΦ,e4⟩⟩
 rw[<-ha]
 exact gB _ _ hd
theorem rU {lo:Nat} {z:Code} {n:Nat} {t:List (Nat×SVal)} {heap:Hp} {next:Nat} {K:Ex->Fr->St->Prop} {l:List SVal} (k i m:Nat) (hk:bx heap k=some (.cells l)) (hi:l[i]? =some .ax)
  (h:wc P lo z ⟨n,t⟩ ⟨iW ((next,.row m [] 0 false)::heap) k (.cells (l.set i (.own next 0))),next+1,0,[],[]⟩ K):wc P lo z ⟨n,t⟩ ⟨heap,next,0,[],[]⟩ K:=by
 obtain⟨x,fr',st',h1,h2⟩:=h.out
 exact⟨x,fr',st',fun Φ hΦ=>W.Qy (st:=⟨heap,next,0,[],[]⟩) m hk hi (h1 Φ hΦ),h2⟩
end
end Sv
namespace Sv
open Go Go.RowKit
structure Bx (Q:Prop):Prop where
 out:Q
theorem z {P Q:Prop} (k:Q) (h:Bx Q->P:=by
  intro h
  (try conv=>whnf)
  (repeat ((first|refine And.intro (And.intro ii ii) ?_|refine And.intro rfl ?_|refine OL ?_|refine OK ?_|refine RS ?_|rw[VM]|refine And.intro (lens1 rfl) ?_|refine And.intro (M6.ok (kf:=SVal.int IntKind.i64) _) (And.intro (EA (kf:=SVal.int IntKind.i64) _ _) ?_)|refine And.intro (M6.ok (kf:=SVal.str) _) (And.intro (EA (kf:=SVal.str) _ _) ?_)|refine And.intro (by first|omega|(simp only[Tr,T0];omega)|(simp only[Tr,TQ];omega)|(simp only[Tr,T0,Tu,TQ,Tt];omega)|(intro r hr;obtain⟨x,_,rfl⟩:=T4.1 hr;first|rfl|(rw[cP];rfl)|(rw[cW];rfl)|(rw[cK];rfl))) ?_);(try conv=>whnf)))
  exact h.out):P:=h ⟨k⟩
theorem zd {c p q p' q':Prop} [Decidable c] (k1:c->p') (k2:¬c->q') (h1:Bx p'->p:=by intro h;exact z h.out) (h2:Bx q'->q:=by intro h;exact z h.out): @Bool.rec (fun _=>Prop) q p (decide c):=aI (fun h=>h1 ⟨k1 h⟩) fun h=>h2 ⟨k2 h⟩
theorem zn {c p q p' q':Prop} [Decidable c] (k1:¬c->p') (k2:c->q') (h1:Bx p'->p:=by intro h;exact z h.out) (h2:Bx q'->q:=by intro h;exact z h.out): @Bool.rec (fun _=>Prop) q p (!decide c):=dU (fun h=>h1 ⟨k1 h⟩) fun h=>h2 ⟨k2 h⟩
theorem zr {b:Bool} {p q p' q':Prop} (k1:b=true->p') (k2:b=false->q') (h1:Bx p'->p:=by intro h;exact z h.out) (h2:Bx q'->q:=by intro h;exact z h.out): @Bool.rec (fun _=>Prop) q p b:=cX (fun h=>h1 ⟨k1 h⟩) fun h=>h2 ⟨k2 h⟩
theorem zm {b:Bool} {p q p' q':Prop} (k1:b=false->p') (k2:b=true->q') (h1:Bx p'->p:=by intro h;exact z h.out) (h2:Bx q'->q:=by intro h;exact z h.out): @Bool.rec (fun _=>Prop) q p (!b):=dk (fun h=>h1 ⟨k1 h⟩) fun h=>h2 ⟨k2 h⟩
section
variable {ι:Type} {P:Program} {E:Env} {lo:Nat}
theorem bk {F:ι->Fr} {S:ι->St} {m:ι->Nat} {i:ι} {fr:Fr} {st:St} (j:ι)
  (k:Fits lo fr st (F j) (S j):=by
   refine QF ?_ ?_ ?_ ?_ ?_<;>(repeat' first|exact trivial|exact rfl|exact cE _ _ _|exact c7 _ _ _|exact q8 _ _|exact nr (fun _=>rfl) _|exact TS rfl|refine And.intro ?_ ?_|(simp only[nb,cY,gK,lG,jC,aA,aW,cE,c7,dE,Tq,TU,TZ];done)|(simp only[nb,cY,gK,lG,jC,aA,aW,cE,c7,dE,Tq,TU,TZ,bo _ _ hc];done)|(simp[nb,cY,gK,lG,jC,aA,aW,cE,c7,dE,Tq,TU,TZ];done)|omega))
  (h:m j<m i:=by(dsimp only;omega)):qH P lo F S m i fr st:=P2 j h k
theorem lg {α:Type} (hE:bt P E) {z:Code} {fr:Fr} {st:St} {K:Ex->Fr->St->Prop} (G:α->Prop×Fr×St×Nat) (i:{x//(G x).1}) (h:∀x (hx:(G x).1),xC P E lo z (G x).2.1 (G x).2.2.1 (Lb P lo (fun i:{x//(G x).1}=>(G i.1).2.1) (fun i=>(G i.1).2.2.1) (fun i=>(G i.1).2.2.2) ⟨x,hx⟩ K))
  (h0:Fits lo fr st (G i.1).2.1 (G i.1).2.2.1:=by
   refine QF ?_ ?_ ?_ ?_ ?_<;>(repeat' first|exact trivial|exact rfl|exact cE _ _ _|exact c7 _ _ _|exact q8 _ _|exact nr (fun _=>rfl) _|exact TS rfl|refine And.intro ?_ ?_|(simp only[nb,cY,gK,lG,jC,aA,aW,cE,c7,dE,Tq,TU,TZ];done)|(simp only[nb,cY,gK,lG,jC,aA,aW,cE,c7,dE,Tq,TU,TZ,bo _ _ hc];done)|(simp[nb,cY,gK,lG,jC,aA,aW,cE,c7,dE,Tq,TU,TZ];done)|omega)):eX P lo z fr st K:=OI hE (fun i:{x//(G x).1}=>(G i.1).2.1) (fun i=>(G i.1).2.2.1) (fun i=>(G i.1).2.2.2) i h0 fun i=>h i.1 i.2
end
section
variable {next mark:Nat} {log:List Nat} {cB:List (Nat×Nat)} {ss l:List SVal} {heap heap0:Hp} {next1:Nat}
variable [lV]
theorem ed {K:List SVal->St->Prop} (k:K ss ⟨heap,next1,mark,log,cB⟩) (hn:next<=next1:=by omega)
  (hh:l9 next1 heap heap:=by
   (repeat' first|exact trivial|exact rfl|exact cE _ _ _|exact c7 _ _ _|exact q8 _ _|exact nr (fun _=>rfl) _|exact TS rfl|refine And.intro ?_ ?_|(simp only[nb,cY,gK,lG,jC,aA,aW,cE,c7,dE,Tq,TU,TZ];done)|(simp only[nb,cY,gK,lG,jC,aA,aW,cE,c7,dE,Tq,TU,TZ,bo _ _ hc];done)|(simp[nb,cY,gK,lG,jC,aA,aW,cE,c7,dE,Tq,TU,TZ];done)|omega))
  (hs:Bz heap0 heap log next:=by(repeat' first|exact trivial|exact Or.inl rfl|exact Or.inr (by decide)|refine And.intro ?_ ?_)) (hb:cB.all (fun p=>Nat.ble p.2 next1)=true:=by rfl) (hl:HF mark cB log=true:=by rfl) (hv:cY next1 ss=true:=by rfl):Qk heap0 next mark cB ss ⟨heap,next1,mark,log,cB⟩ K:=LZ hn hh hs hb hl hv k
theorem ei {K:List SVal->St->Prop} (k:K ss ⟨heap,next1,0,[],[]⟩) (hn:next<=next1:=by omega)
  (hh:l9 next1 heap heap:=by
   (repeat' first|exact trivial|exact rfl|exact cE _ _ _|exact c7 _ _ _|exact q8 _ _|exact nr (fun _=>rfl) _|exact TS rfl|refine And.intro ?_ ?_|(simp only[nb,cY,gK,lG,jC,aA,aW,cE,c7,dE,Tq,TU,TZ];done)|(simp only[nb,cY,gK,lG,jC,aA,aW,cE,c7,dE,Tq,TU,TZ,bo _ _ hc];done)|(simp[nb,cY,gK,lG,jC,aA,aW,cE,c7,dE,Tq,TU,TZ];done)|omega))
  (hs:cY next1 ss=true:=by rfl):Qj next ss ⟨heap,next1,0,[],[]⟩ K:=Ph hn hh hs k
theorem mt {K:List SVal->List bm->Prop} (hs:bx heap 0=some aX:=by rfl) (hx:1<=next:=by first|omega|exact TS rfl)
  (hc:aw l=true:=by first|rfl|simp only[bE,aw,closed,aG,dx,cr,cj,tc,eo,bK,b6,eC,cl,Tq])
  (k:K l [aX]:=by first|exact⟨rfl,rfl,rfl⟩|exact⟨by simp only[bE,aw,closed,aG,dx,cr,cj,tc,eo,bK,b6,eC,cl,Tq],rfl,rfl⟩):km 1 l ⟨heap,next,0,[],[]⟩ K:=BX hs hx hc k
theorem mst {K:List SVal->List bm->Prop} (hs:bx heap 0=some aX:=by rfl) (hx:1<=next:=by omega)
  (hc:aw l=true:=by first|rfl|simp only[bE,aw,closed,aG,dx,cr,cj,tc,eo,bK,b6,eC,cl,Tq])
  (k:K l [aX]:=by first|exact⟨rfl,rfl,rfl⟩|exact⟨by simp only[bE,aw,closed,aG,dx,cr,cj,tc,eo,bK,b6,eC,cl,Tq],rfl,rfl⟩):Jq 1 l ⟨heap,next,0,[],[]⟩ K:=cZ (BX hs hx hc k)
end
section
variable {P:Program} {E:Env} {f:FuncId} {fn:Func} {args:List SVal}
theorem hs {Ψ:SVal->Prop} (hE:bt P E) (fn:Func) (h:xF P E fn args Ψ) (hf:E.funcs.get f=some fn:=by rfl)
  (hc:aw args=true:=by first|rfl|(simp only[aw,closed,aG,bK,b6,eC,cl,dx,Tq];done)|(simp only[aw,closed,aG,bK,b6,eC,cl,dx,hc,Tq];done)|(simp only[aw,closed,aG,cM,bK,b6,eC,cl,dx,Tq];done)|simp only[aw,closed,aG,cM,bK,b6,eC,cl,dx,hc,Tq]):Has P f args Ψ:=R3 _ _ hE hf hc h
variable [lV]
theorem ht {Ψ:SVal->Prop} (hE:bt P E) (fn:Func) (h:xT P E fn args fun s o=>closed s=true/\o=[aX]/\Ψ s) (hf:E.funcs.get f=some fn:=by rfl)
  (hc:aw args=true:=by first|rfl|(simp only[aw,closed,aG,bK,b6,eC,cl,dx,Tq];done)|(simp only[aw,closed,aG,bK,b6,eC,cl,dx,hc,Tq];done)|(simp only[aw,closed,aG,cM,bK,b6,eC,cl,dx,Tq];done)|simp only[aw,closed,aG,cM,bK,b6,eC,cl,dx,hc,Tq]):bj P f args Ψ:=O2 hE hf hc h
end
section
variable {P:Program} {E:Env} {f:FuncId} {args:List SVal} {heap:Hp} {next mark:Nat}
theorem ci {K:SVal->St->Prop} (hE:bt P E) (fn:Func) (h:xI P E fn args heap next K) (hf:E.funcs.get f=some fn:=by rfl)
  (hh:l9 next heap heap:=by
   (repeat' first|exact trivial|exact rfl|exact cE _ _ _|exact c7 _ _ _|exact q8 _ _|exact nr (fun _=>rfl) _|exact TS rfl|refine And.intro ?_ ?_|(simp only[nb,cY,gK,lG,jC,aA,aW,cE,c7,dE,Tq,TU,TZ];done)|(simp only[nb,cY,gK,lG,jC,aA,aW,cE,c7,dE,Tq,TU,TZ,bo _ _ hc];done)|(simp[nb,cY,gK,lG,jC,aA,aW,cE,c7,dE,Tq,TU,TZ];done)|omega))
  (ha:cY next args=true:=by first|rfl|(simp only[nb,cY,gK,lG,jC,aA,aW,cE,c7,dE,Tq,TU,TZ];done)|simp[nb,cY,gK,lG,jC,aA,aW,cE,c7,dE,bo _ _ hc]):eL P f args ⟨heap,next,0,[],[]⟩ K:=PT hE fn hf hh ha h
variable [lV]
theorem cd {cB:List (Nat×Nat)} {K:SVal->St->Prop} (hE:bt P E) (fn:Func) (h:xD P E fn args heap next mark cB K) (hf:E.funcs.get f=some fn:=by rfl)
  (hh:l9 next heap heap:=by
   (repeat' first|exact trivial|exact rfl|exact cE _ _ _|exact c7 _ _ _|exact q8 _ _|exact nr (fun _=>rfl) _|exact TS rfl|refine And.intro ?_ ?_|(simp only[nb,cY,gK,lG,jC,aA,aW,cE,c7,dE,Tq,TU,TZ];done)|(simp only[nb,cY,gK,lG,jC,aA,aW,cE,c7,dE,Tq,TU,TZ,bo _ _ hc];done)|(simp[nb,cY,gK,lG,jC,aA,aW,cE,c7,dE,Tq,TU,TZ];done)|omega))
  (ha:cY next args=true:=by first|rfl|(simp only[nb,cY,gK,lG,jC,aA,aW,cE,c7,dE,Tq,TU,TZ];done)|simp[nb,cY,gK,lG,jC,aA,aW,cE,c7,dE,bo _ _ hc]):eL P f args ⟨heap,next,mark,[],cB⟩ K:=MC hE fn hf hh ha h
theorem ct {v:SVal} {args':List SVal} {st:St} {K:SVal->St->Prop} (h:bj P f args' fun s=>s=v) (k:K v st) (ha:cG args=args':=by rfl) (hl:st.look 0=some aX:=by rfl):eL P f args st K:=jd h ha hl k
theorem ce {v:SVal} {args':List SVal} {st:St} {K:SVal->St->Prop} (h:Has P f args' fun s=>s=v) (k:K v st) (ha:cG args=args':=by rfl):eL P f args st K:=kK h ha k
theorem fc {l:List SVal} {st:St} {K:List SVal->Prop} (h:aw l=true:=by first|rfl|simp only[bE,aw,closed,aG,dx,cr,cj,tc,eo,bK,b6,eC,cl,Tq]) (k:K l:=by rfl):FzR l st K:=nI h k
theorem e2 {K:Prop} {l:List SVal} (h:aw l=true:=by simp only[bE,aw,closed,aG,dx,cr,cj,tc,eo,bK,b6,eC,cl,Tq]) (k:K:=by rfl):aw l=true/\K:=⟨h,k⟩
theorem dg (hE:bt P E) {lo id:Nat} {ops:Array Oper} {fr:Fr} {st:St} {K:Fr->St->Prop} (before:List Nat) (sup:List fk) (h:AT P E before sup ops.toList ops.toList 0 fr st [] fun fr st acc=>gM before sup acc=true/\K fr st) (hb:(Region.before ops).toList=before:=by kernel_rfl) (hrel:Ia ops.toList fr.n=true:=by kernel_rfl):Ho P lo id ops fr st K:=Pk hE before sup hb hrel h
section
variable {l:List SVal} {heap:Hp} {next:Nat} {K:List SVal->List bm->Prop}
theorem mso {o':bm} (h0:bx heap 0=some aX:=by rfl) (h1:bx heap 1=some o':=by rfl) (hx:2<=next:=by omega) (hc:aw l=true:=by first|rfl|simp only[bE,aw,closed,aG,dx,cr,cj,tc,eo,bK,b6,eC,cl,Tq]) (ho:bE o'=true:=by first|rfl|simp only[bE,aw,closed,aG,dx,cr,cj,tc,eo,bK,b6,eC,cl,Tq])
  (k:K l [aX,o']:=by first|exact⟨rfl,_,rfl,rfl,rfl,rfl⟩|exact⟨by simp only[bE,aw,closed,aG,dx,cr,cj,tc,eo,bK,b6,eC,cl,Tq],_,rfl,by simp only[bE,aw,closed,aG,dx,cr,cj,tc,eo,bK,b6,eC,cl,Tq],rfl,rfl⟩):Jq 2 l ⟨heap,next,0,[],[]⟩ K:=cZ (K7 h0 h1 hx hc ho k)
theorem ml {t m:Nat} {rest:List SVal} {rows:List (List SVal)} (h0:bx heap 0=some aX:=by rfl) (h1:bx heap 1=some (.cells (.own 2 t::rest)):=by rfl) (h2:bx heap 2=some (.row m rows t false):=by rfl) (hx:3<=next:=by omega) (hc:aw l=true:=by first|rfl|simp only[bE,aw,closed,aG,dx,cr,cj,tc,eo,bK,b6,eC,cl,Tq]) (hr:aw rest=true:=by first|rfl|simp only[bE,aw,closed,aG,dx,cr,cj,tc,eo,bK,b6,eC,cl,Tq]) (ho:aG rows=true:=by first|rfl|simp only[bE,aw,closed,aG,dx,cr,cj,tc,eo,bK,b6,eC,cl,Tq])
  (k:K l (aX::lN m rest rows t):=by exact⟨by simp only[bE,aw,closed,aG,dx,cr,cj,tc,eo,bK,b6,eC,cl,Tq],_,_,rfl,by simp only[bE,aw,closed,aG,dx,cr,cj,tc,eo,bK,b6,eC,cl,Tq],rfl,rfl⟩):km 3 l ⟨heap,next,0,[],[]⟩ K:=BY h0 h1 h2 hx hc hr ho k
theorem msl {t m:Nat} {rest:List SVal} {rows:List (List SVal)} (h0:bx heap 0=some aX:=by rfl) (h1:bx heap 1=some (.cells (.own 2 t::rest)):=by rfl) (h2:bx heap 2=some (.row m rows t false):=by rfl) (hx:3<=next:=by omega) (hc:aw l=true:=by first|rfl|simp only[bE,aw,closed,aG,dx,cr,cj,tc,eo,bK,b6,eC,cl,Tq]) (hr:aw rest=true:=by first|rfl|simp only[bE,aw,closed,aG,dx,cr,cj,tc,eo,bK,b6,eC,cl,Tq]) (ho:aG rows=true:=by first|rfl|simp only[bE,aw,closed,aG,dx,cr,cj,tc,eo,bK,b6,eC,cl,Tq])
  (k:K l (aX::lN m rest rows t):=by exact⟨by simp only[bE,aw,closed,aG,dx,cr,cj,tc,eo,bK,b6,eC,cl,Tq],_,_,rfl,by simp only[bE,aw,closed,aG,dx,cr,cj,tc,eo,bK,b6,eC,cl,Tq],rfl,rfl⟩):Jq 3 l ⟨heap,next,0,[],[]⟩ K:=cZ (BY h0 h1 h2 hx hc hr ho k)
end
end
end Sv
