/- For ConcreteOnly and ConcreteBack: the data of a value, values below. -/
import Derived.Test.YtaagahmkmcnhaaaGreatDoorNe
import Derived.Test.YtaagahmkmcnhaaaGreatDoorMg
set_option linter.unusedVariables false
set_option linter.unusedSimpArgs false
set_option linter.unusedSectionVars false
namespace Go.Proofs.YtaagahmkmcnhaaaGreatDoor
open Sv
def S9 (a:List ba) (pre:List UInt8) (Q:List UInt8->Prop) (p:kP×Bool):Prop:=p.2=false/\∃u,p.1=[pre++u]/\Q u
theorem JM {a:List ba} {n:Nat} (h:Gd n a) (hn:n<1000000000) {tb:List (List Bool)} {k:Nat} (htb:tb[k]? =some (jB a k)) (hk:k<1000000000) {rec:M3} {pre:List UInt8} (hp:pre.length<1000000000) (hrec:∀(t:Int) (b:UInt8),0<=t->t<a.length->Lv a k t.toNat->bu (rec t (pre++[b]) []) (S9 a (pre++[b]) fun u=>ac a t.toNat u=true)):
  ∀{es:List Sv.Edge},(∀e∈es,EB e)->(∀e∈es,e.lo<=e.hi/\0<=e.to/\e.to<a.length)->(∃e∈es,Lv a k e.to.toNat)->bu (Jt rec tb ((k+1:Nat):Int) pre es []) (S9 a pre fun u=>∃e∈es,∃b u',u=b::u'/\e.lo=(b.toNat:Int)/\ac a e.to.toNat u'=true)
 |[],_,_,⟨e,he,_⟩=>by cases he
 |e::r,hb,hw,hex=>by
  obtain⟨b1,b2,b3,b4⟩:=hb e (Tn ..)
  obtain⟨w1,w2,w3⟩:=hw e (Tn ..)
  have htl:=(Tk.1 htb).1
  have hrow:(jB a k).length=a.length:=jh a k
  unfold Jt Nc
  refine ar ⟨b1,b2⟩ ?_
  rw[Tl]
  refine ar ⟨b3,b4⟩ ?_
  rw[Th w1,Tl]
  refine ar ⟨by omega,by omega⟩ ?_
  rw[Tl]
  refine a7 ii ii fun row hr _=> ?_
  rw[show(((k+1:Nat):Int)-1).toNat=k by omega,htb] at hr
  cases hr
  rw[Tl]
  refine a7 w2 ii fun ok hok _=> ?_
  cases ok with
  |true=>
   have hlv:Lv a k e.to.toNat:=(fR h.wf k _ ii).1 hok
   rw[Th rfl,Tl]
   refine ar ⟨b1,b2⟩ ?_
   rw[Tl]
   refine b7 hp ?_
   rw[Tl]
   refine au (hrec e.to _ w2 w3 hlv) fun p hp2=> ?_
   rw[Ti (by rw[hp2.1];decide)]
   obtain⟨u,u1,u2⟩:=hp2.2
   refine aj ⟨rfl,UInt8.ofNat e.lo.toNat::u,by rw[u1,TP];rfl,e,Tn ..,_,u,rfl,?_,u2⟩
   have h256:e.lo.toNat<256:=by omega
   have:(UInt8.ofNat e.lo.toNat).toNat=e.lo.toNat:=by
    rw[UQ]
    exact Nat.mod_eq_of_lt h256
   rw[this]
   omega
  |false=>
   rw[Ti (by decide)]
   refine(JM h hn htb hk hp hrec (es:=r) (fun e' h'=>hb e' (Tm _ h')) (fun e' h'=>hw e' (Tm _ h')) ?_).mono fun p hq=> ?_
   rotate_left
   ·obtain⟨q1,u,q2,e',q3,q4⟩:=hq
    exact⟨q1,u,q2,e',Tm _ q3,q4⟩
   obtain⟨e',h1,h2⟩:=hex
   rcases Tv.1 h1 with rfl|h1
   ·rw[(fR h.wf k _ ii).2 h2] at hok
    cases hok
   ·exact⟨e',h1,h2⟩
theorem JL {a:List ba} {n:Nat} (h:Gd n a) (hn:n<1000000000) {tb:List (List Bool)}:∀{k:Nat} {s:Int} {pre:List UInt8},(∀j,j<k->tb[j]? =some (jB a j))->k<1000000000->pre.length+k<1000000000->0<=s->s<a.length->Lv a k s.toNat->bu (DM a tb 1 k s pre []) (S9 a pre fun u=>ac a s.toNat u=true)
 |0,s,pre,_,_,hp,_,_,hlv=>by
  obtain⟨x,hx,hacc⟩:=hlv
  unfold DM wvY
  refine b7 (by simp) (ar (by simp) ?_)
  rw[Th (by simp)]
  refine aj ⟨rfl,[],by rw[TK];rfl,?_⟩
  show(match a[s.toNat]? with
   |some x=>x.acc
   |none=>false)=true
  rw[hx]
  exact hacc
 |k+1,s,pre,htb,hk,hp,hs0,OZ,hlv=>by
  unfold DM
  obtain⟨x,hx,e,he,_,hl⟩:=hlv
  refine a7 hs0 OZ fun x' hx' hm=> ?_
  rw[hx] at hx'
  cases hx'
  refine ar (by have:=h.row x hm;omega) ?_
  refine(JM h hn (htb k ii) ii ii (fun t b h1 h2 h3=> ?_) (h.eb x hm) (h.wf x hm).one ⟨e,he,hl⟩).mono fun p hq=> ?_
  ·exact JL h hn (tb:=tb) (k:=k) (s:=t) (pre:=pre++[b]) (fun j hj=>htb j ii) ii (by simp;omega) h1 h2 h3
  ·obtain⟨q1,u,q2,e',q3,b,u',rfl,q4,q5⟩:=hq
   refine⟨q1,_,q2,?_⟩
   have hwf:=(h.wf x hm)
   have hd:dl a s.toNat b.toNat=e'.to.toNat:=by
    unfold dl
    rw[hx]
    show(fZ (b.toNat:Int) x.aF a.length).toNat=_
    rw[qh hwf e' q3 ⟨by omega,by have:=(hwf.one e' q3).1;omega⟩]
   show ac a (dl a s.toNat b.toNat) u'=true
   rw[hd]
   exact q5
def NoA (a:List ba) (p:kP×Bool):Prop:=∃w,p.1=[w]/\ac a 0 w=true
theorem JP {a:List ba} {n:Nat} (h:Gd n a) (hn:n<400000000) {k m:Nat} (hkm:k<=m) (hm:m<a.length) {rec:Nat->List (List Bool)->kP->Option (kP×Bool)} (hmin:AN a m 0) (hrec:k<m->bu (rec (k+1) (wy a (k+1)) []) (NoA a)):bu (Qo rec a 1 k (wy a (k+1)) []) (NoA a):=by
 have hlen:=h.len
 have hrl:=jh a k
 have htl:(wy a (k+1)).length=k+1:=by simp
 unfold Qo
 refine a7 ii ii fun r hr _=> ?_
 rw[show((k:Int)).toNat=k by omega,l8 (k:=k+1) (j:=k) ii] at hr
 cases hr
 have hlv:=hmin.1
 have hnot:=hmin.2
 obtain⟨t,ht,_⟩:=mv hmin k hkm
 rw[CT ii (Ts ((fR h.wf k t ht.lt).2 ht)),HP,Th rfl]
 refine ar ii (ar ⟨by omega,by omega⟩ (ar ii ?_))
 have hlast:((wy a (k+1)).take (k+1)).drop k=[jB a k]:=by
  rw[UD ii,TN ii,TV ii]
  have:=l8 (a:=a) (k:=k+1) (j:=k) ii
  rw[Tj ii] at this
  injection this with this
  rw[this]
 rw[hlast]
 unfold Bj
 rw[Tl]
 refine a7 (TM _) (by simp) fun r hr _=> ?_
 cases hr
 rw[Tl]
 refine a7 (TM _) ii fun b hb _=> ?_
 cases b with
 |true=>
  have hlv:=(fR h.wf k 0 ii).1 hb
  have hkm':k=m:=by
   rcases TX k m with g|g
   ·exact absurd hlv (hnot k g)
   ·omega
  rw[Th rfl]
  refine au (JL h ii (k:=k) (s:=0) (pre:=[]) (fun j hj=>l8 ii) ii (by simp;omega) (TM _) ii hlv) fun p hp=> ?_
  rw[Ti (by rw[hp.1];decide)]
  obtain⟨_,w,h1,h2⟩:=hp
  exact aj ⟨w,h1,h2⟩
 |false=>
  rw[Ti (by decide),HP,Th rfl]
  rcases TX k m with g|g
  ·exact hrec g
  ·have hkm':k=m:=by omega
   subst hkm'
   have:=(fR h.wf k 0 ii).2 hlv
   rw[show(0:Int).toNat=0 from rfl,this] at hb
   cases hb
theorem JQ {a:List ba} {n:Nat} (h:Gd n a) (hn:n<400000000) {m:Nat} (hm:m<a.length) (hmin:AN a m 0):∀{f k:Nat},k<=m->m+1<=f+k->bu (FD a 1 f k (wy a (max k 1)) []) (NoA a)
 |0,k,h1,h2=>by omega
 |f+1,k,h1,h2=>by
  have hlen:=h.len
  unfold FD
  refine ar ii ?_
  rw[Th ii]
  have hrec:k<m->bu (FD a 1 f (k+1) (wy a (k+1)) []) (NoA a):=fun g=>by
   have:=JQ h hn hm hmin (f:=f) (k:=k+1) ii ii
   rwa [show max (k+1) 1=k+1 by omega] at this
  refine ak (fun hk=> ?_) fun hk=> ?_
  ·have hmax:max k 1=k:=by omega
   rw[hmax]
   have htl:(wy a k).length=k:=by simp
   refine ar ⟨by omega,by omega⟩ (a7 ii ii fun r hr _=> ?_)
   rw[show((k:Int)-1).toNat=k-1 by omega,l8 (show k-1<k by omega)] at hr
   cases hr
   refine au (C8 h ii (jh a _)) fun r' hr'=>b7 ii ?_
   have e:wy a k++[r']=wy a (k+1):=by
    unfold wy
    rw[List.range_succ,Un,hr']
    have:zy a (jB a (k-1))=jB a k:=by
     conv=>rhs;rw[show k=(k-1)+1 by omega]
     rfl
    rw[this]
    rfl
   rw[e]
   exact JP h hn h1 hm hmin hrec
  ·have hk0:k=0:=by omega
   subst hk0
   exact JP h hn h1 hm hmin hrec
theorem Hx {a:List ba} {n:Nat} (h:VL n a) (hn:n<400000000):bu (oE a 1) fun l=>∀w∈l,ac a 0 w=true:=by
 unfold oE tw
 rw[Ti (by decide),h.lQ,HP,HP]
 have ha:=h.gd
 have hl:=ha.len
 unfold wdM
 rw[Tl]
 refine ar ii ?_
 rw[Tl]
 refine au (y5 ii (r:=a) (i:=0) (l:=[]) rfl rfl) fun r hr=> ?_
 subst hr
 rcases Ui a.length with h0|h0
 ·unfold tC FD
  rw[Tl]
  refine ar ii ?_
  rw[Ti ii]
  exact aj fun w hw=>by cases hw
 ·obtain⟨k,hk⟩:=ha.live 0 h0
  obtain⟨m,hm⟩:=Gq hk
  have hml:=Gp hm
  refine au (JQ ha hn hml hm (f:=tC a 1) (k:=0) (TC _) (by
   unfold tC
   rw[Ti (by decide)]
   have:(1:Int).toNat=1:=rfl
   rw[this]
   omega)) fun p hp=>aj ?_
  obtain⟨w,hp,hw⟩:=hp
  intro x hx
  rw[hp] at hx
  rw[To.1 hx]
  exact hw
theorem Lg {n:Nat} {l:List ba} (h:VL n l) (hn:n<400000000) {q:List UInt8×Bool} (e:jn l=some q) (h2:q.2=true):ac l 0 q.1=true:=by
 obtain⟨ws,h3,h4⟩:=Hx h hn
 unfold jn at e
 rw[h3,HP] at e
 obtain⟨_,e⟩:=ah e
 by_cases g:(ws.length:Int)=0
 ·rw[Th g] at e
  cases e
  cases h2
 ·rw[Ti g] at e
  obtain⟨x,hx⟩:∃x,ws[0]? =some x:=⟨_,Tj ii⟩
  rw[oA hx] at e
  cases e
  exact h4 _ (Ts hx)
theorem FJ {u best:Int} {found:Bool} {p:Int×Bool} (e:take u best found=some p):p.1=u\/p.1=best/\found=true:=by
 unfold take at e
 cases found with
 |false=>cases e;exact .inl rfl
 |true=>
  rw[Th rfl] at e
  obtain⟨c,_,e⟩:=aa e
  cases c with
  |true=>cases e;exact .inl rfl
  |false=>cases e;exact .inr ⟨rfl,rfl⟩
theorem Gv:∀{l:List Sv.Span} {best:Int} {found:Bool} {p:Int×Bool},uQ l best found=some p->(p.1=best/\p.2=found)\/∃s∈l,∃n,nearest s 0=some n/\p.1=n*10000
 |[],best,found,p,e=>by cases e;exact .inl ⟨rfl,rfl⟩
 |y::r,best,found,p,e=>by
  unfold uQ at e
  obtain⟨n,h1,e⟩:=aa e
  obtain⟨_,e⟩:=ah e
  obtain⟨q,hq,e⟩:=aa e
  rcases Gv e with⟨g1,g2⟩|⟨s,s1,s2⟩
  ·rcases FJ hq with g|⟨g,g3⟩
   ·exact .inr ⟨y,Tn ..,n,h1,by omega⟩
   ·exact .inl ⟨by omega,by rw[g2,g3,pI hq]⟩
  ·exact .inr ⟨s,Tm _ s1,s2⟩
theorem Gu:∀{l:List Sv.Span} {best:Int} {found:Bool} {p:Int×Bool},uP l best found=some p->(p.1=best/\p.2=found)\/∃s∈l,nearest s 1=some p.1
 |[],best,found,p,e=>by cases e;exact .inl ⟨rfl,rfl⟩
 |y::r,best,found,p,e=>by
  unfold uP at e
  obtain⟨n,h1,e⟩:=aa e
  obtain⟨q,hq,e⟩:=aa e
  rcases Gu e with⟨g1,g2⟩|⟨s,s1,s2⟩
  ·rcases FJ hq with g|⟨g,g3⟩
   ·exact .inr ⟨y,Tn ..,by rw[h1,g1,g]⟩
   ·exact .inl ⟨by omega,by rw[g2,g3,pI hq]⟩
  ·exact .inr ⟨s,Tm _ s1,s2⟩
theorem Ey {n:cO} (h:CN n) {p:Int×Bool} (e:iC n=some p) (h2:p.2=true):NM n p.1:=by
 unfold iC at e
 obtain⟨x,h1,e⟩:=aa e
 rw[jm h h1] at e
 obtain⟨_,e⟩:=ah e
 obtain⟨q,h3,e⟩:=aa e
 obtain⟨_,e⟩:=ah e
 rcases Gu e with⟨g1,g2⟩|⟨s,s1,s2⟩
 ·rcases Gv h3 with⟨_,g4⟩|⟨s,s1,m,s2,s3⟩
  ·rw[g2,g4] at h2;cases h2
  ·have hr:=(h.i.eG s s1).2.2.1
   refine .inl ⟨by omega,s,s1,?_⟩
   have e1:p.1/10000=m:=by omega
   rw[e1]
   unfold nearest at s2
   by_cases k:s.lo>0
   ·rw[Th k] at s2;cases s2;exact⟨TM _,hr⟩
   ·rw[Ti k] at s2
    by_cases k1:s.hi<0
    ·rw[Th k1] at s2;cases s2;exact⟨hr,TM _⟩
    ·rw[Ti k1] at s2;cases s2;exact⟨by omega,by omega⟩
 ·obtain⟨_,_,hr,hl,hh⟩:=h.f.eG s s1
  have hl:s.lo % 10000≠0:=hl
  have hh:s.hi % 10000≠0:=hh
  unfold nearest at s2
  by_cases k:s.lo>0
  ·rw[Th k] at s2
   have s2:=TD s2
   exact .inr ⟨by show p.1 % 10000≠0;omega,s,s1,by omega,by omega⟩
  ·rw[Ti k] at s2
   by_cases k1:s.hi<0
   ·rw[Th k1] at s2
    have s2:=TD s2
    exact .inr ⟨by show p.1 % 10000≠0;omega,s,s1,by omega,by omega⟩
   ·rw[Ti k1] at s2
    have s2:=TD s2
    exact .inr ⟨by show p.1 % 10000≠0;omega,s,s1,by omega,by omega⟩
theorem Bk {n:Nat} (hn:n<=15) {d:aO} (hd:ko n d) (hk:d.c.kind<=4) {one:bX} (h1:AP d=some (one,0)) (h2:Qg 81 one):gT one=some (d,true):=by
 have hchk:lU d=some 0:=pb hd ii ii ii
 have hdk:=hd.c.k
 obtain⟨q1,q2,q3,q4⟩:=kT hd.c hk
 have hself:dA one one=some true:=by
  obtain⟨s,s1,s2⟩:=eO (k:=1) (m:=1) (n:=81) ii ii h2.v h2.v
  rw[s1,s2.2 fun e he=>he]
 have fin:jY one=some (d,true)->gT one=some (d,true):=fun h=>by
  unfold gT
  rw[h,HP,Th rfl]
  show((AP d).bind _)=_
  rw[h1,HP]
  show((dA one one).bind _)=_
  rw[hself,HP,Th rfl]
 have hdat:∀{k n:Int} {s:List UInt8},d.c.kind=k->d.c.num=n->d.c.str=s->nY k n s=d:=fun{k n s} a b c=>o9 (lr a.symm b.symm c.symm q1.symm q2.symm)
 obtain⟨e,he⟩:=h2.ex
 have hex:=kY (n:=80) ii hchk ⟨hdk.1,hk⟩ hd.c.str h1 (x:=e) he
 obtain⟨pn,hpn⟩:∃p,iC ⟨one.ints,one.bz⟩=some p:=by
  obtain⟨p,hp,_⟩:=uM (k:=1) ii (s:=⟨one.ints,one.bz⟩) ⟨h2.v.sb.i,h2.v.sb.f⟩
  exact⟨p,hp⟩
 obtain⟨pl,hpl,_,hpl2⟩:=B7 h2.v.vl ii
 have hpn2:=uN h2.v.cn hpn
 have hnone:∀{P:Prop} {x:cJ aO},kD one x->x.kind≠d.c.kind->P:=fun{P x} hx hne=>(hne (kY (n:=80) ii hchk ⟨hdk.1,hk⟩ hd.c.str h1 hx).1).elim
 refine fin ?_
 unfold jY
 rw[h2.v.lQ ii,HP,hpn,HP,hpl,HP]
 cases b1:one.null with
 |true=>
  have hx:=kY (n:=80) ii hchk ⟨hdk.1,hk⟩ hd.c.str h1 (x:=⟨1,0,[],[],[]⟩) (.inl ⟨rfl,b1⟩)
  have hx1:(1:Int)=d.c.kind:=hx.1
  rw[Th rfl,hdat hx1.symm (q4 ii ii) (q3 ii)]
 |false=>
  rw[Ti nf]
  cases b2:one.py with
  |true=>
   have hx:=kY (n:=80) ii hchk ⟨hdk.1,hk⟩ hd.c.str h1 (x:=⟨2,0,[],[],[]⟩) (.inr (.inl ⟨rfl,rfl,b2⟩))
   have hx1:(2:Int)=d.c.kind:=hx.1
   have hx2:(0:Int)=d.c.num:=hx.2.1 rfl
   rw[Th rfl,hdat hx1.symm hx2.symm (q3 ii)]
  |false=>
   rw[Ti nf]
   cases b3:one.px with
   |true=>
    have hx:=kY (n:=80) ii hchk ⟨hdk.1,hk⟩ hd.c.str h1 (x:=⟨2,1,[],[],[]⟩) (.inr (.inr (.inl ⟨rfl,rfl,b3⟩)))
    have hx1:(2:Int)=d.c.kind:=hx.1
    have hx2:(1:Int)=d.c.num:=hx.2.1 rfl
    rw[Th rfl,hdat hx1.symm hx2.symm (q3 ii)]
   |false=>
    rw[Ti nf]
    cases b4:pn.2 with
    |true=>
     have hm:=Ey h2.v.cn hpn b4
     have hx:=kY (n:=80) ii hchk ⟨hdk.1,hk⟩ hd.c.str h1 (x:=⟨3,pn.1,[],[],[]⟩) (.inr (.inr (.inr (.inl ⟨rfl,hm⟩))))
     have hx1:(3:Int)=d.c.kind:=hx.1
     have hx2:pn.1=d.c.num:=hx.2.2.1 rfl
     rw[Th rfl,hdat hx1.symm hx2.symm (q3 ii)]
    |false=>
     rw[Ti nf]
     cases b5:pl.2 with
     |true=>
      have hm:=Lg h2.v.vl ii hpl b5
      have hx:=kY (n:=80) ii hchk ⟨hdk.1,hk⟩ hd.c.str h1 (x:=⟨4,0,pl.1,[],[]⟩) (.inr (.inr (.inr (.inr ⟨rfl,hm⟩))))
      have hx1:(4:Int)=d.c.kind:=hx.1
      have hx2:pl.1=d.c.str:=hx.2.2.2 rfl
      rw[Th rfl,hdat hx1.symm (q4 ii ii) hx2.symm]
     |false=>
      exfalso
      rcases he with g|g|g|⟨_,g⟩|⟨_,g⟩
      ·rw[b1] at g;cases g.2
      ·rw[b2] at g;cases g.2.2
      ·rw[b3] at g;cases g.2.2
      ·have:=hpn2.2 ⟨_,g⟩;rw[b4] at this;cases this
      ·have:=hpl2.2 ⟨_,g⟩;rw[b5] at this;cases this
theorem xf:gT bw=some (nY 0 0 [],false):=by kernel_rfl
theorem AS:iE bw=some true:=by kernel_rfl
theorem FG {rec:qE} {path:List pz} (hp:path.length<=1000) {R:aO->Va->Prop} {ps:List er} (h:∀z y (p:List pz),R z y->p.length=path.length+1->rec y p ps=some (z,ps)):∀{ds:List aO} {l:List Va} {i:Int} {out:List aO},fw R ds l->out.length+l.length<=1000->sB rec path l i ps out=some (.mk ⟨5,0,[],out++ds,[]⟩,ps)
 |[],[],i,out,_,_=>by rw[TK];rfl
 |[],_::_,_,_,h,_=>h.elim
 |_::_,[],_,_,h,_=>h.elim
 |z::ds,y::l,i,out,g,hl=>by
  rw[Tu] at hl
  unfold sB
  rw[aP ii,dI ii,h z y _ g.1 (by simp),HP,dI ii]
  show sB rec path l (i+1) ps (out++[z])=_
  rw[FG hp h g.2 (by simp;omega),TP]
  rfl
theorem JS {rec:qE} {path:List pz} (hp:path.length<=1000) {R:Mem aO->dO Va->Prop} {ps:List er} (h:∀m f (p:List pz),R m f->p.length<=path.length+1->∀ps',ps'=ps\/ps'=[]->rec f.val p ps'=some (m.data,ps')) (hR:∀m f,R m f->f.label=m.label/\f.fj=1):∀{ms:List (Mem aO)} {l:List (dO Va)} {out:List (Mem aO)},fw R ms l->out.length+l.length<=1000->FF true rec path l ps out=some (.mk ⟨6,0,[],[],out++ms⟩,ps)
 |[],[],out,_,_=>by rw[TK];rfl
 |[],_::_,_,h,_=>h.elim
 |_::_,[],_,h,_=>h.elim
 |m::ms,f::l,out,g,hl=>by
  rw[Tu] at hl
  obtain⟨g1,g2⟩:=hR m f g.1
  have hv:∀p:List pz,p.length<=path.length+1->Qp true rec path p f ps out=some (ps,out++[m]):=fun p hpl=>by
   have e:(⟨f.label,m.data⟩:Mem aO)=m:=by rw[g1]
   unfold Qp
   rw[show xV true f.label=some false from rfl,HP,Ti nf]
   by_cases k:f.label=[]
   ·rw[Th k,Th g2,h m f [] g.1 (by simp) [] (.inr rfl),HP,dI ii,aP (by show(0:Nat)<=1000000000;omega)]
    rw[show(⟨[],(m.data,([]:List er)).1⟩:Mem aO)=m by rw[<-e,k]]
    rfl
   ·rw[Ti k,Ti ii,h m f p g.1 hpl ps (.inl rfl),HP,dI ii,e]
  unfold FF
  rw[aP ii,dI ii,hv path ii,hv _ (by simp)]
  show(if f.label=[] then FF true rec path l ps (out++[m]) else FF true rec path l ps (out++[m]))=_
  rw[JS hp h hR g.2 (by simp;omega),TP]
  by_cases k:f.label=[]
  ·rw[Th k];rfl
  ·rw[Ti k];rfl
theorem cu.back {o:Va}:∀{f n k:Nat} {d:aO} {x:Va} {path:List pz} {ps:List er},cu o f d x->ko n d->n<=15->n<k->path.length+n<=500->wv true k x path ps=some (d,ps)
 |0,_,_,_,_,_,_,h,_,_,_,_=>h.elim
 |f+1,n,0,_,_,_,_,_,_,_,h,_=>by omega
 |f+1,n,k+1,d,x,path,ps,h,hd,hn,hk,hp=>by
  have hdc:=hd.c
  have hil:=hdc.il
  have hml:=hdc.ml
  have hb:=h.bot
  have hb':iL x.d=some false:=by rw[h.vd];exact hb
  show((iL x.d).bind fun b=>if b then pB true (wv true k) x.v path ps else pB true (wv true k) x.d path ps)=_
  rw[hb',HP,Ti nf,h.vd]
  rcases h with⟨hk4,one,h1,h2,rfl⟩|⟨hk5,l,rfl,h1⟩|⟨hk6,fs,c,rfl,h1,h2,h3⟩
  ·obtain⟨e,he,_⟩:=o7 (k:=1) (n:=81) ii ii h2.v
   unfold pB
   show((gT one).bind fun p=>(iE one).bind fun e=>_)=_
   rw[Bk hn hd hk4 h1 h2,HP,he,HP]
   show((iL ⟨false,one,[],[]⟩).bind fun b=>_)=_
   have hb:iL ⟨false,one,[],[]⟩=some false:=hb
   rw[hb,HP,Ti nf]
   rfl
  ·have hl:=h1.len
   unfold pB
   show((gT bw).bind fun p=>(iE bw).bind fun e=>_)=_
   rw[xf,HP,AS,HP]
   show A7 (wv true k) ⟨l,[]⟩ path ps=_
   unfold A7
   rw[aP (by show(0:Nat)<=1000000000;omega),Ti (by show¬((0:Nat):Int)>0;omega),aP (by show l.length<=1000000000;omega)]
   show sB _ path l 0 ps []=_
   rw[FG (R:=fun z y=>z∈d.c.items/\cu o f z y) ii (fun z y p g hpl=>by
    obtain⟨m,e,hz⟩:=jt (hdc.it z g.1)
    exact cu.back g.2 hz ii ii ii) (fw.imp (fun z hz y _ g=>⟨hz,g⟩) h1) (by simp;omega)]
   obtain⟨a,b,c⟩:=k9 hdc hk5
   rw[show aO.mk ⟨5,0,[],[]++d.c.items,[]⟩=d from o9 (lr hk5.symm a.symm b.symm rfl c.symm)]
  ·have hl:=h3.len
   unfold pB
   show((gT bw).bind fun p=>(iE bw).bind fun e=>_)=_
   rw[xf,HP,AS,HP]
   show A5 true (wv true k) ⟨fs,[c]⟩ path ps=_
   unfold A5
   rw[aP (by show fs.length<=1000000000;omega)]
   show FF true _ path fs ps []=_
   rw[JS (R:=fun m g=>m∈d.c.members/\g.label=m.label/\g.fj=1/\cu o f m.data g.val) ii (fun m g p hg hpl ps' _=>by
    obtain⟨q,e,hz⟩:=jt (hdc.me m hg.1).2
    exact cu.back hg.2.2.2 hz ii ii ii) (fun m g hg=>⟨hg.2.1,hg.2.2.1⟩) (fw.imp (fun m hm g _ hg=>⟨hm,hg⟩) h3) (by simp;omega)]
   obtain⟨a,b,c⟩:=iP hdc hk6
   rw[show aO.mk ⟨6,0,[],[],[]++d.c.members⟩=d from o9 (lr hk6.symm a.symm b.symm c.symm rfl)]
theorem cu.valid {o:Va} (ho:AL o) {f n:Nat} {d:aO} {x:Va} (h:cu o f d x) (hd:ko n d) (hf:f<64) (hs:eQ x=some true):jW x=some true:=by
 have hm:=(h.make ho hd hf).1 hs
 unfold jW
 rw[hm,HP,Th rfl]
 exact oM (cu.Qt ho h hd (show f<hY from hf)) h.vd
theorem cu.data {o:Va} (ho:AL o) {f n:Nat} {d:aO} {x:Va} (h:cu o f d x) (hd:ko n d) (hf:f<64) (hn:n<=15) (hs:eQ x=some true):kJ x true=some (d,[]):=by
 unfold kJ
 rw[h.valid ho hd hf hs,HP,Th rfl,h.back hd hn ii (by simp;omega)]
structure S6 (o p:Va):Prop where
 Qt:∀n,bu (ep (n+1) o.v p.v) fun _=>True
 bel:∀n,iG (n+1) o.v p.v=some true
theorem xw {rec:bG Va->bG Va->Option Bool} {x y:Va} (h:bu (rec x.v y.v) fun _=>True) (hx:x.d=x.v) (hy:y.d=y.v):bu (lE rec x y) fun _=>True:=by
 obtain⟨t,ht,_⟩:=h
 unfold lE
 rw[hx,hy,ht,HP]
 exact ak (fun _=>aj trivial) fun _=>aj trivial
theorem fP {k:Nat} {s t:bX} {ls ls':List (bg Va)} {ss ss':List (aM Va)} (hs:SB 1 81 s) (h1:ls.length<=1000) (h2:ls'.length<=1000) (h3:ss.length<=1000) (h4:ss'.length<=1000) (h:ls.length=ls'.length->ss.length=ss'.length->bu (wN (ep k) ss ss' ls' ls 0) fun _=>True):bu (ep (k+1) ⟨false,s,ls,ss⟩ ⟨false,t,ls',ss'⟩) fun _=>True:=by
 unfold ep
 show bu (if(false==false)=true then(fQ s t).bind fun c=>if c then(aN ls).bind fun _=>(aN ls').bind fun _=>if(ls.length:Int)=ls'.length then(aN ss).bind fun _=>(aN ss').bind fun _=>if(ss.length:Int)=ss'.length then(aN ls).bind fun _=>wN (ep k) ss ss' ls' ls 0 else some false else some false else some false else some false) _
 exact ak (fun _=>au (xx ii ii hs) fun c _=>ak (fun _=>ar ii (ar ii (ak (fun g1=>ar ii (ar ii (ak (fun g2=>ar ii (h ii ii)) fun _=>aj trivial))) fun _=>aj trivial))) fun _=>aj trivial) fun _=>aj trivial
theorem cu.sam2 {o p:Va} (ho:AL o) (hp:AL p) (hq:S6 o p):∀{f g k n m:Nat} {d e:aO} {x y:Va},cu o f d x->cu p g e y->ko n d->ko m e->f<k->bu (ep k x.v y.v) fun _=>True
 |0,_,_,_,_,_,_,_,_,h,_,_,_,_=>h.elim
 |f+1,0,_,_,_,_,_,_,_,_,h,_,_,_=>h.elim
 |f+1,g+1,0,_,_,_,_,_,_,_,_,_,_,h=>by omega
 |f+1,g+1,k+1,n,m,d,e,x,y,h,h',hd,he,hk=>by
  have hdc:=hd.c
  have hec:=he.c
  have hil:=hdc.il
  have hml:=hdc.ml
  have hil':=hec.il
  have hml':=hec.ml
  have kid:∀{z w:aO} {y y':Va},xe n z->xe m w->cu o f z y->cu p g w y'->bu (lE (ep k) y y') fun _=>True:=fun{z w y y'} h1 h2 h3 h4=>by
   obtain⟨_,_,h1⟩:=jt h1
   obtain⟨_,_,h2⟩:=jt h2
   exact xw (cu.sam2 ho hp hq h3 h4 h1 h2 ii) h3.vd h4.vd
  have z0:(0:Nat)<=1000:=by omega
  have z1:(1:Nat)<=1000:=by omega
  have sz:=(dW 1 81).sb
  rcases h with⟨_,one,_,h2,rfl⟩|⟨_,l,rfl,h1⟩|⟨_,fs,c,rfl,h1,h2,h3⟩
  ·rcases h' with⟨_,one',_,h2',rfl⟩|⟨_,l',rfl,h1'⟩|⟨_,gs,c',rfl,h1',h2',h3'⟩
   ·exact fP h2.v.sb z0 z0 z0 z0 fun _ _=>⟨true,rfl,trivial⟩
   ·exact fP h2.v.sb z0 z1 z0 z0 fun g _=>by simp at g
   ·exact fP h2.v.sb z0 z0 z0 z1 fun _ g=>by simp at g
  ·rcases h' with⟨_,one',_,h2',rfl⟩|⟨_,l',rfl,h1'⟩|⟨_,gs,c',rfl,h1',h2',h3'⟩
   ·exact fP sz z1 z0 z0 z0 fun g _=>by simp at g
   ·have hl:=h1.len
    have hl':=h1'.len
    refine fP sz z1 z1 z0 z0 fun _ _=> ?_
    unfold wN
    rw[oA (x:=(⟨l',[]⟩:bg Va)) rfl,aP (by show l.length<=1000000000;omega),aP (by show l'.length<=1000000000;omega)]
    refine ak (fun _=> ?_) fun _=>aj trivial
    rw[p5 (l:=l) ii,HP,p5 (l:=l') ii,HP]
    refine au (vk (fun y hy y' hy'=> ?_) ii) fun c _=>ak (fun _=>⟨true,rfl,trivial⟩) fun _=>aj trivial
    obtain⟨z,z1,z2⟩:=h1.mem.1 y hy
    obtain⟨w,w1,w2⟩:=h1'.mem.1 y' hy'
    exact kid (hdc.it z z1) (hec.it w w1) z2 w2
   ·exact fP sz z1 z0 z0 z1 fun g _=>by simp at g
  ·rcases h' with⟨_,one',_,h2',rfl⟩|⟨_,l',rfl,h1'⟩|⟨_,gs,c',rfl,h1',h2',h3'⟩
   ·exact fP sz z0 z0 z1 z0 fun _ g=>by simp at g
   ·exact fP sz z0 z1 z1 z0 fun g _=>by simp at g
   ·have hl:=h3.len
    have hl':=h3'.len
    refine fP sz z0 z0 z1 z1 fun _ _=> ?_
    show bu (zx (ep k) [⟨gs,[c']⟩] [⟨fs,[c]⟩] 0) _
    unfold zx
    rw[oA (x:=(⟨gs,[c']⟩:aM Va)) rfl]
    unfold BB
    refine au (au (vk (fun y hy y' hy'=> ?_) (by show fs.length<=1000000000;omega)) fun b _=>ak (fun _=>vk (fun y hy y' hy'=> ?_) (by show(1:Nat)<=1000000000;omega)) fun _=>aj trivial) fun b _=>ak (fun _=>⟨true,rfl,trivial⟩) fun _=>aj trivial
    ·obtain⟨z,z1,_,_,z2⟩:=h3.mem.1 y hy
     obtain⟨w,w1,_,_,w2⟩:=h3'.mem.1 y' hy'
     unfold BC
     exact ak (fun _=>ak (fun _=>kid (hdc.me z z1).2 (hec.me w w1).2 z2 w2) fun _=>aj trivial) fun _=>aj trivial
    ·rw[To.1 hy,To.1 hy']
     unfold BD
     obtain⟨k,rfl⟩:∃j,k=j+1:=⟨k-1,by omega⟩
     refine au (mY h2.vl.gd.toAB ii) fun b _=>ak (fun _=> ?_) fun _=>aj trivial
     rw[h1,h1']
     exact xw (hq.Qt k) ho.vd hp.vd
theorem zU {rec:bG Va->bG Va->Option Bool} {x y:Va} (h:rec x.v y.v=some true) (hx:x.d=x.v) (hy:y.d=y.v):p6 rec x y=some true:=by
 unfold p6
 rw[hx,hy,h,HP,Th rfl]
theorem qO {s:bX} (hs:tj 1 81 s):dA s s=some true:=by
 obtain⟨t,t1,t2⟩:=eO (k:=1) (m:=1) (n:=81) ii ii hs hs
 rw[t1,t2.2 fun d hd=>hd]
theorem CQ {α:Type} {is:α->α->Option Bool} {a b:α} (h:is a b=some true):vw is [a] [b]=some true:=by
 unfold vw
 rw[aP (by show(1:Nat)<=1000000000;omega)]
 unfold Af
 rw[vz h,HP,Th rfl]
 rfl
theorem Li {rec:bG Va->bG Va->Option Bool} {a b:bg Va} (hr:a.rest=[]) (hb:b.items.length<=1000) (hl:a.items.length=b.items.length) (h:∀(q:Nat) (x y:Va),a.items[q]? =some x->b.items[q]? =some y->p6 rec x y=some true):∀{r:List Va} {i:Nat},a.items.drop i=r->Jx rec a b r (i:Int)=some true
 |[],i,_=>by
  unfold Jx lbE
  rw[hr]
  rfl
 |x::r,i,e=>by
  have e1:((i:Int)+1)=((i+1:Nat):Int):=by omega
  have hx:a.items[i]? =some x:=by
   rw[<-List.head?_drop,e]
   rfl
  have hi:=(Tk.1 hx).1
  have hy:b.items[i]? =some (b.items[i]'ii):=Tj ii
  unfold Jx
  rw[s6 hy hb,HP,h i _ _ hx hy,HP,Th rfl,e1]
  exact Li hr hb hl h (by rw[<-List.tail_drop,e];rfl)
theorem RT {rec:bG Va->bG Va->Option Bool} {l r:List Va} (h1:l.length<=1000) (hl:l.length=r.length) (h:∀(q:Nat) (x y:Va),l[q]? =some x->r[q]? =some y->p6 rec x y=some true):ON rec ⟨l,[]⟩ ⟨r,[]⟩=some true:=by
 unfold ON
 rw[aP (by show(0:Nat)<=1000000000;omega),aP (by show l.length<=1000000000;omega),aP (by show r.length<=1000000000;omega),Ti (by show¬(l.length:Int)<r.length;omega),Ti (by show¬((0:Nat):Int)>0;omega),Ti (by show¬(l.length:Int)>r.length;omega),aP (by show(0:Nat)<=1000000000;omega),Ti (by show¬((0:Nat):Int)>0;omega)]
 exact Li (a:=⟨l,[]⟩) (b:=⟨r,[]⟩) (i:=0) rfl (by show r.length<=1000;omega) hl h rfl
theorem BS {c:aM Va} {k:dH Va} (h:Dw c k) {f:dO Va} (hf:f∈c.fields):view c f.label=some (f.val,f.fj):=by
 have hfl:=h.fl
 have hlab:=h.Np f hf
 have hS:HS (fun _=>True) c:=⟨by omega,by rw[h.one];show(1:Nat)<=1000;omega,fun _ _=>trivial,fun _ _=>trivial,fun y hy=>by
  rw[h.one] at hy
  rw[To.1 hy]
  exact h.vl,fun w=>by
  by_cases g:∃f∈c.fields,f.label=w
  ·exact .inl g
  ·exact .inr ⟨k,by rw[h.one];exact To.2 rfl,(h.mA w).2 fun f hf e=>g ⟨f,hf,e⟩⟩⟩
 obtain⟨r,r1,r2⟩:=pC hS (w:=f.label) ii
 rcases r2 with⟨y,y1,y2,rfl⟩|⟨g,_⟩
 ·obtain rfl:=vU h.xa y y1 f hf y2
  exact r1
 ·exact(g f hf rfl).elim
theorem FZ {rec:bG Va->bG Va->Option Bool} {a b:aM Va} (hk:a.az.length<=1000) (h:Qs rec b.az a.az=some true):∀{r:List (dO Va)},(∀f∈r,Nh rec a b f=some true)->zu rec a b r=some true
 |[],_=>by
  unfold zu
  rw[aP ii,h]
 |f::r,g=>by
  unfold zu
  rw[g f (Tn ..),HP,Th rfl]
  exact FZ hk h fun f hf=>g f (Tm _ hf)
theorem F0 {rec:bG Va->bG Va->Option Bool} {a b:aM Va} (hb:b.fields.length<=1000) (h:zu rec a b b.fields=some true):∀{r:List (dO Va)},(∀f∈r,Nh rec a b f=some true)->Bw rec a b r=some true
 |[],_=>by
  unfold Bw
  rw[aP ii,h]
 |f::r,g=>by
  unfold Bw
  rw[g f (Tn ..),HP,Th rfl]
  exact F0 hb h fun f hf=>g f (Tm _ hf)
theorem Rq {rec:bG Va->bG Va->Option Bool} {fs gs:List (dO Va)} {k k':dH Va} (h1:Dw ⟨fs,[k]⟩ k) (h2:Dw ⟨gs,[k']⟩ k') (hk:p6 rec k.val k'.val=some true) (hf:∀f∈fs,∃g∈gs,g.label=f.label/\f.fj=1/\g.fj=1/\p6 rec f.val g.val=some true) (hg:∀g∈gs,∃f∈fs,f.label=g.label):sbM rec ⟨fs,[k]⟩ ⟨gs,[k']⟩=some true:=by
 have l1:=h1.fl
 have l2:=h2.fl
 have l1:fs.length<=100:=l1
 have l2:gs.length<=100:=l2
 have hv:∀f∈fs,Nh rec ⟨fs,[k]⟩ ⟨gs,[k']⟩ f=some true:=fun f hf'=>by
  obtain⟨g,g1,g2,g3,g4,g5⟩:=hf f hf'
  have v2:=BS h2 g1
  rw[g2] at v2
  unfold Nh
  rw[BS h1 hf',HP,v2,HP,Ti (by show¬f.fj>g.fj;omega)]
  exact g5
 have hv2:∀g∈gs,Nh rec ⟨fs,[k]⟩ ⟨gs,[k']⟩ g=some true:=fun g hg'=>by
  obtain⟨f,f1,f2⟩:=hg g hg'
  have:=hv f f1
  unfold Nh at this⊢
  rwa [f2] at this
 have hc:Qs rec [k'] [k]=some true:=by
  unfold Qs
  rw[aP (by show(1:Nat)<=1000000000;omega)]
  unfold Ee
  rw[hk,HP,Th rfl]
  rfl
 unfold sbM
 rw[aP (by show fs.length<=1000000000;omega)]
 exact F0 (by show gs.length<=1000;omega) (FZ (by show(1:Nat)<=1000;omega) hc hv2) hv
theorem cu.less {o p:Va} (ho:AL o) (hp:AL p) (hq:S6 o p):∀{f k n:Nat} {d:aO} {x y:Va},cu o f d x->cu p f d y->ko n d->f<k->f<64->iG k x.v y.v=some true
 |0,_,_,_,_,_,h,_,_,_,_=>h.elim
 |f+1,0,_,_,_,_,_,_,_,h,_=>by omega
 |f+1,k+1,n,d,x,y,h,h',hd,hk,hf=>by
  have hdc:=hd.c
  have hil:=hdc.il
  have hml:=hdc.ml
  have kid:∀{z:aO} {x y:Va},xe n z->cu o f z x->cu p f z y->p6 (iG k) x y=some true:=fun{z x y} h1 h2 h3=>by
   obtain⟨_,_,h1⟩:=jt h1
   exact zU (cu.less ho hp hq h2 h3 h1 ii ii) h2.vd h3.vd
  obtain⟨t,ht,_⟩:=cu.sam2 (k:=hY) ho hp hq h h' hd hd (show f+1<hY from hf)
  unfold iG
  rw[h.OA,Ti nf,h'.OA,Ti nf]
  show(Option.bind ((ep hY x.v y.v).bind fun c=>if c then ep hY zV zV else some false) _)=_
  rw[ht,HP]
  cases t with
  |true=>rw[Th rfl,AR,HP,Th rfl]
  |false=>
   rw[Ti nf,HP,Ti nf]
   rcases h with⟨hk4,one,h1,h2,rfl⟩|⟨hk5,l,rfl,h1⟩|⟨hk6,fs,c,rfl,h1,h2,h3⟩
   ·rcases h' with⟨_,one',h1',h2',rfl⟩|⟨hk5,_⟩|⟨hk6,_⟩
    ·obtain rfl:one=one':=Ub Prod.fst (TD (h1.symm.trans h1'))
     show Option.bind (dA one one) _=_
     rw[qO h2.v,HP,Th rfl]
     rfl
    ·omega
    ·omega
   ·rcases h' with⟨hk4,_⟩|⟨_,l',rfl,h1'⟩|⟨hk6,_⟩
    ·omega
    ·have hl:=h1.len
     have hl':=h1'.len
     show Option.bind (dA bw bw) _=_
     rw[qO (dW 1 81),HP,Th rfl]
     show Option.bind (vw (ON (iG k)) [⟨l,[]⟩] [⟨l',[]⟩]) _=_
     rw[CQ (RT ii ii fun q x y hx hy=> ?_),HP,Th rfl]
     ·rfl
     ·have hz:d.c.items[q]? =some (d.c.items[q]'(by have:=(Tk.1 hx).1;omega)):=Tj _
      exact kid (hdc.it _ (Ts hz)) (h1.at_ hz hx) (h1'.at_ hz hy)
    ·omega
   ·rcases h' with⟨hk4,_⟩|⟨hk5,_⟩|⟨_,gs,c',rfl,h1',h2',h3'⟩
    ·omega
    ·omega
    ·show Option.bind (dA bw bw) _=_
     rw[qO (dW 1 81),HP,Th rfl]
     show Option.bind (vw (ON (iG k)) [] []) _=_
     rw[show vw (ON (iG k)) [] []=some true from rfl,HP,Th rfl]
     obtain⟨k,rfl⟩:∃j,k=j+1:=⟨k-1,by omega⟩
     refine CQ (Rq h2 h2' (zU (by rw[h1,h1'];exact hq.bel k) (by rw[h1];exact ho.vd) (by rw[h1'];exact hp.vd)) (fun f hf=> ?_) fun g hg=> ?_)
     ·obtain⟨m,m1,m2,m3,m4⟩:=h3.mem.1 f hf
      obtain⟨g,g1,g2,g3,g4⟩:=h3'.mem.2 m m1
      exact⟨g,g1,by rw[g2,m2],m3,g3,kid (hdc.me m m1).2 m4 g4⟩
     ·obtain⟨m,m1,m2,_⟩:=h3'.mem.1 g hg
      obtain⟨f,f1,f2,_⟩:=h3.mem.2 m m1
      exact⟨f,f1,by rw[f2,m2]⟩
abbrev tVa:Va:= .mk ⟨true,bw,[],[]⟩ ⟨true,bw,[],[]⟩
theorem Gf:AL tVa:=by
 have hs:fQ bw bw=some true:=gF (k:=1) (n:=1) ii ii (dW 1 1)
 refine⟨rfl,by kernel_rfl,by kernel_rfl,fun n=> ?_,fun n=> ?_,fun n=> ?_⟩
 ·unfold jw
  rw[Th (show tVa.v.any=true from rfl)]
 ·unfold ep
  show(if(true==true)=true then(fQ bw bw).bind _ else _)=_
  rw[Th rfl,hs,HP,Th rfl]
  rfl
 ·unfold iG
  rw[Th (show tVa.v.any=true from rfl)]
  rfl
theorem Rv:S6 pv tVa:=by
 refine⟨fun n=>⟨false,?_,trivial⟩,fun n=> ?_⟩
 ·unfold ep
  rw[Ti (show¬(pv.v.any==tVa.v.any)=true from nf)]
 ·unfold iG
  rw[Ti (show¬pv.v.any=true from nf),Th (show tVa.v.any=true from rfl)]
  rfl
def M9 (d:aO) (r:Int):Prop:=∀(g:Nat) (level:Int),level<=16->eV g level d=true->17<=level+r
theorem M9.mono {d:aO} {r s:Int} (h:M9 d r) (hs:r<=s):M9 d s:=fun g level h1 h2=>by
 have:=h g level h1 h2
 omega
theorem K6 {a b c:Int} (h1:a<=c) (h2:b<=c):mx a b<=c:=by
 unfold mx
 by_cases g:b>a
 ·rw[Th g];exact h2
 ·rw[Ti g];exact h1
theorem QA {a b:Int}:a<=mx a b:=by
 unfold mx
 by_cases g:b>a
 ·rw[Th g];omega
 ·rw[Ti g];omega
theorem Qz {a b:Int}:b<=mx a b:=by
 unfold mx
 by_cases g:b>a
 ·rw[Th g];omega
 ·rw[Ti g];omega
section
variable {rec:aO->Option Int} {B:Int}
theorem GR (hB:B<=1000) {ms:List (Mem aO)} (hl:ms.length<=1000) (h:∀m∈ms,bu (rec m.data) fun r=>r<=B/\M9 m.data r):∀{f i:Nat} {n:Int},0<=n->n<=B->ms.length+1<=f+i->i<=ms.length->bu (Sm rec ms f i n) fun r=>n+1<=r/\r<=B+1/\∀m∈ms.drop i,M9 m.data (r-1)
 |0,i,n,_,_,hf,hi=>by omega
 |f+1,i,n,h0,h1,hf,hi=>by
  have e1:((i:Int)+1)=((i+1:Nat):Int):=by omega
  unfold Sm
  refine ar ii (ak (fun g=>a7 ii ii fun x hx hm=>au (h x hm) fun k hk=> ?_) fun g=>ar ⟨by omega,by omega⟩ (aj ⟨by omega,by omega,fun m hm=> ?_⟩))
  ·have l1:=QA (a:=n) (b:=k)
   have l2:=Qz (a:=n) (b:=k)
   rw[e1]
   refine(GR hB hl h (n:=mx n k) ii (K6 h1 hk.1) ii ii).mono fun r hr=>⟨by omega,hr.2.1,fun m hm=> ?_⟩
   rw[show(i:Int).toNat=i by omega] at hx
   rw[kI hx] at hm
   rcases Tv.1 hm with rfl|hm
   ·exact hk.2.mono ii
   ·exact hr.2.2 m hm
  ·rw[TV ii] at hm
   cases hm
theorem GS (hB:B<=1000) {l:List aO} {ms:List (Mem aO)} (hl:l.length<=1000) (hms:ms.length<=1000) (hi':∀x∈l,bu (rec x) fun r=>r<=B/\M9 x r) (h:∀m∈ms,bu (rec m.data) fun r=>r<=B/\M9 m.data r):∀{f i:Nat} {n:Int},0<=n->n<=B->l.length+1<=f+i->i<=l.length->bu (So rec l ms f i n) fun r=>n+1<=r/\r<=B+1/\(∀x∈l.drop i,M9 x (r-1))/\∀m∈ms,M9 m.data (r-1)
 |0,i,n,_,_,hf,hi=>by omega
 |f+1,i,n,h0,h1,hf,hi=>by
  have e1:((i:Int)+1)=((i+1:Nat):Int):=by omega
  unfold So
  refine ar ii (ak (fun g=>a7 ii ii fun x hx hm=>au (hi' x hm) fun k hk=> ?_) fun g=> ?_)
  ·have l1:=QA (a:=n) (b:=k)
   have l2:=Qz (a:=n) (b:=k)
   rw[e1]
   refine(GS hB hl hms hi' h (n:=mx n k) ii (K6 h1 hk.1) ii ii).mono fun r hr=>⟨by omega,hr.2.1,fun y hy=> ?_,hr.2.2.2⟩
   rw[show(i:Int).toNat=i by omega] at hx
   rw[kI hx] at hy
   rcases Tv.1 hy with rfl|hy
   ·exact hk.2.mono ii
   ·exact hr.2.2.1 y hy
  ·refine(GR hB hms h (f:=ms.length+1) (i:=0) (n:=n) h0 h1 ii ii).mono fun r hr=>⟨hr.1,hr.2.1,fun x hx=> ?_,fun m hm=>hr.2.2 m (by rw[Uu];exact hm)⟩
   rw[TV ii] at hx
   cases hx
end
theorem GQ:∀{f n:Nat} {d:aO},ko n d->n<f->n<=100->bu (Pl f d) fun r=>1<=r/\r<=(n:Int)+1/\M9 d r
 |0,n,d,_,h,_=>by omega
 |f+1,n,d,hd,hf,hn=>by
  have hdc:=hd.c
  have hil:=hdc.il
  have hml:=hdc.ml
  have kid:∀{z:aO},xe n z->bu (Pl f z) fun r=>r<=(n:Int)/\M9 z r:=fun{z} h=>by
   obtain⟨m,rfl,h⟩:=jt h
   exact(GQ h ii ii).mono fun r hr=>⟨by omega,hr.2.2⟩
  unfold Pl
  refine(GS (B:=n) ii ii ii (fun x hx=>kid (hdc.it x hx)) (fun m hm=>kid (hdc.me m hm).2) (f:=d.c.items.length+1) (i:=0) (n:=0) ii ii ii ii).mono fun r hr=> ?_
  obtain⟨r1,r2,r3,r4⟩:=hr
  rw[Uu] at r3
  refine⟨by omega,r2,fun g level h1 h2=> ?_⟩
  by_cases h16:level=16
  ·omega
  ·cases g with
   |zero=>
    unfold eV at h2
    have:=TF h2
    omega
   |succ g=>
    unfold eV at h2
    rw[Uf (by omega:¬level>16),UW,Uf (by omega:¬level+1>16),Bool.and_false,UU,UT] at h2
    rcases h2 with h2|h2
    ·obtain⟨x,x1,x2⟩:=Vg.1 h2
     have:=r3 x x1 g (level+1) ii x2
     omega
    ·obtain⟨m,m1,m2⟩:=Vg.1 h2
     have:=r4 m m1 g (level+1) ii m2
     omega
theorem xP {o:Va} (ho:AL o) {d:aO} (hok:ko 15 d) (hz:∀j,o8 j d<=40):∃x,cu o 18 d x/\eQ x=some (!eV 18 1 d)/\uE d o=some (if eV 18 1 d then(pv,9) else(x,0)):=by
 have hchk:lU d=some 0:=pb hok ii ii ii
 obtain⟨x,x1,x2⟩:=zJ (other:=o) (f:=18) hok ii ii
 have hv:ND 15 d<=1000000000:=by
  have:=hz 15
  unfold ND
  have:3*2^15*o8 15 d<=3*2^15*40:=Nat.mul_le_mul_left _ this
  omega
 have hs:=x2.sound ho hok ii hv
 obtain⟨m1,m2⟩:=x2.make ho hok ii
 refine⟨x,x2,hs,?_⟩
 unfold uE
 rw[hchk,HP,Th rfl,x1,HP,hs,HP]
 cases e:eV 18 1 d with
 |true=>rfl
 |false=>
  rw[e] at hs
  rw[Ti nf]
  exact m1 hs
theorem yu {o:Va} (ho:AL o) {d:aO} {x:Va} (h:cu o 18 d x) (hok:ko 15 d) (hs:eQ x=some true):vt x true=some (d,0)/\isC x=some true:=by
 have hd:=h.data ho hok ii ii hs
 refine⟨?_,?_⟩
 ·unfold vt
  rw[hd]
  rfl
 ·unfold isC uk
  rw[hd]
  rfl
theorem IF {n:Nat} (hn:n<=9223372036854775807) {d:aO} (hd:JB n 50 d):OS d=some true:=by
 obtain⟨t,t1,t2⟩:=oJ hn hd
 unfold OS
 rw[t1,HP]
 cases t with
 |false=>rw[Ti nf,fe]
 |true=>
  obtain⟨bd,zd⟩:=t2 rfl
  obtain⟨e,e1,e2⟩:=BL bd
  rw[Th rfl,e1,HP]
  by_cases g:e=0
  ·have hok:=e2 g
   obtain⟨x,x1,x2,x3⟩:=xP rX hok zd
   obtain⟨y,y1,y2,y3⟩:=xP Gf hok zd
   have h1:PV d=_:=x3
   have h2:rD d=_:=y3
   rw[Th g,h1,HP,h2,HP]
   cases hb:eV 18 1 d with
   |true=>
    obtain⟨r,r1,r2,r3,r4⟩:=GQ (f:=20) hok ii ii
    have:=r4 18 1 ii hb
    have hr:r=16:=by omega
    have hdep:L9 d=some r:=by
     unfold L9 NA
     rw[e1,g]
     exact r1
    show Jl d (pv,9) (pv,9)=some true
    unfold Jl
    rw[Th rfl,Th rfl,hdep,HP,Th hr,fe]
   |false=>
    rw[hb] at x2 y2
    obtain⟨a1,a2⟩:=yu rX x1 hok x2
    obtain⟨b1,b2⟩:=yu Gf y1 hok y2
    obtain⟨u,u1,u2⟩:=zt (f:=20) hok hok ii
    have hu:rP d d=some true:=by
     unfold rP
     rw[u1,u2.2 rfl]
    have hl:Ld x y=some true:=by
     unfold Ld
     rw[x1.valid rX hok ii x2,HP,Th rfl,y1.valid Gf hok ii y2,HP,Th rfl]
     exact zU (cu.less rX Gf Rv x1 y1 hok (show 18<jr by decide) ii) x1.vd y1.vd
    show PZ d x y=some true
    unfold PZ
    rw[a1,HP,b1,HP,hu,HP,Th rfl,HP]
    unfold MI
    rw[Th rfl,Th rfl,Th rfl,a2,HP,Th rfl,b2,HP,Th rfl,hl,HP,Th rfl,fe]
  ·rw[Ti g,fe]
end Go.Proofs.YtaagahmkmcnhaaaGreatDoor
