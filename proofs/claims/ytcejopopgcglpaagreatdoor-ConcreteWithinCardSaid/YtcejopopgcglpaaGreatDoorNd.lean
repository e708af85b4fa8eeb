/- For ConcreteWithin: sets, classes that cover, instances. -/
import Derived.Test.YtcejopopgcglpaaGreatDoorNc
import Derived.Test.YtcejopopgcglpaaGreatDoorMf
set_option linter.unusedVariables false
set_option linter.unusedSimpArgs false
set_option linter.unusedSectionVars false
namespace Go.Proofs.YtcejopopgcglpaaGreatDoor
open Sv
structure TF (n:Nat) (l:List bj):Prop where
 len:l.length<=n
 row:∀s∈l,s.aI.length<=n
 eb:∀s∈l,∀e∈s.aI,EB e
structure WtS (n:Nat) (s:bM):Prop where
 i:tk n s.ints
 f:tk n s.bC
 a:TF n s.strs
structure WtC (n:Nat) (P:Va->Prop) (v:bt Va):Prop where
 sc:WtS n v.sc
 ll:v.lists.length<=n
 sl:v.structs.length<=n
 il:∀c∈v.lists,c.items.length<=n
 rl:∀c∈v.lists,c.rest.length<=n
 i:∀c∈v.lists,∀x∈c.items,P x
 r:∀c∈v.lists,∀x∈c.rest,P x
 fl:∀c∈v.structs,c.fields.length<=n
 kl:∀c∈v.structs,c.aw.length<=n
 A6:∀c∈v.structs,∀f∈c.fields,f.label.length<=n
 f:∀c∈v.structs,∀f∈c.fields,P f.val
 a:∀c∈v.structs,∀k∈c.aw,TF n k.set
 k:∀c∈v.structs,∀k∈c.aw,P k.val
def WtV (n:Nat):Nat->bt Va->Prop
 |0,_=>True
 |d+1,v=>WtC n (fun x=>WtV n d x.v/\WtV n d x.d) v
def P4 (n d:Nat) (x:Va):Prop:=WtV n d x.v/\WtV n d x.d
theorem Dw {n:Nat} (hn:n<=9223372036854775807) {l:List bj} (h:TF n l):∀{f i:Nat},i<=l.length->l.length<f+i->(∀j s,j<i->l[j]? =some s->s.aI.length<=12)->aW (Gr l f i) fun b=>b=true->l.length<=8/\∀s∈l,s.aI.length<=12
 |0,i,h1,h2,_=>by omega
 |f+1,i,h1,h2,hp=>by
  have hl:=h.len
  have e1:((i:Int)+1)=((i+1:Nat):Int):=by omega
  unfold Gr
  rw[e1]
  refine au ii (ar (fun hi=>aX ii ii fun x hx hm=> ?_) fun hi=>aj fun hb=> ?_)
  ·have:=h.row x hm
   refine au ii (ar (fun _=>aj fun hb=>by cases hb) fun h12=>Dw hn h ii ii fun j s hj hs=> ?_)
   by_cases hji:j=i
   ·subst hji
    rw[show((j:Int)).toNat=j by omega,hs] at hx
    cases hx
    omega
   ·exact hp j s ii hs
  ·refine⟨by have:=Wp hb;omega,fun s hs=> ?_⟩
   obtain⟨j,hj,rfl⟩:=List.mem_iff_getElem.1 hs
   exact hp j _ ii (VV hj)
theorem Dv {n:Nat} (hn:n<=9223372036854775807) {l:List bj} (h:TF n l):aW (KL l) fun b=>b=true->l.length<=8/\∀s∈l,s.aI.length<=12:=by
 unfold KL
 exact Dw hn h (f:=l.length+1) (i:=0) ii ii fun j s hj=>by omega
theorem MM {n:Nat} (hn:n<=9223372036854775807) {s:bM} (h:WtS n s):aW (MN s) fun b=>b=true->SB 5 8 s:=by
 have h1:=h.i.1
 have h2:=h.f.1
 unfold MN
 refine au ii (ar (fun h3=>au ii (ar (fun h4=>(Dv hn h.a).mono fun b hb e=> ?_) fun _=>aj fun h=>by cases h)) fun _=>aj fun h=>by cases h)
 have h5:=hb e
 exact⟨⟨by omega,h.i.2⟩,⟨by omega,h.f.2⟩,⟨h5.1,fun s hs=>by have:=h5.2 s hs;omega,h.a.eb⟩⟩
def GV:Nat->bt Va->Prop
 |0,_=>False
 |L+1,v=>kd L v
theorem GV.smP {L:Nat} {x:Va} (h1:GV L x.v) (h2:GV L x.d):dv L x:=by
 cases L with
 |zero=>exact h1.elim
 |succ L=>exact⟨h1,h2⟩
def MeT (n L:Nat) (rec:bt Va->Int->Int->Option Int):Prop:=∀(v:bt Va) (most:Int),WtV n L v->0<=most->most<=1000->aW (rec v L most) fun r=>0<=r/\r<=most+1/\(r<=most->GV L v)
def MaT (n L:Nat) (rec:List Va->Int->Int->Option Int):Prop:=∀(l:List Va) (most:Int),(∀x∈l,P4 n L x)->l.length<=1000-> -1<=most->most<=1000->aW (rec l L most) fun r=>0<=r/\r<=most+1/\(r<=most->∀x∈l,dv L x)
theorem AY {n L:Nat} {rec:bt Va->Int->Int->Option Int} (h:MeT n L rec) {l:List Va} (hw:∀x∈l,P4 n L x) (hl:l.length<=1000) {most:Int} (h0: -1<=most) (h1:most<=1000):∀{f i:Nat} {m:Int},i<=l.length->l.length<f+i->0<=m->m<=most+1->aW (Tw rec l L most f i m) fun r=>m<=r/\r<=most+1/\(r<=most->∀j x,i<=j->l[j]? =some x->dv L x)
 |0,i,m,g1,g2,_,_=>by omega
 |f+1,i,m,g1,g2,g3,g4=>by
  have e1:((i:Int)+1)=((i+1:Nat):Int):=by omega
  unfold Tw
  rw[e1]
  refine au ii (ar (fun hi=>ar (fun hm=>aX ii ii fun x hx hmem=> ?_) fun hm=>aj ⟨by omega,by omega,fun h=>by omega⟩) fun hi=>aj ⟨by omega,by omega,fun _ j x hj hx=> ?_⟩)
  ·have hxw:=hw x hmem
   refine au ii (aq (h x.v (most-m) hxw.1 ii ii) fun k ⟨k0,k1,k2⟩=>au ii (ar (fun hk=>aX ii ii fun y hy _=> ?_) fun hk=> ?_))
   ·rw[hx] at hy
    cases hy
    refine au ii (aq (h x.d (most-(m+k)) hxw.2 ii ii) fun j ⟨j0,j1,j2⟩=>au ii ?_)
    refine(AY h hw hl h0 h1 (f:=f) (i:=i+1) (m:=m+k+j) ii ii ii ii).mono fun r ⟨r0,r1,r2⟩=>⟨by omega,r1,fun hr jj y hj hy=> ?_⟩
    by_cases e:jj=i
    ·subst e
     rw[show((jj:Int)).toNat=jj by omega,hy] at hx
     cases hx
     exact GV.smP (k2 ii) (j2 ii)
    ·exact r2 hr jj y ii hy
   ·refine(AY h hw hl h0 h1 (f:=f) (i:=i+1) (m:=m+k) ii ii ii ii).mono fun r ⟨r0,r1,r2⟩=>⟨by omega,r1,fun hr=>by omega⟩
  ·have:=(VZ.1 hx).1
   omega
theorem Ix {n L:Nat} {rec:bt Va->Int->Int->Option Int} (h:MeT n L rec):MaT n L (fun l levels most=>UE rec l levels most):=by
 intro l most hw hl h0 h1
 show aW (UE rec l L most) _
 unfold UE
 refine(AY h hw hl h0 h1 (f:=l.length+1) (i:=0) (m:=0) ii ii ii ii).mono fun r ⟨r0,r1,r2⟩=>⟨r0,r1,fun hr x hx=> ?_⟩
 obtain⟨j,hj⟩:=Wj.1 hx
 exact r2 hr j x ii hj
theorem kQ {most:Int} (h0: -1<=most) (h1:most<=1000):aW (gW most) fun r=>r=most+1:=by
 unfold gW
 exact au ii (aj rfl)
theorem Iv {n:Nat} (hn:n<=9223372036854775807) {c:aF Va} (hl:∀f∈c.fields,f.label.length<=n) (h4:c.fields.length<=4) {most:Int} (h0: -1<=most) (h1:most<=1000):∀{f i:Nat} {l:List Va},i<=c.fields.length->c.fields.length<f+i->l=(c.fields.take i).map (·.val)->(∀x∈c.fields.take i,x.label.length<=60)->aW (Tv c most f i l) fun q=>q= .ret (most+1)\/q= .Fv (c.fields.map (·.val))/\∀x∈c.fields,x.label.length<=60
 |0,i,l,g1,g2,_,_=>by omega
 |f+1,i,l,g1,g2,g3,g4=>by
  have e1:((i:Int)+1)=((i+1:Nat):Int):=by omega
  have hll:l.length<=4:=by rw[g3,V4,XY];omega
  unfold Tv
  rw[e1]
  refine au ii (ar (fun hi=>aX ii ii fun x hx hm=> ?_) fun hi=>aj (.inr ?_))
  ·have:=hl x hm
   refine au ii (ar (fun _=>aq (kQ h0 h1) fun r hr=>aj (.inl (by rw[hr]))) fun h60=>aX ii ii fun y hy _=>bw ii ?_)
   rw[hx] at hy
   cases hy
   rw[show((i:Int)).toNat=i by omega] at hx
   have ht:c.fields.take (i+1)=c.fields.take i++[x]:=by rw[W6,hx];rfl
   refine Iv hn hl h4 h0 h1 ii ii (by rw[ht,g3,W2];rfl) fun y hy=> ?_
   rw[ht] at hy
   rcases V8.1 hy with hy|hy
   ·exact g4 y hy
   ·rw[V1.1 hy];omega
  ·have e:c.fields.take i=c.fields:=Xa ii
   rw[e] at g3 g4
   exact⟨by rw[g3],g4⟩
theorem Iu {n:Nat} (hn:n<=9223372036854775807) {c:aF Va} (hl:∀k∈c.aw,TF n k.set) (h4:c.aw.length<=4) {most:Int} (h0: -1<=most) (h1:most<=1000) {l0:List Va} (h5:l0.length<=4):∀{f i:Nat} {l:List Va},i<=c.aw.length->c.aw.length<f+i->l=l0++(c.aw.take i).map (·.val)->(∀x∈c.aw.take i,x.set.length<=8/\∀s∈x.set,s.aI.length<=12)->aW (Ry c most f i l) fun q=>q= .ret (most+1)\/q= .Fv (l0++c.aw.map (·.val))/\∀x∈c.aw,x.set.length<=8/\∀s∈x.set,s.aI.length<=12
 |0,i,l,g1,g2,_,_=>by omega
 |f+1,i,l,g1,g2,g3,g4=>by
  have e1:((i:Int)+1)=((i+1:Nat):Int):=by omega
  have hll:l.length<=8:=by rw[g3,V7,V4,XY];omega
  unfold Ry
  rw[e1]
  refine au ii (ar (fun hi=>aX ii ii fun x hx hm=> ?_) fun hi=>aj (.inr ?_))
  ·refine aq (Dv hn (hl x hm)) fun ok hok=>ar (fun h8=>aX ii ii fun y hy _=>bw ii ?_) fun _=>aq (kQ h0 h1) fun r hr=>aj (.inl (by rw[hr]))
   rw[hx] at hy
   cases hy
   rw[show((i:Int)).toNat=i by omega] at hx
   have ht:c.aw.take (i+1)=c.aw.take i++[x]:=by rw[W6,hx];rfl
   refine Iu hn hl h4 h0 h1 h5 ii ii (by rw[ht,g3,W2,WG];rfl) fun y hy=> ?_
   rw[ht] at hy
   rcases V8.1 hy with hy|hy
   ·exact g4 y hy
   ·rw[V1.1 hy];exact hok h8
  ·have e:c.aw.take i=c.aw:=Xa ii
   rw[e] at g3 g4
   exact⟨by rw[g3],g4⟩
theorem Fg:∀l:List (cW Va),(∀k∈l,k.set.length<=8)->WK l<=11^l.length
 |[],_=>V2 _
 |k::l,h=>by
  rw[iT,V5,Nat.pow_succ,X3]
  exact Xb (Fg l fun k hk=>h k (VX _ hk)) (by have:=h k (V0 ..);unfold wK;omega)
def SmSW (n L:Nat) (c:aF Va):Prop:=(c.fields.length<=n/\c.aw.length<=n)/\(∀f∈c.fields,f.label.length<=n)/\(∀f∈c.fields,P4 n L f.val)/\(∀k∈c.aw,TF n k.set)/\∀k∈c.aw,P4 n L k.val
theorem Ir {n L:Nat} (hL:L<=1000) (hn:n<=9223372036854775807) {rec:List Va->Int->Int->Option Int} (h:MaT n L rec) {ss:List (aF Va)} (hw:∀c∈ss,SmSW n L c) (hl:ss.length<=1000) {most:Int} (h0: -1<=most) (h1:most<=1000):∀{f i:Nat} {m:Int},i<=ss.length->ss.length<f+i->0<=m->m<=most+1->aW (UA rec ss ((L+1:Nat):Int) most f i m) fun r=>m<=r/\r<=most+1/\(r<=most->∀j x,i<=j->ss[j]? =some x->iF (dv L) x)
 |0,i,m,g1,g2,_,_=>by omega
 |f+1,i,m,g1,g2,g3,g4=>by
  have e1:((i:Int)+1)=((i+1:Nat):Int):=by omega
  have big:∀P:Int->Prop,P (most+1)->aW (gW most) P:=fun P hP=>(kQ h0 h1).mono fun r hr=>by rw[hr];exact hP
  have hbig:m<=most+1/\most+1<=most+1/\(most+1<=most->∀j x,i<=j->ss[j]? =some x->iF (dv L) x):=⟨by omega,by omega,fun h=>by omega⟩
  unfold UA
  rw[e1]
  refine au ii (ar (fun hi=>ar (fun hm=>aX ii ii fun c hc hmem=> ?_) fun hm=>aj ⟨by omega,by omega,fun h=>by omega⟩) fun hi=>aj ⟨by omega,by omega,fun _ j x hj hx=> ?_⟩)
  ·obtain⟨⟨c1,c2⟩,c3,c4,c5,c6⟩:=hw c hmem
   refine au ii (ar (fun _=>big _ hbig) fun hf4=>au ii (ar (fun _=>big _ hbig) fun hk4=> ?_))
   obtain⟨q,eF,hq⟩:aW (Tv c most (c.fields.length+1) ((0:Nat):Int) []) _:=Iv hn c3 ii h0 h1 ii ii (by simp) (fun x hx=>by simp at hx)
   rw[show((0:Nat):Int)=0 from rfl] at eF
   rw[eF,VU]
   clear eF
   rcases hq with rfl|⟨rfl,hq⟩
   ·exact aj hbig
   obtain⟨q,eK,hq2⟩:aW (Ry c most (c.aw.length+1) ((0:Nat):Int) (c.fields.map (·.val))) _:=Iu hn c5 ii h0 h1 (l0:=c.fields.map (·.val)) (by simp;omega) ii ii (by simp) (fun x hx=>by simp at hx)
   rw[show((0:Nat):Int)=0 from rfl] at eK
   show aW ((Ry c most (c.aw.length+1) 0 (c.fields.map (·.val))).bind _) _
   rw[eK,VU]
   clear eK
   rcases hq2 with rfl|⟨rfl,hq2⟩
   ·exact aj hbig
   show aW ((Rx rec c _ most m _).bind _) _
   unfold Rx
   rw[VY]
   have e2:((L+1:Nat):Int)-1=(L:Int):=by omega
   rw[e2]
   refine au ii ?_
   rw[VY]
   refine au ii ?_
   rw[VY]
   refine aq (h _ (most-m) (fun x hx=> ?_) (by simp;omega) ii ii) fun k ⟨k0,k1,k2⟩=> ?_
   ·rcases V8.1 hx with hx|hx
    ·obtain⟨y,hy,rfl⟩:=WQ.1 hx
     exact c4 y hy
    ·obtain⟨y,hy,rfl⟩:=WQ.1 hx
     exact c6 y hy
   rw[VY]
   refine au ii ?_
   rw[VU]
   refine(Ir hL hn h hw hl h0 h1 (f:=f) (i:=i+1) (m:=m+k) ii ii ii ii).mono fun r ⟨r0,r1,r2⟩=>⟨by omega,r1,fun hr jj y hj hy=> ?_⟩
   by_cases e:jj=i
   ·subst e
    rw[show((jj:Int)).toNat=jj by omega,hy] at hc
    cases hc
    have qv:=k2 ii
    refine⟨by omega,by omega,hq,fun f hf=>qv _ (Wu _ (List.mem_map_of_mem hf)),fun k hk=> ?_,fun k hk=>qv _ (WB _ (List.mem_map_of_mem hk)),?_⟩
    ·have:=hq2 k hk
     exact⟨by omega,fun s hs=>by have:=this.2 s hs;omega,(c5 k hk).eb⟩
    ·refine Wq (Fg _ fun k hk=>(hq2 k hk).1) ?_
     exact Wq (Nat.pow_le_pow_right (n:=11) ii (show c.aw.length<=4 by omega)) (by decide)
   ·exact r2 hr jj y ii hy
  ·have:=(VZ.1 hx).1
   omega
theorem It {n L:Nat} (hL:L<=1000) (hn:n<=9223372036854775807) {rec:List Va->Int->Int->Option Int} (h:MaT n L rec) {v:bt Va} (hw:WtC n (P4 n L) v) (hl:v.lists.length<=3) (hs:v.structs.length<=3) {most:Int} (h0: -1<=most) (h1:most<=1000):∀{f i:Nat} {m:Int},i<=v.lists.length->v.lists.length<f+i->0<=m->m<=most+1->aW (UC rec v ((L+1:Nat):Int) most f i m) fun r=>m<=r/\r<=most+1/\(r<=most->(∀j x,i<=j->v.lists[j]? =some x->lE (dv L) x)/\∀c∈v.structs,iF (dv L) c)
 |0,i,m,g1,g2,_,_=>by omega
 |f+1,i,m,g1,g2,g3,g4=>by
  have e1:((i:Int)+1)=((i+1:Nat):Int):=by omega
  have e2:((L+1:Nat):Int)-1=(L:Int):=by omega
  have big:∀P:Int->Prop,P (most+1)->aW (gW most) P:=fun P hP=>(kQ h0 h1).mono fun r hr=>by rw[hr];exact hP
  have hbig:m<=most+1/\most+1<=most+1/\(most+1<=most->(∀j x,i<=j->v.lists[j]? =some x->lE (dv L) x)/\∀c∈v.structs,iF (dv L) c):=⟨by omega,by omega,fun h=>by omega⟩
  unfold UC
  rw[e1,e2]
  refine au ii (ar (fun hi=>aX ii ii fun c hc hmem=> ?_) fun hi=> ?_)
  ·have c1:=hw.il c hmem
   have c2:=hw.rl c hmem
   refine au ii (ar (fun _=>big _ hbig) fun hi3=>aX ii ii fun c' hc' _=> ?_)
   rw[hc] at hc'
   cases hc'
   refine au ii (ar (fun _=>big _ hbig) fun hr2=>aX ii ii fun c' hc' _=> ?_)
   rw[hc] at hc'
   cases hc'
   refine nj (by simp;omega) (aX ii ii fun c' hc' _=> ?_)
   rw[hc] at hc'
   cases hc'
   refine nj ii (au ii (au ii (aq (h _ (most-m) (fun x hx=> ?_) (by simp;omega) ii ii) fun k ⟨k0,k1,k2⟩=>au ii ?_)))
   ·rcases V8.1 hx with hx|hx
    ·exact hw.i c hmem x hx
    ·exact hw.r c hmem x hx
   refine(It hL hn h hw hl hs h0 h1 (f:=f) (i:=i+1) (m:=m+k) ii ii ii ii).mono fun r ⟨r0,r1,r2⟩=>⟨by omega,r1,fun hr=>⟨fun jj y hj hy=> ?_,(r2 hr).2⟩⟩
   by_cases e:jj=i
   ·subst e
    rw[show((jj:Int)).toNat=jj by omega,hy] at hc
    cases hc
    have qv:=k2 ii
    exact⟨by omega,by omega,fun x hx=>qv x (Wu _ hx),fun x hx=>qv x (WB _ hx)⟩
   ·exact(r2 hr).1 jj y ii hy
  ·refine(Ir hL ii h (fun c hc=>⟨⟨hw.fl c hc,hw.kl c hc⟩,hw.A6 c hc,hw.f c hc,hw.a c hc,hw.k c hc⟩) ii h0 h1 (f:=v.structs.length+1) (i:=0) (m:=m) ii ii g3 g4).mono fun r ⟨r0,r1,r2⟩=>⟨r0,r1,fun hr=>⟨fun j x hj hx=> ?_,fun c hc=> ?_⟩⟩
   ·have:=(VZ.1 hx).1
    omega
   ·obtain⟨j,hj⟩:=Wj.1 hc
    exact r2 hr j c ii hj
theorem Rw {n L:Nat} (hL:L<=1000) (hn:n<=9223372036854775807) {rec:List Va->Int->Int->Option Int} (h:MaT n L rec):MeT n (L+1) (Uz rec):=by
 intro v most hw h0 h1
 have hw:WtC n (P4 n L) v:=hw
 have l1:=hw.ll
 have l2:=hw.sl
 have big:∀P:Int->Prop,P (most+1)->aW (gW most) P:=fun P hP=>(kQ ii h1).mono fun r hr=>by rw[hr];exact hP
 have hbig:0<=most+1/\most+1<=most+1/\(most+1<=most->GV (L+1) v):=⟨by omega,by omega,fun h=>by omega⟩
 unfold Uz
 refine ar (fun _=>big _ hbig) fun _=>ar (fun _=>big _ hbig) fun hm=>aq (MM ii hw.sc) fun ok hok=>ar (fun hs=>au ii (ar (fun _=>big _ hbig) fun hl3=>au ii (ar (fun _=>big _ hbig) fun hs3=> ?_))) fun _=>big _ hbig
 refine(It hL hn h hw ii ii ii h1 (f:=v.lists.length+1) (i:=0) (m:=1) ii ii ii ii).mono fun r ⟨r0,r1,r2⟩=>⟨by omega,r1,fun hr=> ?_⟩
 have h2:=r2 hr
 refine kd.of ⟨hok hs,by omega,by omega,fun c hc=> ?_,h2.2⟩
 obtain⟨j,hj⟩:=Wj.1 hc
 exact h2.1 j c ii hj
theorem NK {n:Nat} {rec:List Va->Int->Int->Option Int}:MeT n 0 (Uz rec):=by
 intro v most hw h0 h1
 unfold Uz
 exact ar (fun _=>(kQ ii h1).mono fun r hr=>⟨by omega,by omega,fun h=>by omega⟩) fun h=>by omega
theorem Is {n:Nat} (hn:n<=9223372036854775807):∀{f L:Nat},L<=1000->L<f->MeT n L (meR f)
 |0,L,_,h=>by omega
 |f+1,0,_,_=>NK
 |f+1,L+1,h1,h=>Rw ii hn (Ix (Is hn ii ii))
theorem F0 {n:Nat} (hn:n<=9223372036854775807) {x:Va} (hx:P4 n 3 x):aW (qZ x) fun b=>b=true->Jw 2 x:=by
 have h:=Ix (Is hn (f:=5) (L:=3) ii ii) [x] 60 (fun y hy=>by rw[V1.1 hy];exact hx) (by simp) ii ii
 unfold qZ maR
 refine aq h fun r ⟨r0,r1,r2⟩=>aj fun hb=> ?_
 have:=Wp hb
 exact r2 this x (V1.2 rfl)
theorem rH:ou=some true:=by kernel_rfl
theorem Sf {x:Va} {hid:Bool} {d:bA} (h:fB x hid=some (d,[])):sK x hid=some (d,0):=by
 unfold sK
 rw[h]
 rfl
theorem Se {x:Va} {hid:Bool} {d:bA} {e:dh} {r:List dh} (h:fB x hid=some (d,e::r)) (hl:(e::r).length<=1000):sK x hid=some (Fy,e.kG):=by
 unfold sK
 rw[h,VU]
 show(aR (e::r)).bind _=_
 rw[bL ii]
 show(if((e::r).length:Int)>0 then _ else _)=_
 rw[HP (by rw[V5];omega)]
 rfl
def fG (l:List Sv.Span) (u:Int):Prop:=∃s∈l,s.lo<=u/\u<=s.hi
theorem eh (u:Int):¬fG [] u:=fun⟨s,h,_⟩=>by cases h
theorem dU {s:Sv.Span} {l:List Sv.Span} {u:Int}:fG (s::l) u↔(s.lo<=u/\u<=s.hi)\/fG l u:=by
 unfold fG
 constructor
 ·rintro⟨x,hx,h⟩
  rcases V9.1 hx with rfl|hx
  ·exact .inl h
  ·exact .inr ⟨x,hx,h⟩
 ·rintro(h|⟨x,hx,h⟩)
  ·exact⟨s,V0 ..,h⟩
  ·exact⟨x,VX _ hx,h⟩
theorem jE {l r:List Sv.Span} {u:Int}:fG (l++r) u↔fG l u\/fG r u:=by
 induction l with
 |nil=>exact⟨.inr,fun h=>h.elim (fun h=>(eh u h).elim) id⟩
 |cons s l ih=>rw[XM,dU,dU,ih,or_assoc]
theorem fj {s:Sv.Span} {u:Int}:fG [s] u↔s.lo<=u/\u<=s.hi:=by
 rw[dU]
 exact⟨fun h=>h.elim id fun h=>(eh u h).elim,.inl⟩
abbrev oB (l:List Sv.Span):Prop:=l.Pairwise fun x y=>x.hi<y.lo
theorem RM {α:Type} {cmp:α->α->Option Int} {l:List α} (h:∀(i:Nat) (x y:α) (c:Int),l[i]? =some x->l[i+1]? =some y->cmp y x=some c->0<=c):∀{f j:Nat} {r:List α},kC cmp 0 f l j=some r->r=l
 |0,_,_,e=>by cases e
 |f+1,j,r,e=>by
  unfold kC at e
  by_cases g:(j:Int)>0
  ·rw[HP g] at e
   obtain⟨j1,x,h1,h2,e⟩:=az e
   obtain⟨_,e⟩:=ah e
   obtain⟨j2,y,h3,h4,e⟩:=az e
   obtain⟨c,h5,e⟩:=aa e
   have:j1=j2+1:=by omega
   subst this
   have:=h j2 y x c h4 h2 h5
   rw[TP ii] at e
   exact(Wm e).symm
  ·rw[TP g] at e
   exact(Wm e).symm
theorem IG {α:Type} {cmp:α->α->Option Int} {l:List α} (h:∀(i:Nat) (x y:α) (c:Int),l[i]? =some x->l[i+1]? =some y->cmp y x=some c->0<=c) {n:Int}:∀{f i:Nat} {r:List α},fy cmp 0 n f l i=some r->r=l
 |0,_,_,e=>by cases e
 |f+1,i,r,e=>by
  unfold fy at e
  by_cases g:(i:Int)<n
  ·rw[HP g] at e
   obtain⟨l',h1,e⟩:=aa e
   rw[RM h h1] at e
   obtain⟨_,e⟩:=ah e
   have e1:((i:Int)+1)=((i+1:Nat):Int):=by omega
   rw[e1] at e
   exact IG h e
  ·rw[TP g] at e
   exact(Wm e).symm
theorem QH {α:Type} {cmp:α->α->Option Int} {l r:List α} (h:∀(i:Nat) (x y:α) (c:Int),l[i]? =some x->l[i+1]? =some y->cmp y x=some c->0<=c) (e:gC cmp l=some r):r=l:=by
 unfold gC at e
 obtain⟨_,e⟩:=ah e
 by_cases g:(l.length:Int)<=12
 ·rw[HP g] at e
  exact IG h (i:=1) e
 ·rw[TP g] at e
  cases e
theorem oB.at_ {l:List Sv.Span} (h:oB l) {i:Nat} {x y:Sv.Span} (hx:l[i]? =some x) (hy:l[i+1]? =some y):x.hi<y.lo:=by
 obtain⟨h1,h2⟩:=VZ.1 hx
 obtain⟨h3,h4⟩:=VZ.1 hy
 have:=WS.1 h i (i+1) h1 h3 ii
 rwa [h2,h4] at this
theorem yD {l r:List Sv.Span} (h:oB l) (ho:∀s∈l,s.lo<=s.hi) (e:gC zG l=some r):r=l:=QH (fun i x y c hx hy hc=>by
 have h1:=h.at_ hx hy
 have h2:=ho x (V6 hx)
 unfold zG K9 Kw at hc
 simp only[VU,Xm,X6] at hc
 rw[TP ii,HP ii] at hc
 cases hc
 decide) e
structure Cn (next:Int->Option Int) (P:Int->Prop) (B:Int) (l:List Sv.Span):Prop where
 eO:∀s∈l,-B<=s.lo/\s.hi<=B/\s.lo<=s.hi/\P s.lo/\P s.hi
 ap:l.Pairwise fun x y=>x.hi<y.lo/\∀m,next x.hi=some m->m<y.lo
theorem Cn.E0 {next:Int->Option Int} {P:Int->Prop} {B:Int} {l:List Sv.Span} (h:Cn next P B l):oB l:=h.ap.imp fun h=>h.1
theorem Cn.ord {next:Int->Option Int} {P:Int->Prop} {B:Int} {l:List Sv.Span} (h:Cn next P B l):∀s∈l,s.lo<=s.hi:=fun s hs=>(h.eO s hs).2.2.1
section
variable {next:Int->Option Int} {P:Int->Prop} {B:Int}
theorem nP (hnx:∀x m,next x=some m->x<m/\∀u,P u->x<u->m<=u):∀{r out o:List Sv.Span},Cn next P B out->(∀s∈r,-B<=s.lo/\s.hi<=B/\s.lo<=s.hi/\P s.lo/\P s.hi)->oB (out++r)->iI next r out=some o->Cn next P B o/\∀u,P u->(fG o u↔fG out u\/fG r u)
 |[],out,o,h,_,_,e=>by
  cases e
  exact⟨h,fun u _=>⟨.inl,fun g=>g.elim id fun g=>(eh u g).elim⟩⟩
 |s::r,out,o,h,hr,ha,e=>by
  have hs:=hr s (V0 ..)
  have hr':=fun x hx=>hr x (VX s hx)
  unfold iI at e
  obtain⟨_,e⟩:=ah e
  rcases Yg out with rfl|⟨q,p,rfl⟩
  ·rw[TP (by simp)] at e
   obtain⟨_,e⟩:=aC e
   obtain⟨g1,g2⟩:=nP hnx (out:=[s]) ⟨fun x hx=>by rw[V1.1 hx];exact hs,WH _ _⟩ hr' ha e
   refine⟨g1,fun u hu=> ?_⟩
   rw[g2 u hu,fj,dU]
   exact⟨.inr,fun g=>g.elim (fun g=>(eh u g).elim) id⟩
  ·rw[Xl] at h ha e⊢
   have hp:=h.eO p (by simp)
   have hap:=Wx.1 h.ap
   have haa:=Wx.1 ha
   have hps:p.hi<s.lo:=haa.2.2 p (by simp) s (by simp)
   rw[HP (by rw[V7,Ws];omega)] at e
   obtain⟨j,p',hj,hp',e⟩:=az e
   have:j=q.length:=by rw[V7,Ws] at hj;omega
   subst this
   rw[Wh (V2 _),Xh] at hp'
   cases hp'
   obtain⟨m,hm,e⟩:=aa e
   have hmx:=hnx p.hi m hm
   by_cases g:s.lo<=m
   ·rw[HP g] at e
    obtain⟨j,p',hj',hp',e⟩:=az e
    have:j=q.length:=by omega
    subst this
    rw[Wh (V2 _),Xh] at hp'
    cases hp'
    obtain⟨j,p',hj',hp',e⟩:=bY e
    have:j=q.length:=by omega
    subst this
    rw[Wh (V2 _),Xh] at hp'
    cases hp'
    have emx:mx p.hi s.hi=s.hi:=by unfold mx;rw[HP ii]
    rw[Yf _ _ (V2 _),Xh,emx] at e
    have e:iI next r (q++[⟨p.lo,s.hi⟩])=some o:=e
    obtain⟨g1,g2⟩:=nP hnx (out:=q++[⟨p.lo,s.hi⟩]) ⟨fun x hx=>by
     rcases V8.1 hx with hx|hx
     ·exact h.eO x (Wu _ hx)
     ·rw[V1.1 hx]
      exact⟨hp.1,hs.2.1,by show p.lo<=s.hi;omega,hp.2.2.2.1,hs.2.2.2.2⟩,Wx.2 ⟨hap.1,WH _ _,fun x hx y hy=>by
     rw[V1.1 hy]
     exact hap.2.2 x hx p (by simp)⟩⟩ hr' (Wx.2 ⟨Wx.2 ⟨(Wx.1 haa.1).1,WH _ _,fun x hx y hy=>by
      rw[V1.1 hy]
      exact(Wx.1 haa.1).2.2 x hx p (by simp)⟩,(WO.1 haa.2.1).2,fun x hx y hy=>by
      rcases V8.1 hx with hx|hx
      ·exact haa.2.2 x (Wu _ hx) y (VX _ hy)
      ·rw[V1.1 hx]
       exact(WO.1 haa.2.1).1 y hy⟩) e
    refine⟨g1,fun u hu=> ?_⟩
    rw[g2 u hu,jE,fj,jE,fj,dU]
    have:(p.lo<=u/\u<=s.hi)↔(p.lo<=u/\u<=p.hi)\/(s.lo<=u/\u<=s.hi):=by
     constructor
     ·intro x
      by_cases y:u<=p.hi
      ·exact .inl ⟨x.1,y⟩
      ·have:=hmx.2 u hu ii
       exact .inr ⟨by omega,x.2⟩
     ·rintro(x|x)<;>omega
    show(fG q u\/(p.lo<=u/\u<=s.hi))\/fG r u↔_
    rw[this]
    constructor
    ·rintro((g|g|g)|g)
     ·exact .inl (.inl g)
     ·exact .inl (.inr g)
     ·exact .inr (.inl g)
     ·exact .inr (.inr g)
    ·rintro((g|g)|g|g)
     ·exact .inl (.inl g)
     ·exact .inl (.inr (.inl g))
     ·exact .inl (.inr (.inr g))
     ·exact .inr g
   ·rw[TP g] at e
    obtain⟨_,e⟩:=aC e
    obtain⟨g1,g2⟩:=nP hnx (out:=(q++[p])++[s]) ⟨fun x hx=>by
     rcases V8.1 hx with hx|hx
     ·exact h.eO x hx
     ·rw[V1.1 hx]
      exact hs,Wx.2 ⟨h.ap,WH _ _,fun x hx y hy=>by
     rw[V1.1 hy]
     refine⟨haa.2.2 x hx s (by simp),fun m' hm'=> ?_⟩
     rcases V8.1 hx with hx|hx
     ·have:=(hap.2.2 x hx p (by simp)).2 m' hm'
      omega
     ·rw[V1.1 hx,hm] at hm'
      cases hm'
      omega⟩⟩ hr' (by rw[WG];exact ha) e
    refine⟨g1,fun u hu=> ?_⟩
    rw[g2 u hu,jE,fj,dU,or_assoc]
theorem DI (hnx:∀x m,next x=some m->x<m):∀{r out o:List Sv.Span},((out++r).Pairwise fun x y=>x.hi<y.lo/\∀m,next x.hi=some m->m<y.lo)->iI next r out=some o->o=out++r
 |[],out,o,_,e=>by
  cases e
  rw[Wy]
 |s::r,out,o,h,e=>by
  have h':((out++[s])++r).Pairwise fun x y=>x.hi<y.lo/\∀m,next x.hi=some m->m<y.lo:=by rw[WG];exact h
  have fin:∀{o},iI next r (out++[s])=some o->o=out++s::r:=fun e=>by
   have:=DI hnx h' e
   rw[this,WG]
   rfl
  unfold iI at e
  obtain⟨_,e⟩:=ah e
  by_cases g0:(out.length:Int)>0
  ·rw[HP g0] at e
   obtain⟨j,p,hj,hp,e⟩:=az e
   obtain⟨m,hm,e⟩:=aa e
   have:=((Wx.1 h).2.2 p (V6 hp) s (by simp)).2 m hm
   rw[TP ii] at e
   obtain⟨_,e⟩:=aC e
   exact fin e
  ·rw[TP g0] at e
   obtain⟨_,e⟩:=aC e
   exact fin e
theorem vH (hnx:∀x m,next x=some m->x<m/\∀u,P u->x<u->m<=u) {l o:List Sv.Span} (hr:∀s∈l,-B<=s.lo/\s.hi<=B/\s.lo<=s.hi/\P s.lo/\P s.hi) (ha:oB l) (e:jS next l=some o):Cn next P B o/\∀u,P u->(fG o u↔fG l u):=by
 unfold jS at e
 obtain⟨_,e⟩:=ah e
 obtain⟨l',h1,e⟩:=aa e
 rw[yD ha (fun s hs=>(hr s hs).2.2.1) h1] at e
 obtain⟨_,e⟩:=ah e
 obtain⟨g1,g2⟩:=nP hnx (out:=[]) ⟨fun s hs=>(by cases hs),List.Pairwise.nil⟩ hr ha e
 exact⟨g1,fun u hu=>(g2 u hu).trans ⟨fun g=>g.elim (fun g=>(eh u g).elim) id,.inr⟩⟩
theorem y5 (hnx:∀x m,next x=some m->x<m) {l o:List Sv.Span} (h:Cn next P B l) (e:jS next l=some o):o=l:=by
 unfold jS at e
 obtain⟨_,e⟩:=ah e
 obtain⟨l',h1,e⟩:=aa e
 rw[yD h.E0 h.ord h1] at e
 obtain⟨_,e⟩:=ah e
 exact DI hnx (out:=[]) h.ap e
end
def qP (_:Int):Prop:=True
def fV (u:Int):Prop:=u % 10000≠0
theorem ma (u:Int):u.tmod 10000=0↔u % 10000=0:=⟨fun h=>Int.emod_eq_zero_of_dvd (Int.dvd_of_tmod_eq_zero h),fun h=>Int.tmod_eq_zero_of_dvd (Int.dvd_of_emod_eq_zero h)⟩
theorem ui:∀x m,whole x=some m->x<m/\∀u,qP u->x<u->m<=u:=fun x m h=>by
 unfold whole at h
 obtain⟨_,h⟩:=ah h
 cases h
 exact⟨by omega,fun u _ hu=>by omega⟩
theorem w8:∀x m,after x=some m->x<m/\∀u,fV u->x<u->m<=u:=fun x m h=>by
 unfold after at h
 obtain⟨_,h⟩:=ah h
 by_cases g:(x+1).tmod 10000=0
 ·rw[HP g] at h
  obtain⟨_,h⟩:=ah h
  cases h
  rw[ma] at g
  exact⟨by omega,fun u hu h1=>by
   unfold fV at hu
   by_cases e:u=x+1
   ·subst e;exact(hu g).elim
   ·omega⟩
 ·rw[TP g] at h
  cases h
  exact⟨by omega,fun u _ hu=>by omega⟩
theorem SQ:∀x m,back x=some m->m<x/\∀u,qP u->u<x->u<=m:=fun x m h=>by
 unfold back at h
 obtain⟨_,h⟩:=ah h
 cases h
 exact⟨by omega,fun u _ hu=>by omega⟩
theorem Ly:∀x m,before x=some m->m<x/\∀u,fV u->u<x->u<=m:=fun x m h=>by
 unfold before at h
 obtain⟨_,h⟩:=ah h
 by_cases g:(x-1).tmod 10000=0
 ·rw[HP g] at h
  obtain⟨_,h⟩:=ah h
  cases h
  rw[ma] at g
  exact⟨by omega,fun u hu h1=>by
   unfold fV at hu
   by_cases e:u=x-1
   ·subst e;exact(hu g).elim
   ·omega⟩
 ·rw[TP g] at h
  cases h
  exact⟨by omega,fun u _ hu=>by omega⟩
theorem oK {a b u:Int}:mx a b<=u↔a<=u/\b<=u:=by unfold mx;split<;>omega
theorem qj {a b u:Int}:u<=mn a b↔u<=a/\u<=b:=by unfold mn;split<;>omega
theorem EZ {out r:List Sv.Span} {x:Sv.Span} (h:oB (out++x::r)):oB (out++r):=h.sublist (List.Sublist.append (List.Sublist.refl _) (List.sublist_cons_self ..))
theorem Jl {out r:List Sv.Span} {x y:Sv.Span} (h:oB (out++x::r)) (h1:x.lo<=y.lo) (h2:y.hi<=x.hi):oB ((out++[y])++r):=by
 have ha:=Wx.1 h
 have hb:=WO.1 ha.2.1
 rw[WG]
 refine Wx.2 ⟨ha.1,WO.2 ⟨fun z hz=> ?_,hb.2⟩,fun a haa z hz=> ?_⟩
 ·have:=hb.1 z hz
  omega
 ·rcases V9.1 hz with rfl|hz
  ·have:=ha.2.2 a haa x (V0 ..)
   omega
  ·exact ha.2.2 a haa z (VX _ hz)
theorem AS:∀{r out o:List Sv.Span},oB (out++r)->(∀s∈out,-100000000000<=s.lo/\s.hi<=100000000000/\s.lo<=s.hi/\qP s.lo/\qP s.hi)->LS r out=some o->oB o/\(∀s∈o,-100000000000<=s.lo/\s.hi<=100000000000/\s.lo<=s.hi/\qP s.lo/\qP s.hi)/\∀u,fG o u↔fG out u\/(fG r u/\ -100000000000<=u/\u<=100000000000)
 |[],out,o,ha,h,e=>by
  cases e
  rw[Wy] at ha
  exact⟨ha,h,fun u=>⟨.inl,fun g=>g.elim id fun g=>(eh u g.1).elim⟩⟩
 |x::r,out,o,ha,h,e=>by
  unfold LS at e
  by_cases g:mx x.lo (-100000000000)<=mn x.hi 100000000000
  ·rw[HP g] at e
   obtain⟨_,e⟩:=aC e
   have g1:x.lo<=mx x.lo (-100000000000):=(oK.1 (Wv _)).1
   have g2:mn x.hi 100000000000<=x.hi:=(qj.1 (Wv _)).1
   obtain⟨h1,h2,h3⟩:=AS (Jl ha (y:=⟨mx x.lo (-100000000000),mn x.hi 100000000000⟩) g1 g2) (fun s hs=>by
    rcases V8.1 hs with hs|hs
    ·exact h s hs
    ·rw[V1.1 hs]
     exact⟨(oK.1 (Wv _)).2,(qj.1 (Wv _)).2,g,trivial,trivial⟩) e
   refine⟨h1,h2,fun u=> ?_⟩
   rw[h3,jE,fj,dU,oK,qj]
   constructor
   ·rintro((y|y)|y)
    ·exact .inl y
    ·exact .inr ⟨.inl ⟨y.1.1,y.2.1⟩,y.1.2,y.2.2⟩
    ·exact .inr ⟨.inr y.1,y.2⟩
   ·rintro(y|⟨y|y,z⟩)
    ·exact .inl (.inl y)
    ·exact .inl (.inr ⟨⟨y.1,z.1⟩,y.2,z.2⟩)
    ·exact .inr ⟨y,z⟩
  ·rw[TP g] at e
   obtain⟨h1,h2,h3⟩:=AS (EZ ha) h e
   refine⟨h1,h2,fun u=> ?_⟩
   rw[h3,dU]
   constructor
   ·rintro(y|y)
    ·exact .inl y
    ·exact .inr ⟨.inr y.1,y.2⟩
   ·rintro(y|⟨y|y,z⟩)
    ·exact .inl y
    ·exact(g (X5 (oK.2 ⟨y.1,z.1⟩) (qj.2 ⟨y.2,z.2⟩))).elim
    ·exact .inr ⟨y,z⟩
theorem Ms {n m:Int} (h:Cu n=some m):n<=m/\fV m/\∀u,fV u->(n<=u↔m<=u):=by
 unfold Cu at h
 by_cases g:n.tmod 10000=0
 ·rw[HP g] at h
  obtain⟨_,h⟩:=ah h
  cases h
  rw[ma] at g
  refine⟨by omega,by unfold fV;omega,fun u hu=>⟨fun x=> ?_,fun x=>by omega⟩⟩
  unfold fV at hu
  by_cases e:u=n
  ·subst e;exact(hu g).elim
  ·omega
 ·rw[TP g] at h
  cases h
  rw[ma] at g
  exact⟨Wv _,g,fun u _=>Xs⟩
theorem Mu {n m:Int} (h:As n=some m):m<=n/\fV m/\∀u,fV u->(u<=n↔u<=m):=by
 unfold As at h
 by_cases g:n.tmod 10000=0
 ·rw[HP g] at h
  obtain⟨_,h⟩:=ah h
  cases h
  rw[ma] at g
  refine⟨by omega,by unfold fV;omega,fun u hu=>⟨fun x=> ?_,fun x=>by omega⟩⟩
  unfold fV at hu
  by_cases e:u=n
  ·subst e;exact(hu g).elim
  ·omega
 ·rw[TP g] at h
  cases h
  rw[ma] at g
  exact⟨Wv _,g,fun u _=>Xs⟩
theorem AU:∀{r out o:List Sv.Span},oB (out++r)->(∀s∈out,-1000000000000000<=s.lo/\s.hi<=1000000000000000/\s.lo<=s.hi/\fV s.lo/\fV s.hi)->LU r out=some o->oB o/\(∀s∈o,-1000000000000000<=s.lo/\s.hi<=1000000000000000/\s.lo<=s.hi/\fV s.lo/\fV s.hi)/\∀u,fV u->(fG o u↔fG out u\/(fG r u/\ -1000000000000000<=u/\u<=1000000000000000))
 |[],out,o,ha,h,e=>by
  cases e
  rw[Wy] at ha
  exact⟨ha,h,fun u _=>⟨.inl,fun g=>g.elim id fun g=>(eh u g.1).elim⟩⟩
 |x::r,out,o,ha,h,e=>by
  unfold LU at e
  obtain⟨lo,hlo,e⟩:=aa e
  obtain⟨hi,hhi,e⟩:=aa e
  obtain⟨l1,l2,l3⟩:=Ms hlo
  obtain⟨k1,k2,k3⟩:=Mu hhi
  have m1:=oK.1 l1
  have m2:=qj.1 k1
  have key:∀u,fV u->((lo<=u/\u<=hi)↔((x.lo<=u/\u<=x.hi)/\ -1000000000000000<=u/\u<=1000000000000000)):=fun u hu=>by
   rw[<-l3 u hu,<-k3 u hu,oK,qj]
   omega
  by_cases g:lo<=hi
  ·rw[HP g] at e
   obtain⟨_,e⟩:=aC e
   obtain⟨h1,h2,h3⟩:=AU (Jl ha (y:=⟨lo,hi⟩) m1.1 m2.1) (fun s hs=>by
    rcases V8.1 hs with hs|hs
    ·exact h s hs
    ·rw[V1.1 hs]
     exact⟨m1.2,m2.2,g,l2,k2⟩) e
   refine⟨h1,h2,fun u hu=> ?_⟩
   rw[h3 u hu,jE,fj,dU]
   show(fG out u\/(lo<=u/\u<=hi))\/_↔_
   rw[key u hu]
   constructor
   ·rintro((y|y)|y)
    ·exact .inl y
    ·exact .inr ⟨.inl y.1,y.2⟩
    ·exact .inr ⟨.inr y.1,y.2⟩
   ·rintro(y|⟨y|y,z⟩)
    ·exact .inl (.inl y)
    ·exact .inl (.inr ⟨y,z⟩)
    ·exact .inr ⟨y,z⟩
  ·rw[TP g] at e
   obtain⟨h1,h2,h3⟩:=AU (EZ ha) h e
   refine⟨h1,h2,fun u hu=> ?_⟩
   rw[h3 u hu,dU]
   constructor
   ·rintro(y|y)
    ·exact .inl y
    ·exact .inr ⟨.inr y.1,y.2⟩
   ·rintro(y|⟨y|y,z⟩)
    ·exact .inl y
    ·have:=(key u hu).2 ⟨y,z⟩
     omega
    ·exact .inr ⟨y,z⟩
structure CN (n:cL):Prop where
 i:Cn whole qP 100000000000 n.ints
 f:Cn after fV 1000000000000000 n.bC
theorem nM {s r:cL} (hi:oB s.ints) (hf:oB s.bC) (e:fZ s=some r):CN r/\(∀u,fG r.ints u↔fG s.ints u/\ -100000000000<=u/\u<=100000000000)/\∀u,fV u->(fG r.bC u↔fG s.bC u/\ -1000000000000000<=u/\u<=1000000000000000):=by
 unfold fZ at e
 obtain⟨_,e⟩:=ah e
 obtain⟨i,h1,e⟩:=aa e
 obtain⟨_,e⟩:=ah e
 obtain⟨f,h2,e⟩:=aa e
 obtain⟨i',h3,e⟩:=aa e
 obtain⟨f',h4,e⟩:=aa e
 cases e
 obtain⟨a1,a2,a3⟩:=AS (out:=[]) hi (fun s hs=>by cases hs) h1
 obtain⟨b1,b2,b3⟩:=AU (out:=[]) hf (fun s hs=>by cases hs) h2
 obtain⟨c1,c2⟩:=vH ui a2 a1 h3
 obtain⟨d1,d2⟩:=vH w8 b2 b1 h4
 exact⟨⟨c1,d1⟩,fun u=>((c2 u trivial).trans (a3 u)).trans ⟨fun g=>g.elim (fun g=>(eh u g).elim) id,.inr⟩,fun u hu=>((d2 u hu).trans (b3 u hu)).trans ⟨fun g=>g.elim (fun g=>(eh u g).elim) id,.inr⟩⟩
theorem NH:∀{r out o:List Sv.Span},(∀s∈r,-100000000000<=s.lo/\s.hi<=100000000000/\s.lo<=s.hi/\qP s.lo/\qP s.hi)->LS r out=some o->o=out++r
 |[],out,o,_,e=>by cases e;rw[Wy]
 |x::r,out,o,h,e=>by
  have hx:=h x (V0 ..)
  have e1:mx x.lo (-100000000000)=x.lo:=by unfold mx;rw[TP ii]
  have e2:mn x.hi 100000000000=x.hi:=by unfold mn;rw[TP ii]
  unfold LS at e
  rw[e1,e2,HP hx.2.2.1] at e
  obtain⟨_,e⟩:=aC e
  rw[NH (fun s hs=>h s (VX _ hs)) e,WG]
  rfl
theorem NJ:∀{r out o:List Sv.Span},(∀s∈r,-1000000000000000<=s.lo/\s.hi<=1000000000000000/\s.lo<=s.hi/\fV s.lo/\fV s.hi)->LU r out=some o->o=out++r
 |[],out,o,_,e=>by cases e;rw[Wy]
 |x::r,out,o,h,e=>by
  have hx:=h x (V0 ..)
  have e1:mx x.lo (-1000000000000000)=x.lo:=by unfold mx;rw[TP ii]
  have e2:mn x.hi 1000000000000000=x.hi:=by unfold mn;rw[TP ii]
  have e3:Cu x.lo=some x.lo:=by
   unfold Cu
   rw[TP fun g=>hx.2.2.2.1 ((ma _).1 g)]
  have e4:As x.hi=some x.hi:=by
   unfold As
   rw[TP fun g=>hx.2.2.2.2 ((ma _).1 g)]
  unfold LU at e
  rw[e1,e2,e3,VU,e4,VU,HP hx.2.2.1] at e
  obtain⟨_,e⟩:=aC e
  rw[NJ (fun s hs=>h s (VX _ hs)) e,WG]
  rfl
theorem mD {s r:cL} (h:CN s) (e:fZ s=some r):r=s:=by
 unfold fZ at e
 obtain⟨_,e⟩:=ah e
 obtain⟨i,h1,e⟩:=aa e
 obtain⟨_,e⟩:=ah e
 obtain⟨f,h2,e⟩:=aa e
 obtain⟨i',h3,e⟩:=aa e
 obtain⟨f',h4,e⟩:=aa e
 cases e
 have e1:i=s.ints:=NH (out:=[]) h.i.eO h1
 have e2:f=s.bC:=NJ (out:=[]) h.f.eO h2
 subst e1 e2
 rw[y5 (fun x m hm=>(ui x m hm).1) h.i h3,y5 (fun x m hm=>(w8 x m hm).1) h.f h4]
theorem rO {x:Sv.Span}:∀{r out o:List Sv.Span},oB r->oB out->(∀s∈out,s.hi<=x.hi\/s.hi<x.lo)->(∀s∈out,∀y∈r,s.hi<mx x.lo y.lo)->oN x r out=some o->oB o/\(∀s∈o,s.hi<=x.hi\/s.hi<x.lo)/\∀u,fG o u↔fG out u\/((x.lo<=u/\u<=x.hi)/\fG r u)
 |[],out,o,_,h1,h2,_,e=>by
  cases e
  exact⟨h1,h2,fun u=>⟨.inl,fun g=>g.elim id fun g=>(eh u g.2).elim⟩⟩
 |y::r,out,o,ha,h1,h2,h3,e=>by
  have ha':=WO.1 ha
  unfold oN at e
  by_cases g:mx x.lo y.lo<=mn x.hi y.hi
  ·rw[HP g] at e
   obtain⟨_,e⟩:=aC e
   have m1:=qj.1 (Wv (mn x.hi y.hi))
   obtain⟨c1,c2,c3⟩:=rO (out:=out++[⟨mx x.lo y.lo,mn x.hi y.hi⟩]) ha'.2 (Wx.2 ⟨h1,WH _ _,fun s hs z hz=>by
    rw[V1.1 hz]
    exact h3 s hs y (V0 ..)⟩) (fun s hs=>by
    rcases V8.1 hs with hs|hs
    ·exact h2 s hs
    ·rw[V1.1 hs]
     exact .inl m1.1) (fun s hs z hz=>by
    rcases V8.1 hs with hs|hs
    ·exact h3 s hs z (VX _ hz)
    ·rw[V1.1 hs]
     have:=ha'.1 z hz
     have:=oK.1 (Wv (mx x.lo z.lo))
     show mn x.hi y.hi<_
     omega) e
   refine⟨c1,c2,fun u=> ?_⟩
   rw[c3,jE,fj,dU,oK,qj]
   constructor
   ·rintro((z|z)|z)
    ·exact .inl z
    ·exact .inr ⟨⟨z.1.1,z.2.1⟩,.inl ⟨z.1.2,z.2.2⟩⟩
    ·exact .inr ⟨z.1,.inr z.2⟩
   ·rintro(z|⟨z,w|w⟩)
    ·exact .inl (.inl z)
    ·exact .inl (.inr ⟨⟨z.1,w.1⟩,z.2,w.2⟩)
    ·exact .inr ⟨z,w⟩
  ·rw[TP g] at e
   obtain⟨c1,c2,c3⟩:=rO ha'.2 h1 h2 (fun s hs z hz=>h3 s hs z (VX _ hz)) e
   refine⟨c1,c2,fun u=> ?_⟩
   rw[c3,dU]
   constructor
   ·rintro(z|z)
    ·exact .inl z
    ·exact .inr ⟨z.1,.inr z.2⟩
   ·rintro(z|⟨z,w|w⟩)
    ·exact .inl z
    ·exact(g (X5 (oK.2 ⟨z.1,w.1⟩) (qj.2 ⟨z.2,w.2⟩))).elim
    ·exact .inr ⟨z,w⟩
theorem Ez {b:List Sv.Span} (hb:oB b):∀{r out o:List Sv.Span},oB r->(∀s∈r,s.lo<=s.hi)->oB out->(∀s∈out,∀x∈r,s.hi<x.lo)->Bp b r out=some o->oB o/\∀u,fG o u↔fG out u\/(fG r u/\fG b u)
 |[],out,o,_,_,h1,_,e=>by
  cases e
  exact⟨h1,fun u=>⟨.inl,fun g=>g.elim id fun g=>(eh u g.1).elim⟩⟩
 |x::r,out,o,ha,ho,h1,h2,e=>by
  have ha':=WO.1 ha
  unfold Bp at e
  obtain⟨_,e⟩:=ah e
  obtain⟨out',h3,e⟩:=aa e
  have hx:=ho x (V0 ..)
  obtain⟨c1,c2,c3⟩:=rO hb h1 (fun s hs=> .inr (h2 s hs x (V0 ..))) (fun s hs y hy=>by
   have:=h2 s hs x (V0 ..)
   have:=oK.1 (Wv (mx x.lo y.lo))
   omega) h3
  obtain⟨d1,d2⟩:=Ez hb ha'.2 (fun s hs=>ho s (VX _ hs)) c1 (fun s hs z hz=>by
   have:=ha'.1 z hz
   have:=c2 s hs
   omega) e
  refine⟨d1,fun u=> ?_⟩
  rw[d2,c3,dU]
  constructor
  ·rintro((z|z)|z)
   ·exact .inl z
   ·exact .inr ⟨.inl z.1,z.2⟩
   ·exact .inr ⟨.inr z.1,z.2⟩
  ·rintro(z|⟨z|z,w⟩)
   ·exact .inl (.inl z)
   ·exact .inl (.inr ⟨z,w⟩)
   ·exact .inr ⟨z,w⟩
theorem wq {a b o:List Sv.Span} (ha:oB a) (ho:∀s∈a,s.lo<=s.hi) (hb:oB b) (e:jK a b=some o):oB o/\∀u,fG o u↔fG a u/\fG b u:=by
 unfold jK at e
 obtain⟨_,e⟩:=ah e
 obtain⟨c1,c2⟩:=Ez hb ha ho List.Pairwise.nil (fun s hs=>by cases hs) e
 exact⟨c1,fun u=>(c2 u).trans ⟨fun g=>g.elim (fun g=>(eh u g).elim) id,.inr⟩⟩
theorem D4 {next prev:Int->Option Int} {P:Int->Prop} (hnx:∀x m,next x=some m->x<m/\∀u,P u->x<u->m<=u) (hpv:∀x m,prev x=some m->m<x/\∀u,P u->u<x->u<=m) {hi:Int}:
  ∀{r:List Sv.Span} {lo:Int} {out o:List Sv.Span},oB r->(∀s∈r,s.lo<=s.hi/\s.lo<=hi+1)->(∀s∈r,∀u,P u->s.hi<u->lo<=u)->oB out->(∀s∈out,s.hi<lo)->(∀s∈r,∀t∈out,t.hi<s.lo)->rE next prev hi r lo out=some o->oB o/\∀u,P u->(fG o u↔fG out u\/(lo<=u/\u<=hi/\¬fG r u))
 |[],lo,out,o,_,_,_,h1,h2,_,e=>by
  unfold rE at e
  by_cases g:lo<=hi
  ·rw[HP g] at e
   unfold push at e
   split at e<;>cases e
   refine⟨Wx.2 ⟨h1,WH _ _,fun s hs z hz=>by rw[V1.1 hz];exact h2 s hs⟩,fun u _=> ?_⟩
   rw[jE,fj]
   exact⟨fun x=>x.elim .inl fun x=> .inr ⟨x.1,x.2,eh u⟩,fun x=>x.elim .inl fun x=> .inr ⟨x.1,x.2.1⟩⟩
  ·rw[TP g] at e
   cases e
   exact⟨h1,fun u _=>⟨.inl,fun x=>x.elim id fun x=>by omega⟩⟩
 |s::r,lo,out,o,ha,hs,hl,h1,h2,h3,e=>by
  have ha':=WO.1 ha
  have hs0:=hs s (V0 ..)
  unfold rE at e
  obtain⟨h,hh,e⟩:=aa e
  have hp:=hpv _ _ hh
  have fin:∀{out':List Sv.Span},oB out'->(∀t∈out',t.hi<s.lo)->(∀u,P u->(fG out' u↔fG out u\/(lo<=u/\u<s.lo)))->((next s.hi).bind fun lo=>rE next prev hi r lo out')=some o->oB o/\∀u,P u->(fG o u↔fG out u\/(lo<=u/\u<=hi/\¬fG (s::r) u)):=fun{out'} k1 k2 k3 e=>by
   obtain⟨m,hm,e⟩:=aa e
   have hn:=hnx _ _ hm
   obtain⟨c1,c2⟩:=D4 hnx hpv ha'.2 (fun z hz=>hs z (VX _ hz)) (fun z hz u hu h4=>hn.2 u hu (by have:=ha'.1 z hz;have:=(hs z (VX _ hz)).1;omega)) k1 (fun t ht=>by have:=k2 t ht;omega) (fun z hz t ht=>by have:=k2 t ht;have:=ha'.1 z hz;omega) e
   refine⟨c1,fun u hu=> ?_⟩
   rw[c2 u hu,k3 u hu,dU]
   constructor
   ·rintro((x|x)|x)
    ·exact .inl x
    ·refine .inr ⟨x.1,by omega,fun y=> ?_⟩
     rcases y with y|⟨z,hz,y⟩
     ·omega
     ·have:=ha'.1 z hz
      omega
    ·refine .inr ⟨hl s (V0 ..) u hu ii,x.2.1,fun y=> ?_⟩
     rcases y with y|y
     ·omega
     ·exact x.2.2 y
   ·rintro(x|x)
    ·exact .inl (.inl x)
    ·by_cases y:u<s.lo
     ·exact .inl (.inr ⟨x.1,y⟩)
     ·by_cases z:u<=s.hi
      ·exact(x.2.2 (.inl ⟨by omega,z⟩)).elim
      ·exact .inr ⟨hn.2 u hu ii,x.2.1,fun w=>x.2.2 (.inr w)⟩
  by_cases g:lo<=h
  ·rw[HP g] at e
   obtain⟨_,e⟩:=aC e
   refine fin (Wx.2 ⟨h1,WH _ _,fun t ht z hz=>by rw[V1.1 hz];exact h2 t ht⟩) (fun t ht=> ?_) (fun u hu=> ?_) e
   ·rcases V8.1 ht with ht|ht
    ·exact h3 s (V0 ..) t ht
    ·rw[V1.1 ht]
     exact hp.1
   ·rw[jE,fj]
    exact⟨fun x=>x.elim .inl fun x=> .inr ⟨x.1,by have:u<=h:=x.2;omega⟩,fun x=>x.elim .inl fun x=> .inr ⟨x.1,hp.2 u hu x.2⟩⟩
  ·rw[TP g] at e
   refine fin h1 (fun t ht=>h3 s (V0 ..) t ht) (fun u hu=> ?_) e
   exact⟨.inl,fun x=>x.elim id fun x=>by have:=hp.2 u hu x.2;omega⟩
theorem EA {next prev:Int->Option Int} {P:Int->Prop} (hnx:∀x m,next x=some m->x<m/\∀u,P u->x<u->m<=u) (hpv:∀x m,prev x=some m->m<x/\∀u,P u->u<x->u<=m) {l o:List Sv.Span} {all:Sv.Span} (ha:oB l) (hs:∀s∈l,s.lo<=s.hi/\s.lo<=all.hi+1) (hl:∀s∈l,all.lo<=s.hi+1) (e:oO next prev l all=some o):oB o/\∀u,P u->(fG o u↔all.lo<=u/\u<=all.hi/\¬fG l u):=by
 unfold oO Oj at e
 rw[VY] at e
 obtain⟨_,e⟩:=ah e
 obtain⟨r,e1,e⟩:=aa e
 cases e
 obtain⟨c1,c2⟩:=D4 hnx hpv ha hs (fun s h u _ h1=>by have:=hl s h;omega) List.Pairwise.nil (fun s hs=>by cases hs) (fun s _ t ht=>by cases ht) e1
 exact⟨c1,fun u hu=>(c2 u hu).trans ⟨fun g=>g.elim (fun g=>(eh u g).elim) id,.inr⟩⟩
def NM (n:cL) (v:Int):Prop:=(v % 10000=0/\fG n.ints (v/10000))\/(fV v/\fG n.bC v)
theorem Nx {a r:cL} (h:CN a) (e:Gk a=some r):CN r/\(∀u,fG r.ints u↔(-100000000000<=u/\u<=100000000000)/\¬fG a.ints u)/\∀u,fV u->(fG r.bC u↔(-1000000000000000<=u/\u<=1000000000000000)/\¬fG a.bC u):=by
 unfold Gk LG DK zg at e
 obtain⟨x,h1,e⟩:=aa e
 rw[mD h h1] at e
 rw[VU,VU] at e
 have e:((oO whole back a.ints ⟨-100000000000,100000000000⟩).bind fun i=>(oO after before a.bC ⟨-999999999999999,999999999999999⟩).bind fun f=>fZ ⟨i,f⟩)=some r:=e
 obtain⟨i,h2,e⟩:=aa e
 obtain⟨f,h3,e⟩:=aa e
 obtain⟨i1,i2⟩:=EA ui SQ h.i.E0 (fun s hs=>by have:=h.i.eO s hs;exact⟨this.2.2.1,by show s.lo<=100000000000+1;omega⟩) (fun s hs=>by have:=h.i.eO s hs;show -100000000000<=s.hi+1;omega) h2
 obtain⟨f1,f2⟩:=EA w8 Ly h.f.E0 (fun s hs=>by have:=h.f.eO s hs;exact⟨this.2.2.1,by show s.lo<=999999999999999+1;omega⟩) (fun s hs=>by have:=h.f.eO s hs;show -999999999999999<=s.hi+1;omega) h3
 obtain⟨c1,c2,c3⟩:=nM i1 f1 e
 refine⟨c1,fun u=> ?_,fun u hu=> ?_⟩
 ·rw[c2,i2 u trivial]
  exact⟨fun g=>⟨g.2,g.1.2.2⟩,fun g=>⟨⟨g.1.1,g.1.2,g.2⟩,g.1⟩⟩
 ·rw[c3 u hu,f2 u hu]
  refine⟨fun g=>⟨g.2,g.1.2.2⟩,fun g=>⟨⟨?_,?_,g.2⟩,g.1⟩⟩
  ·have:=g.1
   unfold fV at hu
   show -999999999999999<=u
   omega
  ·have:=g.1
   unfold fV at hu
   show u<=999999999999999
   omega
theorem Py {a b r:cL} (ha:CN a) (hb:CN b) (e:He a b=some r):CN r/\(∀u,fG r.ints u↔fG a.ints u/\fG b.ints u)/\∀u,fV u->(fG r.bC u↔fG a.bC u/\fG b.bC u):=by
 unfold He at e
 obtain⟨x,h1,e⟩:=aa e
 obtain⟨y,h2,e⟩:=aa e
 rw[mD ha h1,mD hb h2] at e
 obtain⟨i,h3,e⟩:=aa e
 obtain⟨f,h4,e⟩:=aa e
 obtain⟨i1,i2⟩:=wq ha.i.E0 ha.i.ord hb.i.E0 h3
 obtain⟨f1,f2⟩:=wq ha.f.E0 ha.f.ord hb.f.E0 h4
 obtain⟨c1,c2,c3⟩:=nM i1 f1 e
 refine⟨c1,fun u=> ?_,fun u hu=> ?_⟩
 ·rw[c2,i2]
  exact⟨fun g=>g.1,fun g=>⟨g,by
   obtain⟨s,hs,h5⟩:=g.1
   have:=ha.i.eO s hs
   omega⟩⟩
 ·rw[c3 u hu,f2]
  exact⟨fun g=>g.1,fun g=>⟨g,by
   obtain⟨s,hs,h5⟩:=g.1
   have:=ha.f.eO s hs
   omega⟩⟩
theorem Gp {a b r:cL} (ha:CN a) (hb:CN b) (e:ld a b=some r):CN r/\∀v,NM r v↔NM a v/\¬NM b v:=by
 unfold ld at e
 obtain⟨c,h1,e⟩:=aa e
 obtain⟨n1,n2,n3⟩:=Nx hb h1
 obtain⟨a1,a2,a3⟩:=Py ha n1 e
 refine⟨a1,fun v=> ?_⟩
 unfold NM
 by_cases g:v % 10000=0
 ·have gf:¬fV v:=fun x=>x g
  have f1:∀n:cL,((v % 10000=0/\fG n.ints (v/10000))\/(fV v/\fG n.bC v))↔fG n.ints (v/10000):=fun n=>⟨fun x=>x.elim (fun x=>x.2) fun x=>(gf x.1).elim,fun x=> .inl ⟨g,x⟩⟩
  rw[f1,f1,f1,a2,n2]
  refine⟨fun x=>⟨x.1,x.2.2⟩,fun x=>⟨x.1,?_,x.2⟩⟩
  obtain⟨s,hs,h5⟩:=x.1
  have:=ha.i.eO s hs
  omega
 ·have f1:∀n:cL,((v % 10000=0/\fG n.ints (v/10000))\/(fV v/\fG n.bC v))↔fG n.bC v:=fun n=>⟨fun x=>x.elim (fun x=>(g x.1).elim) fun x=>x.2,fun x=> .inr ⟨g,x⟩⟩
  rw[f1,f1,f1,a3 v g,n3 v g]
  refine⟨fun x=>⟨x.1,x.2.2⟩,fun x=>⟨x.1,?_,x.2⟩⟩
  obtain⟨s,hs,h5⟩:=x.1
  have:=ha.f.eO s hs
  omega
theorem Cq {u best:Int} {found:Bool} {p:Int×Bool} (e:take u best found=some p):p.2=true:=by
 unfold take at e
 cases found with
 |false=>cases e;rfl
 |true=>
  rw[HP rfl] at e
  obtain⟨c,_,e⟩:=aa e
  cases c<;>(cases e;rfl)
theorem DA:∀{l:List Sv.Span} {best:Int} {found:Bool} {p:Int×Bool},A4 l best found=some p->p.2=(found|| !l.isEmpty)
 |[],best,found,p,e=>by cases e;simp
 |y::r,best,found,p,e=>by
  unfold A4 at e
  obtain⟨n,_,e⟩:=aa e
  obtain⟨_,e⟩:=ah e
  obtain⟨q,hq,e⟩:=aa e
  rw[DA e,Cq hq]
  simp
theorem Dy:∀{l:List Sv.Span} {best:Int} {found:Bool} {p:Int×Bool},A3 l best found=some p->p.2=(found|| !l.isEmpty)
 |[],best,found,p,e=>by cases e;simp
 |y::r,best,found,p,e=>by
  unfold A3 at e
  obtain⟨n,_,e⟩:=aa e
  obtain⟨q,hq,e⟩:=aa e
  rw[Dy e,Cq hq]
  simp
theorem Gs {n:cL} (h:CN n) {p:Int×Bool} (e:lk n=some p):p.2=true↔∃v,NM n v:=by
 unfold lk at e
 obtain⟨x,h1,e⟩:=aa e
 rw[mD h h1] at e
 obtain⟨_,e⟩:=ah e
 obtain⟨q,h2,e⟩:=aa e
 obtain⟨_,e⟩:=ah e
 rw[Dy e,DA h2]
 constructor
 ·intro g
  rcases hi:n.ints with _|⟨s,r⟩
  ·rcases hf:n.bC with _|⟨s,r⟩
   ·rw[hi,hf] at g
    cases g
   ·have:=h.f.eO s (by rw[hf];simp)
    exact⟨s.lo,.inr ⟨this.2.2.2.1,s,by rw[hf];simp,Wv _,this.2.2.1⟩⟩
  ·have:=h.i.eO s (by rw[hi];simp)
   refine⟨s.lo*10000,.inl ⟨by omega,s,by rw[hi];simp,?_⟩⟩
   rw[Int.mul_ediv_cancel _ (by decide)]
   exact⟨Wv _,this.2.2.1⟩
 ·rintro⟨v,⟨_,s,hs,_⟩|⟨_,s,hs,_⟩⟩
  ·cases hi:n.ints with
   |nil=>rw[hi] at hs;cases hs
   |cons=>simp
  ·cases hf:n.bC with
   |nil=>rw[hf] at hs;cases hs
   |cons=>simp
theorem zh {u m:Int} (e:lr u=some m):m=u/10000:=by
 unfold lr at e
 obtain⟨_,e⟩:=ah e
 have h:=Int.tmod_add_mul_tdiv u 10000
 by_cases g:u.tmod 10000<0
 ·rw[HP g] at e
  obtain⟨_,e⟩:=ah e
  cases e
  have:=Int.lt_tmod_of_pos u (show(0:Int)<10000 by decide)
  omega
 ·rw[TP g] at e
  cases e
  have:=Int.tmod_lt_of_pos u (show(0:Int)<10000 by decide)
  omega
theorem G3 {u:Int} {p:cL×Int} (h: -1000000000000000<=u/\u<=1000000000000000) (e:pD u=some p):p.2=0/\CN p.1/\∀v,NM p.1 v↔v=u:=by
 unfold pD at e
 have hc:K6 opsN sEq=some true:=by decide
 have hf:ya u=some true:=by
  unfold ya
  rw[HP h.1,Xd h.2]
 rw[hc,VU,HP rfl,hf,VU,HP rfl] at e
 obtain⟨_,e⟩:=ah e
 obtain⟨_,_,e⟩:=aa e
 obtain⟨_,_,e⟩:=aa e
 obtain⟨_,e⟩:=ah e
 obtain⟨g,hg,e⟩:=aa e
 obtain⟨_,e⟩:=ah e
 obtain⟨k,hk,e⟩:=aa e
 obtain⟨one,h1,e⟩:=aa e
 cases e
 have eg:=zh hg
 have ek:=zh hk
 obtain⟨c1,c2,c3⟩:=nM (WH _ _) (WH _ _) h1
 refine⟨rfl,c1,fun v=> ?_⟩
 unfold NM
 constructor
 ·rintro(⟨x,y⟩|⟨x,y⟩)
  ·have y:=((c2 _).1 y).1
   have y:0-g<=v/10000/\v/10000<=k:=fj.1 y
   omega
  ·have y:=((c3 _ x).1 y).1
   have y:u<=v/\v<=u:=fj.1 y
   omega
 ·intro x
  subst x
  by_cases z:v % 10000=0
  ·refine .inl ⟨z,(c2 _).2 ⟨fj.2 ?_,by omega⟩⟩
   show 0-g<=v/10000/\v/10000<=k
   omega
  ·exact .inr ⟨z,(c3 _ z).2 ⟨fj.2 ⟨Wv _,Wv _⟩,h⟩⟩
theorem JO {a:cL} {k:Nat} (hk:k<=12) (h:oA k a) (e:kU a=some true):CN a:=by
 obtain⟨b,h1,h2⟩:=uq hk h
 rw[e] at h1
 cases h1
 have hn:=h2 rfl
 unfold kU at e
 obtain⟨r,h3,e⟩:=aa e
 obtain⟨b,h4,h5⟩:=yG (b:=r) hk h
 rw[e] at h4
 cases h4
 have:=(nM hn.si.pw hn.sf.pw h3).1
 rwa [<-h5 rfl] at this
theorem qB {a:List Sv.Span} (h:a.length<=1000000000):fH a a=some true:=by
 have key:∀{r:List Sv.Span} {i:Nat},a.drop i=r->iP a r i=some true:=fun{r}=>by
  induction r with
  |nil=>intro i _;rfl
  |cons x r ih=>
   intro i hd
   have h1:a[i]? =some x:=by
    have:=W4 (·[0]?) hd
    simpa using this
   have h2:a.drop (i+1)=r:=by rw[<-XK,hd];rfl
   have e1:((i:Int)+1)=((i+1:Nat):Int):=by omega
   unfold iP
   rw[cM h1,HP (by simp[FW]),e1]
   exact ih h2
 unfold fH
 rw[HP rfl,bL h]
 exact key (i:=0) rfl
theorem K8 {a:cL} {k:Nat} (hk:k<=12) (h:oA k a) (hc:CN a):kU a=some true:=by
 obtain⟨r,h1,_⟩:=ey hk h
 have:=mD hc h1
 subst this
 have h2:=h.i.1
 have h3:=h.f.1
 unfold kU yH
 rw[h1,VU,qB ii,VU,HP rfl,qB ii]
structure qT (k n:Nat) (s:bM):Prop where
 sb:SB k n s
 cn:CN ⟨s.ints,s.bC⟩
 vl:VL n s.strs
theorem qT.mono {k n k' n':Nat} {s:bM} (h:qT k n s) (hk:k<=k') (hn:n<=n'):qT k' n' s:=⟨h.sb.mono hk hn,h.cn,h.vl.mono hn⟩
theorem qT.of {k n:Nat} (hk:k<=12) (hn:n<400000000) {s:bM} (h:SB k n s) (e:je s=some true):qT k n s:=by
 unfold je at e
 obtain⟨c,h1,e⟩:=aa e
 cases c with
 |false=>cases e
 |true=>exact⟨h,JO hk ⟨h.i,h.f⟩ h1,VL.of h.a ii e⟩
theorem qT.qv {k n:Nat} (hk:k<=12) {s:bM} (h:qT k n s):qu s=some s:=by
 unfold qu je
 rw[K8 hk ⟨h.sb.i,h.sb.f⟩ h.cn,VU,HP rfl,h.vl.ok]
 rfl
theorem CN.nil:CN ⟨[],[]⟩:=⟨⟨fun s hs=>(by cases hs),List.Pairwise.nil⟩,⟨fun s hs=>(by cases hs),List.Pairwise.nil⟩⟩
theorem Aa (k n:Nat):qT k n et:=⟨(jc k n).sb,CN.nil,VL.nil n⟩
def mC (s:bM) (d:dt bA):Prop:=(d.kind=1/\s.null=true)\/(d.kind=2/\d.num=0/\s.sE=true)\/(d.kind=2/\d.num=1/\s.rY=true)\/(d.kind=3/\NM ⟨s.ints,s.bC⟩ d.num)\/(d.kind=4/\ac s.strs 0 d.str=true)
theorem Hi (v:Int):¬NM ⟨[],[]⟩ v:=fun h=>h.elim (fun h=>eh _ h.2) fun h=>eh _ h.2
theorem Tu (d:dt bA):¬mC et d:=by
 rintro(⟨_,h⟩|⟨_,_,h⟩|⟨_,_,h⟩|⟨_,h⟩|⟨_,h⟩)
 ·cases h
 ·cases h
 ·cases h
 ·exact Hi _ h
 ·rw[show et.strs=[] from rfl,iE] at h
  cases h
theorem Uv (x y:Bool):lh x y=some (x&& !y):=by cases x<;>cases y<;>rfl
theorem Gn {k m n:Nat} (hkm:k+m<=11) (hn:n<=18000) {a b:bM} (ha:qT k n a) (hb:qT m n b):∃r,pa a b=some r/\qT (k+m+1) 399999999 r/\∀d,mC r d↔mC a d/\¬mC b d:=by
 obtain⟨c,c1,c2⟩:=k9 (a:=⟨a.ints,a.bC⟩) (b:=⟨b.ints,b.bC⟩) hkm ⟨ha.sb.i,ha.sb.f⟩ ⟨hb.sb.i,hb.sb.f⟩
 obtain⟨c3,c4⟩:=Gp ha.cn hb.cn c1
 obtain⟨l,l1,l2,l3⟩:=KA ha.vl hb.vl ii
 have hp:=mw ha.vl.gd.len hb.vl.gd.len (show n<=19000 by omega)
 refine⟨⟨a.null&& !b.null,a.sE&& !b.sE,a.rY&& !b.rY,c.ints,c.bC,l⟩,?_,⟨⟨c2.i64.i,c2.i64.f,l2.gd.toAB.mono ii⟩,c3,l2.mono ii⟩,fun d=> ?_⟩
 ·unfold pa combine
  rw[ha.qv ii,VU,hb.qv ii,VU,Uv,VU,Uv,VU,Uv,VU,c1,VU,l1]
  rfl
 ·unfold mC
  simp only[c4,l3,Wa,Bool.not_eq_true']
  constructor
  ·rintro(⟨h1,h2,h3⟩|⟨h1,h2,h3,h4⟩|⟨h1,h2,h3,h4⟩|⟨h1,h2,h3⟩|⟨h1,h2,h3⟩)
   ·refine⟨.inl ⟨h1,h2⟩,?_⟩
    rintro(⟨_,g⟩|⟨g,_⟩|⟨g,_⟩|⟨g,_⟩|⟨g,_⟩)
    ·rw[h3] at g;cases g
    all_goals omega
   ·refine⟨.inr (.inl ⟨h1,h2,h3⟩),?_⟩
    rintro(⟨g,_⟩|⟨_,_,g⟩|⟨_,g,_⟩|⟨g,_⟩|⟨g,_⟩)
    ·omega
    ·rw[h4] at g;cases g
    all_goals omega
   ·refine⟨.inr (.inr (.inl ⟨h1,h2,h3⟩)),?_⟩
    rintro(⟨g,_⟩|⟨_,g,_⟩|⟨_,_,g⟩|⟨g,_⟩|⟨g,_⟩)
    ·omega
    ·omega
    ·rw[h4] at g;cases g
    all_goals omega
   ·refine⟨.inr (.inr (.inr (.inl ⟨h1,h2⟩))),?_⟩
    rintro(⟨g,_⟩|⟨g,_⟩|⟨g,_⟩|⟨_,g⟩|⟨g,_⟩)
    ·omega
    ·omega
    ·omega
    ·exact h3 g
    ·omega
   ·refine⟨.inr (.inr (.inr (.inr ⟨h1,h2⟩))),?_⟩
    rintro(⟨g,_⟩|⟨g,_⟩|⟨g,_⟩|⟨g,_⟩|⟨_,g⟩)
    ·omega
    ·omega
    ·omega
    ·omega
    ·rw[h3] at g;cases g
  ·rintro⟨⟨h1,h2⟩|⟨h1,h2,h3⟩|⟨h1,h2,h3⟩|⟨h1,h2⟩|⟨h1,h2⟩,g⟩
   ·exact .inl ⟨h1,h2,by cases e:b.null with|false=>rfl|true=>exact(g (.inl ⟨h1,e⟩)).elim⟩
   ·exact .inr (.inl ⟨h1,h2,h3,by cases e:b.sE with|false=>rfl|true=>exact(g (.inr (.inl ⟨h1,h2,e⟩))).elim⟩)
   ·exact .inr (.inr (.inl ⟨h1,h2,h3,by cases e:b.rY with|false=>rfl|true=>exact(g (.inr (.inr (.inl ⟨h1,h2,e⟩)))).elim⟩))
   ·exact .inr (.inr (.inr (.inl ⟨h1,h2,fun e=>g (.inr (.inr (.inr (.inl ⟨h1,e⟩))))⟩)))
   ·exact .inr (.inr (.inr (.inr ⟨h1,h2,by cases e:ac b.strs 0 d.str with|false=>rfl|true=>exact(g (.inr (.inr (.inr (.inr ⟨h1,e⟩))))).elim⟩)))
theorem vC {k n:Nat} (hk:k<=12) (hn:n<400000000) {s:bM} (h:qT k n s):∃p,mH s=some p/\LD n p.1/\(p.2=true↔∃d,mC s d)/\(p.2=true->1<=p.1.c.kind/\p.1.c.kind<=4):=by
 obtain⟨p0,h1,h2⟩:=pd hk hn h.sb
 have e:=h1
 unfold mH at e
 rw[h.qv hk,VU] at e
 obtain⟨p,hp,e⟩:=aa e
 obtain⟨q,hq,e⟩:=aa e
 have g1:=Gs h.cn hp
 obtain⟨q',hq',_,g2⟩:=NR h.vl hn
 rw[hq] at hq'
 cases hq'
 have mk:∀(k:Int) (v:Int) (t:List UInt8),(jv k v t).c=⟨k,v,t,[],[]⟩:=fun _ _ _=>rfl
 refine⟨p0,h1,h2,?_⟩
 cases b1:s.null with
 |true=>
  rw[b1,HP rfl] at e
  cases e
  exact⟨⟨fun _=>⟨⟨1,0,[],[],[]⟩,.inl ⟨rfl,b1⟩⟩,fun _=>rfl⟩,fun _=>⟨by show(1:Int)<=1;omega,by show(1:Int)<=4;omega⟩⟩
 |false=>
  rw[b1,TP (by decide)] at e
  cases b2:s.sE with
  |true=>
   rw[b2,HP rfl] at e
   cases e
   exact⟨⟨fun _=>⟨⟨2,0,[],[],[]⟩,.inr (.inl ⟨rfl,rfl,b2⟩)⟩,fun _=>rfl⟩,fun _=>⟨by show(1:Int)<=2;omega,by show(2:Int)<=4;omega⟩⟩
  |false=>
   rw[b2,TP (by decide)] at e
   cases b3:s.rY with
   |true=>
    rw[b3,HP rfl] at e
    cases e
    exact⟨⟨fun _=>⟨⟨2,1,[],[],[]⟩,.inr (.inr (.inl ⟨rfl,rfl,b3⟩))⟩,fun _=>rfl⟩,fun _=>⟨by show(1:Int)<=2;omega,by show(2:Int)<=4;omega⟩⟩
   |false=>
    rw[b3,TP (by decide)] at e
    cases b4:p.2 with
    |true=>
     rw[b4,HP rfl] at e
     cases e
     obtain⟨v,hv⟩:=g1.1 b4
     exact⟨⟨fun _=>⟨⟨3,v,[],[],[]⟩,.inr (.inr (.inr (.inl ⟨rfl,hv⟩)))⟩,fun _=>rfl⟩,fun _=>⟨by show(1:Int)<=3;omega,by show(3:Int)<=4;omega⟩⟩
    |false=>
     rw[b4,TP (by decide)] at e
     cases b5:q.2 with
     |true=>
      rw[b5,HP rfl] at e
      cases e
      obtain⟨w,hw⟩:=g2.1 b5
      exact⟨⟨fun _=>⟨⟨4,0,w,[],[]⟩,.inr (.inr (.inr (.inr ⟨rfl,hw⟩)))⟩,fun _=>rfl⟩,fun _=>⟨by show(1:Int)<=4;omega,by show(4:Int)<=4;omega⟩⟩
     |false=>
      rw[b5,TP (by decide)] at e
      cases e
      refine⟨⟨fun x=>(by cases x),fun⟨d,hd⟩=> ?_⟩,fun x=>(by cases x)⟩
      rcases hd with⟨_,g⟩|⟨_,_,g⟩|⟨_,_,g⟩|⟨_,g⟩|⟨_,g⟩
      ·rw[b1] at g;cases g
      ·rw[b2] at g;cases g
      ·rw[b3] at g;cases g
      ·rw[g1.2 ⟨_,g⟩] at b4;cases b4
      ·rw[g2.2 ⟨_,g⟩] at b5;cases b5
theorem GJ {k n:Nat} (hk:k<=12) (hn:n<400000000) {s:bM} (h:qT k n s):∃t,lA s=some t/\(t=true↔∀d,¬mC s d):=by
 obtain⟨p,h1,_,h2,_⟩:=vC hk hn h
 refine⟨!p.2,by unfold lA;rw[h1];rfl,?_⟩
 cases e:p.2 with
 |true=>
  obtain⟨d,hd⟩:=h2.1 e
  exact⟨fun x=>(by cases x),fun x=>(x d hd).elim⟩
 |false=>exact⟨fun _ d hd=>(by rw[h2.2 ⟨d,hd⟩] at e;cases e),fun _=>rfl⟩
theorem eC {k m n:Nat} (hkm:k+m<=11) (hn:n<=18000) {a b:bM} (ha:qT k n a) (hb:qT m n b):∃t,fE a b=some t/\(t=true↔∀d,mC a d->mC b d):=by
 obtain⟨r,h1,h2,h3⟩:=Gn hkm hn ha hb
 obtain⟨t,h4,h5⟩:=GJ ii ii h2
 refine⟨t,by unfold fE;rw[h1,VU,h4],h5.trans ⟨fun g d hd=>Classical.byContradiction fun hn=>g d ((h3 d).2 ⟨hd,hn⟩),fun g d hd=>((h3 d).1 hd).2 (g d ((h3 d).1 hd).1)⟩⟩
theorem C9 {c:dt bA} (h:xU c=some 0):kt c=some true/\(c.kind=2->c.num=0\/c.num=1)/\(c.kind=3-> -1000000000000000<=c.num/\c.num<=1000000000000000):=by
 unfold xU at h
 obtain⟨ok,h1,h⟩:=aa h
 cases ok with
 |false=>cases h
 |true=>
  rw[HP rfl] at h
  refine⟨h1,fun g=> ?_,fun g=> ?_⟩
  ·rw[HP g] at h
   by_cases e0:c.num=0
   ·exact .inl e0
   ·by_cases e1:c.num=1
    ·exact .inr e1
    ·rw[TP e0,TP e1] at h
     cases h
  ·rw[TP ii,HP g] at h
   obtain⟨ok,h2,h⟩:=aa h
   cases ok with
   |false=>cases h
   |true=>
    obtain⟨b,h3,h4⟩:=vV c.num
    rw[h2] at h3
    cases h3
    exact h4 rfl
theorem EK {d:bA} (h:mR d=some 0):xU d.c=some 0:=by
 unfold mR jW at h
 rw[TP (by decide)] at h
 obtain⟨e,h1,h⟩:=aa h
 by_cases g:e=0
 ·rw[g] at h1;exact h1
 ·rw[TP g] at h
  exact(g (Wm h)).elim
theorem T8 {n:cL} {k m:Nat} (h:NB k n) (hc:CN n):qT k m (scN n):=⟨⟨h.i64.i,h.i64.f,AB.nil m⟩,hc,VL.nil m⟩
structure OneS (n:Nat) (one:bM):Prop where
 v:qT 1 n one
 ex:∃e,mC one e
 al:∀e e',mC one e->mC one e'->∀s,mC s e->mC s e'
theorem AM {n:Nat} (hn:n<900000) {d:bA} (h:mR d=some 0) (hk:1<=d.c.kind/\d.c.kind<=4) (hl:d.c.str.length<=n):∃one,Gj d=some (one,0)/\OneS (n+1) one:=by
 obtain⟨_,h2,h3⟩:=C9 (EK h)
 have nomem:∀{a b c:Bool} {e:dt bA},mC ⟨a,b,c,[],[],[]⟩ e->(e.kind=1/\a=true)\/(e.kind=2/\e.num=0/\b=true)\/(e.kind=2/\e.num=1/\c=true):=fun{a b c e} g=>by
  rcases g with g|g|g|⟨_,g⟩|⟨_,g⟩
  ·exact .inl g
  ·exact .inr (.inl g)
  ·exact .inr (.inr g)
  ·exact(Hi _ g).elim
  ·rw[show(bM.mk a b c [] [] []).strs=[] from rfl,iE] at g;cases g
 have flagV:∀a b c:Bool,qT 1 (n+1) ⟨a,b,c,[],[],[]⟩:=fun a b c=>⟨(sg0 a b c).mono (V2 _) (Wd _),CN.nil,VL.nil _⟩
 unfold Gj
 rw[h,VU,HP rfl]
 by_cases k1:d.c.kind=1
 ·rw[HP k1]
  refine⟨_,rfl,flagV _ _ _,⟨⟨1,0,[],[],[]⟩,.inl ⟨rfl,rfl⟩⟩,fun e e' he he' s hs=> ?_⟩
  have a1:e.kind=1:=by rcases nomem he with g|g|g<;>first|exact g.1|exact⟨g.1,g.2.1⟩|exact absurd g.2.2 Wr|exact absurd g.2 Wr
  have a2:e'.kind=1:=by rcases nomem he' with g|g|g<;>first|exact g.1|exact⟨g.1,g.2.1⟩|exact absurd g.2.2 Wr|exact absurd g.2 Wr
  rcases hs with g|g|g|g|g
  ·exact .inl ⟨a2,g.2⟩
  all_goals (exfalso;omega)
 ·rw[TP k1]
  by_cases k2:d.c.kind=2
  ·rw[HP k2]
   rcases h2 k2 with z|z
   ·rw[Xd z,Xu ii]
    refine⟨_,rfl,flagV _ _ _,⟨⟨2,0,[],[],[]⟩,.inr (.inl ⟨rfl,rfl,rfl⟩)⟩,fun e e' he he' s hs=> ?_⟩
    have a1:e.kind=2/\e.num=0:=by rcases nomem he with g|g|g<;>first|exact g.1|exact⟨g.1,g.2.1⟩|exact absurd g.2.2 Wr|exact absurd g.2 Wr
    have a2:e'.kind=2/\e'.num=0:=by rcases nomem he' with g|g|g<;>first|exact g.1|exact⟨g.1,g.2.1⟩|exact absurd g.2.2 Wr|exact absurd g.2 Wr
    rcases hs with g|g|g|g|g
    ·exfalso;omega
    ·exact .inr (.inl ⟨a2.1,a2.2,g.2.2⟩)
    all_goals (exfalso;omega)
   ·rw[Xu ii,Xd z]
    refine⟨_,rfl,flagV _ _ _,⟨⟨2,1,[],[],[]⟩,.inr (.inr (.inl ⟨rfl,rfl,rfl⟩))⟩,fun e e' he he' s hs=> ?_⟩
    have a1:e.kind=2/\e.num=1:=by rcases nomem he with g|g|g<;>first|exact g.1|exact⟨g.1,g.2.1⟩|exact absurd g.2.2 Wr|exact absurd g.2 Wr
    have a2:e'.kind=2/\e'.num=1:=by rcases nomem he' with g|g|g<;>first|exact g.1|exact⟨g.1,g.2.1⟩|exact absurd g.2.2 Wr|exact absurd g.2 Wr
    rcases hs with g|g|g|g|g
    ·exfalso;omega
    ·exfalso;omega
    ·exact .inr (.inr (.inl ⟨a2.1,a2.2,g.2.2⟩))
    all_goals (exfalso;omega)
  ·rw[TP k2]
   by_cases k3:d.c.kind=3
   ·rw[HP k3]
    unfold jA
    rw[HP k3]
    obtain⟨p,b1,b2⟩:=wT d.c.num
    obtain⟨b3,b4,b5⟩:=G3 (h3 k3) b1
    rw[b1,VU,b3]
    have key:∀{e:dt bA},mC (scN p.1) e->e.kind=3/\e.num=d.c.num:=fun{e} g=>by
     rcases g with g|g|g|⟨g1,g⟩|⟨_,g⟩
     ·cases g.2
     ·cases g.2.2
     ·cases g.2.2
     ·exact⟨g1,(b5 _).1 g⟩
     ·rw[show(scN p.1).strs=[] from rfl,iE] at g;cases g
    refine⟨_,rfl,T8 b2 b4,⟨⟨3,d.c.num,[],[],[]⟩,.inr (.inr (.inr (.inl ⟨rfl,(b5 _).2 rfl⟩)))⟩,fun e e' he he' s hs=> ?_⟩
    have a1:=key he
    have a2:=key he'
    rcases hs with g|g|g|g|g
    ·exfalso;omega
    ·exfalso;omega
    ·exfalso;omega
    ·exact .inr (.inr (.inr (.inl ⟨a2.1,by rw[a2.2,<-a1.2];exact g.2⟩)))
    ·exfalso;omega
   ·have k4:d.c.kind=4:=by omega
    rw[TP k3,HP k4]
    unfold jA wU
    rw[TP k3]
    obtain⟨l,l1,l2,l3⟩:=Qb (s:=d.c.str) ii
    rw[l1]
    have key:∀{e:dt bA},mC (scL l) e->e.kind=4/\e.str=d.c.str:=fun{e} g=>by
     rcases g with g|g|g|⟨_,g⟩|⟨g1,g⟩
     ·cases g.2
     ·cases g.2.2
     ·cases g.2.2
     ·exact(Hi _ g).elim
     ·have g:ac l 0 e.str=true:=g
      rw[l3] at g
      exact⟨g1,Wp g⟩
    refine⟨_,rfl,⟨⟨tk.nil 1,tk.nil 1,l2.gd.toAB.mono ii⟩,CN.nil,l2.mono ii⟩,⟨⟨4,0,d.c.str,[],[]⟩,.inr (.inr (.inr (.inr ⟨rfl,by show ac l 0 d.c.str=true;rw[l3];simp⟩)))⟩,fun e e' he he' s hs=> ?_⟩
    have a1:=key he
    have a2:=key he'
    rcases hs with g|g|g|g|g
    ·exfalso;omega
    ·exfalso;omega
    ·exfalso;omega
    ·exfalso;omega
    ·exact .inr (.inr (.inr (.inr ⟨a2.1,by rw[a2.2,<-a1.2];exact g.2⟩)))
theorem Rn {d:bA} {p:bM×Int} (e:Gj d=some p) (h:p.2=0):mR d=some 0/\1<=d.c.kind/\d.c.kind<=4:=by
 unfold Gj at e
 obtain⟨c,h1,e⟩:=aa e
 by_cases g:c=0
 ·subst g
  refine⟨h1,?_⟩
  rw[HP rfl] at e
  by_cases k1:d.c.kind=1
  ·omega
  ·by_cases k2:d.c.kind=2
   ·omega
   ·by_cases k3:d.c.kind=3
    ·omega
    ·by_cases k4:d.c.kind=4
     ·omega
     ·rw[TP k1,TP k2,TP k3,TP k4] at e
      cases e
      cases h
 ·rw[TP g] at e
  cases e
  exact(g h).elim
theorem Od {s:bM} {d:bA} (e:pg s d=some true):(mR d=some 0/\1<=d.c.kind/\d.c.kind<=4)/\∃one,Gj d=some (one,0)/\fE one s=some true:=by
 unfold pg at e
 obtain⟨p,h1,e⟩:=aa e
 by_cases g:p.2=0
 ·rw[HP g] at e
  exact⟨Rn h1 g,p.1,by rw[h1,<-g],e⟩
 ·rw[TP g] at e
  cases e
theorem II {s:bM} {d:bA} {one:bM} (h1:Gj d=some (one,0)) (h2:fE one s=some true):pg s d=some true:=by
 unfold pg
 rw[h1,VU,HP rfl,h2]
theorem KR {k m n:Nat} (hk:k<=10) (hm:m<=10) (hkm:k+m<=11) (hn:n<=18000) {a b:bM} (ha:qT k n a) (hb:qT m n b) {d:bA} (hd:d.c.str.length<n) (hs:fE a b=some true) (h:pg a d=some true):pg b d=some true:=by
 obtain⟨⟨h1,h2⟩,one,h3,h4⟩:=Od h
 obtain⟨one',h5,h6⟩:=AM (n:=n-1) ii h1 h2 ii
 rw[h3] at h5
 cases h5
 have hv:qT 1 n one:=h6.v.mono (V2 _) ii
 obtain⟨t,g1,g2⟩:=eC ii hn hv ha
 rw[h4] at g1
 cases g1
 obtain⟨t,g3,g4⟩:=eC hkm hn ha hb
 rw[hs] at g3
 cases g3
 obtain⟨t,g5,g6⟩:=eC ii hn hv hb
 exact II h3 (by rw[g5,g6.2 fun e he=>g4.1 rfl e (g2.1 rfl e he)])
theorem Cx {k n:Nat} (hk:k<=10) (hn:n<18000) {s:bM} (h:qT k n s):∃p,kY s=some p/\(p.2=true->LD n p.1/\mR p.1=some 0/\(1<=p.1.c.kind/\p.1.c.kind<=4)/\pg s p.1=some true):=by
 obtain⟨p,h1,h2⟩:=Cw hk hn h.sb
 refine⟨p,h1,fun hp=> ?_⟩
 unfold kY at h1
 obtain⟨q,h3,h1⟩:=aa h1
 obtain⟨q',h4,h5,h6,h7⟩:=vC ii ii h
 rw[h3] at h4
 cases h4
 cases hq:q.2 with
 |false=>
  rw[hq,TP (by decide)] at h1
  cases h1
  cases hp
 |true=>
  rw[hq,HP rfl] at h1
  obtain⟨o,h8,h1⟩:=aa h1
  obtain⟨c,h9,h1⟩:=aa h1
  cases c with
  |false=>
   rw[TP (by decide)] at h1
   cases h1
   cases hp
  |true=>
   rw[HP rfl] at h1
   cases h1
   have hkind:=h7 hq
   obtain⟨e,he⟩:=h6.1 hq
   show LD n q.1/\_
   refine⟨h5,?_⟩
   obtain⟨c,hc,_⟩:=EL q.1.c.kind q.1.c.num q.1.c.str
   rw[<-h5.eq] at hc
   by_cases g:c=0
   ·subst g
    obtain⟨one,a1,a2⟩:=AM (n:=n) ii hc hkind h5.str
    rw[a1] at h8
    cases h8
    have hv:qT 1 (n+1) one:=a2.v
    obtain⟨t,b1,b2⟩:=eC (m:=1) (n:=n+1) ii ii (h.mono (V2 _) ii) hv
    rw[h9] at b1
    cases b1
    obtain⟨t,b3,b4⟩:=eC (k:=1) (n:=n+1) ii ii hv (h.mono (V2 _) ii)
    exact⟨hc,hkind,II a1 (by rw[b3,b4.2 fun e' he'=>a2.al e e' (b2.1 rfl e he) he' s he])⟩
   ·have h8':=h8
    unfold Gj at h8'
    rw[hc,VU,TP g] at h8'
    cases h8'
    obtain⟨t,b1,b2⟩:=eC (m:=1) (n:=n) ii ii h (Aa 1 n)
    rw[h9] at b1
    cases b1
    exact(Tu e (b2.1 rfl e he)).elim
def Gw:List Int->List UInt8
 |[]=>[]
 |n::r=>44::eE n++Gw r
theorem DF (v:List Int):Com (Gw v):=by
 cases v with
 |nil=>exact .inl rfl
 |cons n r=>exact .inr ⟨_,rfl⟩
theorem A7:∀{v:List Int} {out o:List UInt8},A8 v out=some o->o=out++Gw v
 |[],out,o,e=>by cases e;exact(Wy _).symm
 |n::r,out,o,e=>by
  unfold A8 at e
  obtain⟨_,e⟩:=ah e
  obtain⟨_,e⟩:=ah e
  rw[A7 e,Gw]
  simp
theorem IF:eE (-1)=[45,49]:=by
 have:=Go.Lib.itoa_neg 1 (V2 _)
 show Go.Lib.itoa (-1)=_
 rw[show(-1:Int)= -((1:Nat):Int) from rfl,this,Go.Lib.decDigits]
 rfl
theorem N3 {n:Int} (h: -1<=n):∀b∈eE n,b≠44:=by
 by_cases g:n= -1
 ·subst g
  rw[IF]
  decide
 ·have e:n=((n.toNat:Nat):Int):=by omega
  rw[e]
  exact kz _
theorem N2 {m n:Int} (hm: -1<=m) (hn: -1<=n) (h:eE m=eE n):m=n:=by
 have key:∀k:Nat,eE (-1)≠eE k:=fun k e=>by
  rw[IF,qk] at e
  have:=(gm k).2 45 (by rw[<-e];simp)
  exact absurd this (by decide)
 by_cases g:m= -1
 ·by_cases g':n= -1
  ·omega
  ·rw[g,show n=((n.toNat:Nat):Int) by omega] at h
   exact(key _ h).elim
 ·by_cases g':n= -1
  ·rw[g',show m=((m.toNat:Nat):Int) by omega] at h
   exact(key _ h.symm).elim
  ·rw[show n=((n.toNat:Nat):Int) by omega,show m=((m.toNat:Nat):Int) by omega] at h
   have:=lp h
   omega
theorem DE:∀{v w:List Int},(∀x∈v,-1<=x)->(∀x∈w,-1<=x)->Gw v=Gw w->v=w
 |[],[],_,_,_=>rfl
 |[],_::_,_,_,h=>by cases h
 |_::_,[],_,_,h=>by cases h
 |a::v,b::w,h1,h2,h=>by
  unfold Gw at h
  injection h with _ h
  obtain⟨h3,h4⟩:=tz (N3 (h1 a (V0 ..))) (N3 (h2 b (V0 ..))) (DF _) (DF _) h
  rw[N2 (h1 a (V0 ..)) (h2 b (V0 ..)) h3,DE (fun x hx=>h1 x (VX _ hx)) (fun x hx=>h2 x (VX _ hx)) h4]
theorem N0 {v w:List Int} {k:List UInt8} (h1:∀x∈v,-1<=x) (h2:∀x∈w,-1<=x) (e1:rv v=some k) (e2:rv w=some k):v=w:=by
 unfold rv at e1 e2
 obtain⟨_,e1⟩:=ah e1
 obtain⟨_,e2⟩:=ah e2
 refine DE h1 h2 ?_
 have a:=A7 e1
 rw[A7 e2] at a
 exact a.symm
def QT (c:aF Va) (v:List Int) (w:List UInt8):Prop:=(∃(i:Nat) (k:cW Va) (s:Int),c.aw[i]? =some k/\v[i]? =some s/\xc k.set s w=true)\/∃(j:Nat) (f:dy Va) (n:Int),c.fields[j]? =some f/\v[c.aw.length+j]? =some n/\0<=n/\n<=f.label.length/\f.label.drop n.toNat=w
theorem DV {v:List Int}:∀{ks:List (cW Va)} {i:Nat} {n r:Int},rB v ks i n=some r->r=n\/∃(q:Nat) (k:cW Va) (s:Int),ks[q]? =some k/\v[i+q]? =some s/\xc k.set s []=true
 |[],i,n,r,e=>by cases e;exact .inl rfl
 |k::ks,i,n,r,e=>by
  have e1:((i:Int)+1)=((i+1:Nat):Int):=by omega
  have lift:∀{n':Int},rB v ks ((i:Int)+1) n'=some r->r=n'\/∃(q:Nat) (k':cW Va) (s:Int),(k::ks)[q]? =some k'/\v[i+q]? =some s/\xc k'.set s []=true:=fun e=>by
   rw[e1] at e
   rcases DV e with g|⟨q,k',s,h1,h2,h3⟩
   ·exact .inl g
   ·exact .inr ⟨q+1,k',s,by simpa using h1,by rw[show i+(q+1)=i+1+q by omega];exact h2,h3⟩
  unfold rB at e
  obtain⟨j,s,hj,hs,e⟩:=az e
  have:j=i:=by omega
  subst this
  by_cases g:s>=0
  ·rw[HP g] at e
   obtain⟨j',s',hj',hs',e⟩:=az e
   have:j'=j:=by omega
   subst this
   have es:s'=s:=(Wm (hs.symm.trans hs')).symm
   rw[es] at e
   obtain⟨t,x,ht,hx,e⟩:=az e
   cases hacc:x.acc with
   |true=>
    refine .inr ⟨0,k,s,rfl,hs,?_⟩
    unfold xc
    rw[TP ii,ht,WR]
    unfold ac
    rw[hx]
    exact hacc
   |false=>
    rw[hacc,TP (by decide)] at e
    exact lift e
  ·rw[TP g] at e
   exact lift e
theorem DX {v:List Int} {m:Nat}:∀{fs:List (dy Va)} {i:Nat} {n r:Int},vL v m fs i n=some r->r=n\/∃(q:Nat) (f:dy Va),fs[q]? =some f/\v[m+(i+q)]? =some (f.label.length:Int)
 |[],i,n,r,e=>by cases e;exact .inl rfl
 |f::fs,i,n,r,e=>by
  have e1:((i:Int)+1)=((i+1:Nat):Int):=by omega
  unfold vL at e
  obtain⟨j,s,hj,hs,e⟩:=az e
  have:j=m+i:=by omega
  subst this
  obtain⟨_,e⟩:=ah e
  by_cases g:s=(f.label.length:Int)
  ·exact .inr ⟨0,f,rfl,by rw[<-g];exact hs⟩
  ·rw[TP g,e1] at e
   rcases DX e with g|⟨q,f',h1,h2⟩
   ·exact .inl g
   ·exact .inr ⟨q+1,f',by simpa using h1,by rw[show i+(q+1)=i+1+q by omega];exact h2⟩
theorem Oc {c:aF Va} {v:List Int} (e:DT c v=some 1):QT c v []:=by
 unfold DT at e
 obtain⟨_,e⟩:=ah e
 obtain⟨n,h1,e⟩:=aa e
 obtain⟨_,e⟩:=ah e
 rcases DV (i:=0) h1 with g|⟨q,k,s,h2,h3,h4⟩
 ·rcases DX (i:=0) e with g'|⟨q,f,h2,h3⟩
  ·omega
  ·refine .inr ⟨q,f,f.label.length,h2,by rw[WU] at h3;exact h3,by omega,Wv _,?_⟩
   rw[WR,List.drop_length]
 ·exact .inl ⟨q,k,s,h2,by rw[WU] at h3;exact h3,h4⟩
theorem uD {l:List Int} {i:Nat} {t:Int} (h:l[i]? =some t):l.set i t=l:=by
 refine List.ext_getElem? fun j=> ?_
 by_cases g:i=j
 ·subst g
  rw[Xr (VZ.1 h).1,h]
 ·rw[List.getElem?_set_ne g]
theorem BS {b:Int} {i:Nat}:∀{es:List Sv.Edge} {out o:List Int} {t:Int},out[i]? =some t->E8 b i es out=some o->o=out.set i (gA b es t)
 |[],out,o,t,h,e=>by
  cases e
  exact(uD h).symm
 |x::r,out,o,t,h,e=>by
  have hi:=(VZ.1 h).1
  unfold E8 at e
  have go:gA b (x::r) t=gA b r (if x.lo<=b/\b<=x.hi then x.to else t):=rfl
  by_cases g:x.lo<=b/\b<=x.hi
  ·rw[HP g.1,HP g.2] at e
   obtain⟨j,y,hj,hy,e⟩:=cO e
   have:j=i:=by omega
   subst this
   have:=BS (t:=x.to) (by rw[Xr hi]) e
   rw[this,Yc,go,HP g]
  ·have e':E8 b i r out=some o:=by
    by_cases g1:x.lo<=b
    ·rw[HP g1,TP fun g2=>g ⟨g1,g2⟩] at e
     exact e
    ·rw[TP g1] at e
     exact e
   rw[BS h e',go,TP g]
theorem tA {l:List Int} {i p:Nat} {t:Int} (h:p≠i):(l.set i t)[p]? =l[p]? :=List.getElem?_set_ne (XF h)
theorem Jr {v:List Int} {b:Int}:∀{ks:List (cW Va)} {i:Nat} {out o:List Int},(∀p,i<=p->p<i+ks.length->out[p]? =some (-1))->BR v b ks i out=some o->o.length=out.length/\(∀p,p<i\/i+ks.length<=p->o[p]? =out[p]?)/\∀q k s t,ks[q]? =some k->v[i+q]? =some s->o[i+q]? =some t->t= -1\/0<=s/\∃x,k.set[s.toNat]? =some x/\t=gA b x.aI (-1)
 |[],i,out,o,_,e=>by
  cases e
  exact⟨rfl,fun p _=>rfl,fun q k s t hq=>by simp at hq⟩
 |k::ks,i,out,o,hm,e=>by
  have e1:((i:Int)+1)=((i+1:Nat):Int):=by omega
  have hi0:=hm i (V2 _) (by simp)
  unfold BR at e
  obtain⟨j,s,hj,hs,e⟩:=az e
  have:j=i:=by omega
  subst this
  have fin:∀{out':List Int} {u:Int},out'=out.set j u->(u= -1\/0<=s/\∃x,k.set[s.toNat]? =some x/\u=gA b x.aI (-1))->BR v b ks ((j:Int)+1) out'=some o->o.length=out.length/\(∀p,p<j\/j+(k::ks).length<=p->o[p]? =out[p]?)/\∀q k' s' t,(k::ks)[q]? =some k'->v[j+q]? =some s'->o[j+q]? =some t->t= -1\/0<=s'/\∃x,k'.set[s'.toNat]? =some x/\t=gA b x.aI (-1):=fun{out' u} ho hu e=>by
   rw[e1] at e
   subst ho
   obtain⟨a1,a2,a3⟩:=Jr (fun p h1 h2=>by rw[tA ii];exact hm p ii (by rw[V5];omega)) e
   rw[Wb] at a1
   refine⟨a1,fun p hp=> ?_,fun q k' s' t hq hs' ht=> ?_⟩
   ·rw[V5] at hp
    rw[a2 p ii,tA ii]
   ·cases q with
    |zero=>
     cases hq
     rw[W9] at hs' ht
     rw[hs] at hs'
     cases hs'
     rw[a2 j ii,Xr (VZ.1 hi0).1] at ht
     cases ht
     exact hu
    |succ q=>exact a3 q k' s' t (by simpa using hq) (by rw[<-hs'];congr 1;omega) (by rw[<-ht];congr 1;omega)
  by_cases g:s<0
  ·rw[HP g] at e
   exact fin (u:= -1) (uD hi0).symm (.inl rfl) e
  ·rw[TP g] at e
   obtain⟨t,x,ht,hx,e⟩:=az e
   obtain⟨_,e⟩:=ah e
   obtain⟨out',h2,e⟩:=aa e
   exact fin (BS hi0 h2) (.inr ⟨by omega,x,by rw[ht,WR];exact hx,rfl⟩) e
theorem Jt {v:List Int} {b:Int} {m:Nat}:∀{fs:List (dy Va)} {i:Nat} {out o:List Int},(∀p,m+i<=p->p<m+i+fs.length->out[p]? =some (-1))->z6 v b m fs i out=some o->o.length=out.length/\(∀p,p<m+i->o[p]? =out[p]?)/\∀q f n t,fs[q]? =some f->v[m+i+q]? =some n->o[m+i+q]? =some t->t= -1\/0<=n/\t=n+1/\∃y:UInt8,f.label[n.toNat]? =some y/\(y.toNat:Int)=b
 |[],i,out,o,_,e=>by
  cases e
  exact⟨rfl,fun p _=>rfl,fun q k s t hq=>by simp at hq⟩
 |f::fs,i,out,o,hm,e=>by
  have e1:((i:Int)+1)=((i+1:Nat):Int):=by omega
  have hi0:=hm (m+i) (V2 _) (by simp)
  unfold z6 at e
  obtain⟨j,n,hj,hn,e⟩:=az e
  have:j=m+i:=by omega
  subst this
  have fin:∀{out':List Int} {u:Int},out'=out.set (m+i) u->(u= -1\/0<=n/\u=n+1/\∃y:UInt8,f.label[n.toNat]? =some y/\(y.toNat:Int)=b)->z6 v b m fs ((i:Int)+1) out'=some o->o.length=out.length/\(∀p,p<m+i->o[p]? =out[p]?)/\∀q f' n' t,(f::fs)[q]? =some f'->v[m+i+q]? =some n'->o[m+i+q]? =some t->t= -1\/0<=n'/\t=n'+1/\∃y:UInt8,f'.label[n'.toNat]? =some y/\(y.toNat:Int)=b:=fun{out' u} ho hu e=>by
   rw[e1] at e
   subst ho
   obtain⟨a1,a2,a3⟩:=Jt (fun p h1 h2=>by rw[tA ii];exact hm p ii (by rw[V5];omega)) e
   rw[Wb] at a1
   refine⟨a1,fun p hp=> ?_,fun q f' n' t hq hs' ht=> ?_⟩
   ·rw[a2 p ii,tA ii]
   ·cases q with
    |zero=>
     cases hq
     rw[W9] at hs' ht
     rw[hn] at hs'
     cases hs'
     rw[a2 (m+i) ii,Xr (VZ.1 hi0).1] at ht
     cases ht
     exact hu
    |succ q=>exact a3 q f' n' t (by simpa using hq) (by rw[<-hs'];congr 1;omega) (by rw[<-ht];congr 1;omega)
  have no:z6 v b m fs ((i:Int)+1) out=some o->_:=fin (u:= -1) (uD hi0).symm (.inl rfl)
  by_cases g:n>=0
  ·rw[HP g] at e
   obtain⟨_,e⟩:=ah e
   by_cases g1:n<(f.label.length:Int)
   ·rw[HP g1] at e
    obtain⟨t,y,ht,hy,e⟩:=az e
    by_cases g2:(y.toNat:Int)=b
    ·rw[HP g2] at e
     obtain⟨_,e⟩:=ah e
     obtain⟨j2,z,hj2,hz,e⟩:=cO e
     have:j2=m+i:=by omega
     subst this
     exact fin (u:=n+1) rfl (.inr ⟨g,rfl,y,by rw[ht,WR];exact hy,g2⟩) e
    ·rw[TP g2] at e
     exact no e
   ·rw[TP g1] at e
    exact no e
  ·rw[TP g] at e
   exact no e
theorem S3 {n:Nat} {c:aF Va} (hk:KG n c.aw) {v u:List Int} {b:UInt8} (hv:v.length=c.aw.length+c.fields.length) (e:rT c v b.toNat=some u):u.length=v.length/\∀w,QT c u w->QT c v (b::w):=by
 unfold rT at e
 obtain⟨_,e⟩:=ah e
 obtain⟨o1,h1,e⟩:=aa e
 obtain⟨_,e⟩:=ah e
 obtain⟨o2,h2,e⟩:=aa e
 obtain⟨_,e⟩:=ah e
 obtain⟨o1',h1',h1''⟩:=BQ (n:=v.length) (i:=0) (out:=List.replicate v.length 0) (by simp)
 rw[show((0:Nat):Int)=0 from rfl,h1] at h1'
 cases h1'
 have ho1:o1=List.replicate v.length (-1):=by rw[h1''];rfl
 have hat:∀p,p<v.length->o1[p]? =some (-1):=fun p hp=>by rw[ho1,W5,HP hp]
 obtain⟨a1,a2,a3⟩:=Jr (i:=0) (fun p _ hp=>hat p ii) h2
 obtain⟨b1,b2,b3⟩:=Jt (m:=c.aw.length) (i:=0) (fun p hp1 hp2=>by rw[a2 p (.inr ii)];exact hat p ii) e
 have hlen:u.length=v.length:=by rw[b1,a1,ho1,Wc]
 refine⟨hlen,fun w hw=> ?_⟩
 rcases hw with⟨i,k,t,g1,g2,g3⟩|⟨j,f,t,g1,g2,g3,g4,g5⟩
 ·have hi:i<c.aw.length:=(VZ.1 g1).1
  obtain⟨s,hs⟩:∃s,v[i]? =some s:=⟨_,VV ii⟩
  rw[b2 i ii] at g2
  rcases a3 i k s t g1 (by rw[WU];exact hs) (by rw[WU];exact g2) with g|⟨s0,x,hx,ht⟩
  ·rw[g] at g3
   cases g3
  ·refine .inl ⟨i,k,s,g1,hs,?_⟩
   have hG:=hk k (V6 g1)
   have hw':=hG.wf x (V6 hx)
   have hd:dl k.set s.toNat b.toNat=(gA b.toNat x.aI k.set.length).toNat:=by
    unfold dl
    rw[hx]
   have e2:xc k.set s (b::w)=ac k.set (dl k.set s.toNat b.toNat) w:=by
    unfold xc
    rw[TP ii]
    rfl
   rw[e2,hd]
   by_cases hb:∃y,PU x.aI b.toNat y
   ·obtain⟨y,hy⟩:=hb
    rw[Be hw' hy] at ht⊢
    subst ht
    unfold xc at g3
    by_cases z:t<0
    ·rw[HP z] at g3;cases g3
    ·rw[TP z] at g3;exact g3
   ·rw[D2 fun y hy=>hb ⟨y,hy⟩] at ht
    rw[ht] at g3
    cases g3
 ·have hj:j<c.fields.length:=(VZ.1 g1).1
  obtain⟨n',hn⟩:∃s,v[c.aw.length+j]? =some s:=⟨_,VV ii⟩
  rcases b3 j f n' t g1 (by rw[W9];exact hn) (by rw[W9];exact g2) with g|⟨n0,ht,y,hy,hyb⟩
  ·omega
  ·refine .inr ⟨j,f,n',g1,hn,n0,by omega,?_⟩
   have hlt:=(VZ.1 hy).1
   rw[Wo hlt]
   rw[VV hlt] at hy
   rw[Wm hy,show n'.toNat+1=t.toNat by omega,g5,UInt8.toNat_inj.1 (show y.toNat=b.toNat by omega)]
theorem HS:∀{es:List Sv.Edge} {a r:List Bool},a.length=257->QG es a=some r->r.length=257/\(∀i:Nat,a[i]? =some true->r[i]? =some true)/\∀e∈es,∀i:Nat,((i:Int)=e.lo\/(i:Int)=e.hi+1)->r[i]? =some true
 |[],a,r,ha,h=>by
  cases h
  exact⟨ha,fun i hi=>hi,fun e he=>by cases he⟩
 |e::es,a,r,ha,h=>by
  unfold QG at h
  obtain⟨_,h⟩:=ah h
  obtain⟨j,x,hj,hj2,hx,h⟩:=dp h
  obtain⟨j2,x2,hj3,hj4,hx2,h⟩:=dp h
  obtain⟨h1,h2,h3⟩:=HS (by simp[ha]) h
  have hs:∀i:Nat,(a[i]? =some true\/i=j\/i=j2)->r[i]? =some true:=fun i hi=>h2 i ((dG (by simp;omega) i).2 (by
   rcases hi with hi|hi|hi
   ·exact .inl ((dG ii i).2 (.inl hi))
   ·exact .inl ((dG ii i).2 (.inr hi))
   ·exact .inr hi))
  refine⟨h1,fun i hi=>hs i (.inl hi),fun e' he i hi=> ?_⟩
  rcases V9.1 he with rfl|he
  ·exact hs i (.inr ii)
  ·exact h3 e' he i hi
theorem HN {v:List Int}:∀{ks:List (cW Va)} {i:Nat} {a r:List Bool},a.length=257->LR v ks i a=some r->r.length=257/\(∀p:Nat,a[p]? =some true->r[p]? =some true)/\∀q k s,ks[q]? =some k->v[i+q]? =some s->0<=s->∀x,k.set[s.toNat]? =some x->∀e∈x.aI,∀p:Nat,((p:Int)=e.lo\/(p:Int)=e.hi+1)->r[p]? =some true
 |[],i,a,r,ha,h=>by
  cases h
  exact⟨ha,fun p hp=>hp,fun q k s hq=>by simp at hq⟩
 |k::ks,i,a,r,ha,h=>by
  have e1:((i:Int)+1)=((i+1:Nat):Int):=by omega
  unfold LR at h
  obtain⟨j,s,hj,hs,h⟩:=az h
  have:j=i:=by omega
  subst this
  rw[e1] at h
  have fin:∀{a':List Bool},a'.length=257->(∀p:Nat,a[p]? =some true->a'[p]? =some true)->(0<=s->∀x,k.set[s.toNat]? =some x->∀e∈x.aI,∀p:Nat,((p:Int)=e.lo\/(p:Int)=e.hi+1)->a'[p]? =some true)->LR v ks ((j+1:Nat):Int) a'=some r->r.length=257/\(∀p:Nat,a[p]? =some true->r[p]? =some true)/\∀q k' s',(k::ks)[q]? =some k'->v[j+q]? =some s'->0<=s'->∀x,k'.set[s'.toNat]? =some x->∀e∈x.aI,∀p:Nat,((p:Int)=e.lo\/(p:Int)=e.hi+1)->r[p]? =some true:=fun{a'} k1 k2 k3 h=>by
   obtain⟨h1,h2,h3⟩:=HN k1 h
   refine⟨h1,fun p hp=>h2 p (k2 p hp),fun q k' s' hq hs' h0 x hx e he p hp=> ?_⟩
   cases q with
   |zero=>
    cases hq
    rw[W9,hs] at hs'
    cases hs'
    exact h2 p (k3 h0 x hx e he p hp)
   |succ q=>exact h3 q k' s' (by simpa using hq) (by rw[<-hs'];congr 1;omega) h0 x hx e he p hp
  by_cases g:s<0
  ·rw[HP g] at h
   exact fin ha (fun p hp=>hp) (fun h0=>by omega) h
  ·rw[TP g] at h
   obtain⟨t,x,ht,hx,h⟩:=az h
   obtain⟨_,h⟩:=ah h
   obtain⟨a',h1,h⟩:=aa h
   obtain⟨c1,c2,c3⟩:=HS ha h1
   exact fin c1 c2 (fun _ x' hx'=>by
    rw[ht,WR,hx] at hx'
    cases hx'
    exact c3) h
theorem HQ {v:List Int} {m:Nat}:∀{fs:List (dy Va)} {i:Nat} {a r:List Bool},a.length=257->JU v m fs i a=some r->r.length=257/\(∀p:Nat,a[p]? =some true->r[p]? =some true)/\∀q f n,fs[q]? =some f->v[m+i+q]? =some n->0<=n->∀y:UInt8,f.label[n.toNat]? =some y->∀p:Nat,(p=y.toNat\/p=y.toNat+1)->r[p]? =some true
 |[],i,a,r,ha,h=>by
  cases h
  exact⟨ha,fun p hp=>hp,fun q k s hq=>by simp at hq⟩
 |f::fs,i,a,r,ha,h=>by
  have e1:((i:Int)+1)=((i+1:Nat):Int):=by omega
  unfold JU at h
  obtain⟨j,n,hj,hn,h⟩:=az h
  have:j=m+i:=by omega
  subst this
  have fin:∀{a':List Bool},a'.length=257->(∀p:Nat,a[p]? =some true->a'[p]? =some true)->(0<=n->∀y:UInt8,f.label[n.toNat]? =some y->∀p:Nat,(p=y.toNat\/p=y.toNat+1)->a'[p]? =some true)->JU v m fs ((i:Int)+1) a'=some r->r.length=257/\(∀p:Nat,a[p]? =some true->r[p]? =some true)/\∀q f' n',(f::fs)[q]? =some f'->v[m+i+q]? =some n'->0<=n'->∀y:UInt8,f'.label[n'.toNat]? =some y->∀p:Nat,(p=y.toNat\/p=y.toNat+1)->r[p]? =some true:=fun{a'} k1 k2 k3 h=>by
   rw[e1] at h
   obtain⟨h1,h2,h3⟩:=HQ k1 h
   refine⟨h1,fun p hp=>h2 p (k2 p hp),fun q f' n' hq hs' h0 y hy p hp=> ?_⟩
   cases q with
   |zero=>
    cases hq
    rw[W9,hn] at hs'
    cases hs'
    exact h2 p (k3 h0 y hy p hp)
   |succ q=>exact h3 q f' n' (by simpa using hq) (by rw[<-hs'];congr 1;omega) h0 y hy p hp
  by_cases g:n>=0
  ·rw[HP g] at h
   obtain⟨_,h⟩:=ah h
   by_cases g1:n<(f.label.length:Int)
   ·rw[HP g1] at h
    obtain⟨t,y,ht,hy,h⟩:=az h
    obtain⟨j1,x1,hj1,hj2,hx1,h⟩:=dp h
    obtain⟨j3,x3,hj3,hj4,hx3,h⟩:=dp h
    refine fin (by simp[ha]) (fun p hp=>(dG (by simp;omega) p).2 (.inl ((dG ii p).2 (.inl hp)))) (fun _ y' hy' p hp=> ?_) h
    rw[ht,WR,hy] at hy'
    cases hy'
    rcases hp with hp|hp
    ·exact(dG (by simp;omega) p).2 (.inl ((dG ii p).2 (.inr ii)))
    ·exact(dG (by simp;omega) p).2 (.inr ii)
   ·rw[TP g1] at h
    exact fin ha (fun p hp=>hp) (fun _ y hy=>by have:=(VZ.1 hy).1;omega) h
  ·rw[TP g] at h
   exact fin ha (fun p hp=>hp) (fun h0=>by omega) h
theorem QE {a:List Bool}:∀{n c:Nat} {out o:List Int},PX a n c out=some o->(∀x∈out,x∈o)/\∀p:Nat,c<=p->p<c+n->a[p]? =some true->(p:Int)∈o:=by
 intro n
 induction n with
 |zero=>
  intro c out o h
  cases h
  exact⟨fun x hx=>hx,fun p h1 h2=>by omega⟩
 |succ n ih=>
  intro c out o h
  have e1:((c:Int)+1)=((c+1:Nat):Int):=by omega
  unfold PX at h
  obtain⟨j,x,hj,_,hx,h⟩:=gX h
  have:j=c:=by omega
  subst this
  cases x with
  |true=>
   rw[HP rfl] at h
   obtain⟨_,h⟩:=ah h
   obtain⟨_,h⟩:=aC h
   rw[e1] at h
   obtain⟨h1,h2⟩:=ih h
   refine⟨fun x hx=>h1 x (Wu _ hx),fun p p1 p2 hp=> ?_⟩
   by_cases g:p=j
   ·subst g
    exact h1 _ (WB _ (V1.2 rfl))
   ·exact h2 p ii ii hp
  |false=>
   rw[TP (by decide),e1] at h
   obtain⟨h1,h2⟩:=ih h
   refine⟨h1,fun p p1 p2 hp=> ?_⟩
   by_cases g:p=j
   ·subst g
    rw[hx] at hp
    cases hp
   ·exact h2 p ii ii hp
theorem z7 {b b':Int} {i:Int}:∀{es:List Sv.Edge} {out:List Int},(∀e∈es,(e.lo<=b/\b<=e.hi)↔(e.lo<=b'/\b'<=e.hi))->E8 b i es out=E8 b' i es out
 |[],_,_=>rfl
 |e::r,out,h=>by
  have h1:=h e (V0 ..)
  have ih:∀o,E8 b i r o=E8 b' i r o:=fun o=>z7 fun x hx=>h x (VX _ hx)
  unfold E8
  by_cases g:e.lo<=b/\b<=e.hi
  ·rw[HP g.1,HP g.2,HP (h1.1 g).1,HP (h1.1 g).2]
   simp only[ih]
  ·have p:∀z:Int,¬(e.lo<=z/\z<=e.hi)->∀(X Y:Option (List Int)),(if e.lo<=z then if z<=e.hi then X else Y else Y)=Y:=fun z hz X Y=>by
    by_cases z1:e.lo<=z
    ·rw[HP z1,TP fun z2=>hz ⟨z1,z2⟩]
    ·rw[TP z1]
   rw[p b g,p b' fun x=>g (h1.2 x),ih]
theorem tU {α:Type} (l:List α) (i:Nat):cJ l (i:Int)=l[i]? :=by
 unfold cJ
 rw[HP ii,WR]
theorem zY {v:List Int} {b b':Int}:∀{ks:List (cW Va)} {i:Nat} {out:List Int},(∀q k s,ks[q]? =some k->v[i+q]? =some s->0<=s->∀x,k.set[s.toNat]? =some x->∀e∈x.aI,(e.lo<=b/\b<=e.hi)↔(e.lo<=b'/\b'<=e.hi))->BR v b ks i out=BR v b' ks i out
 |[],_,_,_=>rfl
 |k::ks,i,out,h=>by
  have e1:((i:Int)+1)=((i+1:Nat):Int):=by omega
  have ih:∀o,BR v b ks ((i+1:Nat):Int) o=BR v b' ks ((i+1:Nat):Int) o:=fun o=>zY fun q k' s hq hs=>h (q+1) k' s (by simpa using hq) (by rw[<-hs];congr 1;omega)
  unfold BR
  rw[tU,e1]
  cases hs:v[i]? with
  |none=>rfl
  |some s=>
   simp only[VU]
   by_cases g:s<0
   ·rw[HP g,HP g,ih]
   ·rw[TP g,TP g]
    have es:s=(s.toNat:Int):=by omega
    rw[es,tU]
    cases hx:k.set[s.toNat]? with
    |none=>rfl
    |some x=>
     simp only[VU,ih]
     rw[z7 (h 0 k s rfl (by rw[W9];exact hs) ii x hx)]
theorem zZ {v:List Int} {b b':Int} {m:Nat}:∀{fs:List (dy Va)} {i:Nat} {out:List Int},(∀q f n,fs[q]? =some f->v[m+i+q]? =some n->0<=n->∀y:UInt8,f.label[n.toNat]? =some y->((y.toNat:Int)=b↔(y.toNat:Int)=b'))->z6 v b m fs i out=z6 v b' m fs i out
 |[],_,_,_=>rfl
 |f::fs,i,out,h=>by
  have e1:((i:Int)+1)=((i+1:Nat):Int):=by omega
  have ih:∀o,z6 v b m fs ((i+1:Nat):Int) o=z6 v b' m fs ((i+1:Nat):Int) o:=fun o=>zZ fun q f' n hq hs=>h (q+1) f' n (by simpa using hq) (by rw[<-hs];congr 1;omega)
  unfold z6
  rw[show(m:Int)+(i:Int)=((m+i:Nat):Int) by omega,tU,e1]
  cases hn:v[m+i]? with
  |none=>rfl
  |some n=>
   simp only[VU]
   by_cases g:n>=0
   ·rw[HP g,HP g]
    have es:n=(n.toNat:Int):=by omega
    by_cases g1:n<(f.label.length:Int)
    ·rw[HP g1,HP g1]
     rw[show cJ f.label n=cJ f.label (n.toNat:Int) by rw[<-es],tU]
     cases hy:f.label[n.toNat]? with
     |none=>rfl
     |some y=>
      have:=h 0 f n rfl (by rw[W9];exact hn) g y hy
      simp only[VU,ih,this]
    ·rw[TP g1,TP g1]
     simp only[ih]
   ·rw[TP g,TP g,ih]
theorem FU {c:aF Va} {v bs:List Int} (e:mc c v=some bs):(0:Int)∈bs/\∀b:Nat,0<b->b<256->(b:Int)∉bs->rT c v b=rT c v ((b:Int)-1):=by
 unfold mc at e
 obtain⟨_,e⟩:=ah e
 obtain⟨a1,h1,e⟩:=aa e
 obtain⟨_,e⟩:=ah e
 obtain⟨a2,h2,e⟩:=aa e
 obtain⟨k1,k2,k3⟩:=HN (i:=0) (by unfold Jk;rw[V5,Wc]) h1
 obtain⟨f1,f2,f3⟩:=HQ (i:=0) k1 h2
 obtain⟨_,o2⟩:=QE (c:=0) e
 refine⟨o2 0 (V2 _) ii (f2 0 (k2 0 rfl)),fun b b0 b1 hb=> ?_⟩
 have hno:¬a2[b]? =some true:=fun g=>hb (o2 b (Wd _) ii g)
 unfold rT
 congr 1
 funext _
 congr 1
 funext out
 congr 1
 funext _
 have hK:BR v (b:Int) c.aw 0 out=BR v ((b:Int)-1) c.aw 0 out:=zY (i:=0) fun q k s hq hs h0 x hx e he=>by
  have g1:(b:Int)≠e.lo:=fun g=>hno (f2 b (k3 q k s hq hs h0 x hx e he b (.inl g)))
  have g2:(b:Int)≠e.hi+1:=fun g=>hno (f2 b (k3 q k s hq hs h0 x hx e he b (.inr g)))
  omega
 rw[hK]
 congr 1
 funext out
 congr 1
 funext _
 refine zZ (i:=0) fun q f n hq hn h0 y hy=> ?_
 have g1:b≠y.toNat:=fun g=>hno (f3 q f n hq hn h0 y hy b (.inl g))
 have g2:b≠y.toNat+1:=fun g=>hno (f3 q f n hq hn h0 y hy b (.inr g))
 omega
theorem TB {x k:List UInt8} {l:List (List UInt8×Unit)} (h:cx x (l++[(k,())])≠none):cx x l≠none\/x=k:=by
 induction l with
 |nil=>
  refine .inr ?_
  rw[Xg] at h
  unfold cx at h
  by_cases g:k=x
  ·exact g.symm
  ·rw[TP g] at h
   exact(h rfl).elim
 |cons p l ih=>
  rw[XM] at h
  unfold cx at h⊢
  by_cases g:p.1=x
  ·rw[HP g]
   exact .inl (by simp)
  ·rw[TP g] at h⊢
   exact ih h
def LI (c:aF Va) (S:List (List Int)) (v:List Int):Prop:=DT c v=some 1/\∀bs,mc c v=some bs->∀b∈bs,∃u∈S,rT c v b=some u
theorem LI.mono {c:aF Va} {S T:List (List Int)} {v:List Int} (h:LI c S v) (hs:∀u∈S,u∈T):LI c T v:=⟨h.1,fun bs hb b hm=>by
 obtain⟨u,h1,h2⟩:=h.2 bs hb b hm
 exact⟨u,hs u h1,h2⟩⟩
structure VJ (c:aF Va) (S:List (List Int)) (seen:List (List UInt8×Unit)):Prop where
 ok:∀v∈S,yj c v
 kn:∀k,cx k seen≠none->∃v∈S,rv v=some k
theorem yj.eO {n:Nat} {c:aF Va} (hc:L0 n c) {v:List Int} (h:yj c v):∀x∈v,-1<=x:=by
 obtain⟨a,b,L,rfl,h1,h2,h3⟩:=h
 intro x hx
 rcases V8.1 hx with hx|hx
 ·exact(h1.eO hc.kg x hx).1
 ·rcases h3.eO x hx with g|g<;>omega
theorem wE {n:Nat} (hn:n<1000000000) {c:aF Va} (hc:L0 n c) {v:List Int} (hv:yj c v):∀{bs:List Int} {todo:List (List Int)} {seen:List (List UInt8×Unit)} {S:List (List Int)} {p:List (List Int)×List (List UInt8×Unit)},VJ c S seen->yd c v bs todo seen=some p->∃ext,p.1=todo++ext/\VJ c (S++ext) p.2/\∀b∈bs,∃u∈S++ext,rT c v b=some u
 |[],todo,seen,S,p,h,e=>by
  cases e
  exact⟨[],(Wy _).symm,by rw[Wy];exact h,fun b hb=>by cases hb⟩
 |b::bs,todo,seen,S,p,h,e=>by
  unfold yd at e
  obtain⟨w,hw,e⟩:=aa e
  obtain⟨k,hk,e⟩:=aa e
  obtain⟨w',hw',hwok⟩:=E7 hn hc hv (b:=b)
  rw[hw] at hw'
  cases hw'
  cases hf:cx k seen with
  |some _=>
   rw[hf] at e
   obtain⟨v',h1,h2⟩:=h.kn k (by rw[hf];simp)
   have heq:v'=w:=N0 ((h.ok v' h1).eO hc) (hwok.eO hc) h2 hk
   subst heq
   obtain⟨ext,g1,g2,g3⟩:=wE hn hc hv h e
   refine⟨ext,g1,g2,fun x hx=> ?_⟩
   rcases V9.1 hx with rfl|hx
   ·exact⟨v',Wu _ h1,hw⟩
   ·exact g3 x hx
  |none=>
   rw[hf] at e
   obtain⟨_,e⟩:=aC e
   obtain⟨ext,g1,g2,g3⟩:=wE hn hc hv (S:=S++[w]) ⟨fun u hu=>by
    rcases V8.1 hu with hu|hu
    ·exact h.ok u hu
    ·rw[V1.1 hu];exact hwok,fun k' hk'=>by
    rcases TB hk' with g|g
    ·obtain⟨u,u1,u2⟩:=h.kn k' g
     exact⟨u,Wu _ u1,u2⟩
    ·exact⟨w,WB _ (V1.2 rfl),by rw[g];exact hk⟩⟩ e
   rw[WG] at g1 g2 g3
   refine⟨[w]++ext,g1,g2,fun x hx=> ?_⟩
   rcases V9.1 hx with rfl|hx
   ·exact⟨w,by simp,hw⟩
   ·exact g3 x hx
theorem EH {n:Nat} (hn:n<1000000000) {c:aF Va} (hc:L0 n c):∀{f:Nat} {todo:List (List Int)} {seen:List (List UInt8×Unit)} {S:List (List Int)},VJ c S seen->(∀v∈todo,v∈S)->(∀v∈S,v∈todo\/LI c S v)->Bu c f todo seen=some true->∃T,(∀v∈S,v∈T)/\∀v∈T,yj c v/\LI c T v
 |0,_,_,_,_,_,_,e=>by cases e
 |f+1,todo,seen,S,h,ht,hp,e=>by
  unfold Bu at e
  obtain⟨_,e⟩:=ah e
  rcases Yg todo with rfl|⟨q,v,rfl⟩
  ·exact⟨S,fun v hv=>hv,fun v hv=>⟨h.ok v hv,(hp v hv).elim (fun g=>by cases g) id⟩⟩
  ·rw[Xl] at e ht hp
   rw[HP (by rw[V7,Ws];omega)] at e
   obtain⟨j,v',hj,hv',e⟩:=az e
   have:j=q.length:=by rw[V7,Ws] at hj;omega
   subst this
   rw[Wh (V2 _),Xh] at hv'
   cases hv'
   have hvS:=ht v (by simp)
   have hvok:=h.ok v hvS
   obtain⟨hh,h1,e⟩:=aa e
   by_cases g:hh=1
   ·rw[HP g] at e
    obtain⟨bs,h2,e⟩:=aa e
    obtain⟨_,e⟩:=ah e
    obtain⟨p,h3,e⟩:=aa e
    have etk:(q++[v]).take ((q++[v]).length-1)=q:=by simp
    rw[etk] at h3
    obtain⟨ext,g1,g2,g3⟩:=wE hn hc hvok h h3
    have hsub:∀u∈S,u∈S++ext:=fun u hu=>Wu _ hu
    obtain⟨T,t1,t2⟩:=EH hn hc g2 (fun u hu=>by
     rw[g1] at hu
     rcases V8.1 hu with hu|hu
     ·exact hsub u (ht u (by simp[hu]))
     ·exact WB _ hu) (fun u hu=>by
     rcases V8.1 hu with hu|hu
     ·rcases hp u hu with z|z
      ·rcases V8.1 z with z|z
       ·exact .inl (by rw[g1];exact Wu _ z)
       ·rw[V1.1 z]
        exact .inr ⟨by rw[h1,g],fun bs' hb' b hb=>by rw[h2] at hb';cases hb';exact g3 b hb⟩
      ·exact .inr (z.mono hsub)
     ·exact .inl (by rw[g1];exact WB _ hu)) e
    exact⟨T,fun u hu=>t1 u (hsub u hu),t2⟩
   ·rw[TP g] at e
    cases e
theorem yj.len {c:aF Va} {v:List Int} (h:yj c v):v.length=c.aw.length+c.fields.length:=by
 obtain⟨a,b,L,rfl,h1,h2,h3⟩:=h
 rw[V7,h1.len,h3.len]
theorem wF {n:Nat} {c:aF Va} (hc:L0 n c) {T:List (List Int)} (hT:∀v∈T,yj c v/\LI c T v):∀(w:List UInt8) (v:List Int),v∈T->QT c v w
 |[],v,hv=>Oc (hT v hv).2.1
 |b::w,v,hv=>by
  obtain⟨h1,h2⟩:=hT v hv
  obtain⟨bs,hbs,_⟩:=uw hc h1
  obtain⟨s1,s2⟩:=FU hbs
  have all:∀x:Nat,x<256->∃u∈T,rT c v (x:Int)=some u:=fun x=>by
   induction x with
   |zero=>exact fun _=>h2.2 bs hbs 0 s1
   |succ x ih=>
    intro hx
    by_cases g:((x+1:Nat):Int)∈bs
    ·exact h2.2 bs hbs _ g
    ·rw[s2 (x+1) ii hx g,show((x+1:Nat):Int)-1=(x:Int) by omega]
     exact ih ii
  obtain⟨u,hu,hau⟩:=all b.toNat (by have:=We b;omega)
  exact(S3 hc.kg h1.len hau).2 w (wF hc hT w u hu)
theorem SD {n:Nat} (hn:n<400000000) {c:aF Va} (hc:SCi n c) (e:GS c=some true):(∀k∈c.aw,VL n k.set)/\∀w:List UInt8,(∃f∈c.fields,f.label=w)\/∃k∈c.aw,ac k.set 0 w=true:=by
 have hV:∀{r:List (cW Va)},(∀k∈r,AB n k.set)->Bv c r=some true->(∀k∈r,VL n k.set/\0<k.set.length)/\La c=some true:=fun{r}=>by
  induction r with
  |nil=>exact fun _ e=>⟨fun k hk=>(by cases hk),e⟩
  |cons k r ih=>
   intro hab e
   unfold Bv at e
   obtain⟨_,e⟩:=ah e
   by_cases g:(k.set.length:Int)=0
   ·rw[HP g] at e
    cases e
   ·rw[TP g] at e
    obtain⟨ok,h1,e⟩:=aa e
    cases ok with
    |false=>cases e
    |true=>
     rw[HP rfl] at e
     obtain⟨h2,h3⟩:=ih (fun x hx=>hab x (VX _ hx)) e
     refine⟨fun x hx=> ?_,h3⟩
     rcases V9.1 hx with rfl|hx
     ·exact⟨VL.of (hab x (V0 ..)) ii h1,by omega⟩
     ·exact h2 x hx
 unfold GS at e
 obtain⟨_,e⟩:=ah e
 obtain⟨h1,h2⟩:=hV hc.ab e
 refine⟨fun k hk=>(h1 k hk).1,fun w=> ?_⟩
 have hk:L0 n c:=⟨hc.kl,hc.fl,fun k hk=>(h1 k hk).1.gd,hc.A6⟩
 unfold La at h2
 obtain⟨_,h2⟩:=ah h2
 obtain⟨_,h2⟩:=ah h2
 obtain⟨_,h2⟩:=ah h2
 obtain⟨k,h3,h2⟩:=aa h2
 have hz:yj c (List.replicate (c.aw.length+c.fields.length) 0):=⟨List.replicate c.aw.length 0,List.replicate c.fields.length 0,0,by rw[XV],VK.zero fun k hk=>(h1 k hk).2,by omega,VF.start⟩
 obtain⟨T,t1,t2⟩:=EH ii hk (S:=[List.replicate (c.aw.length+c.fields.length) 0]) ⟨fun v hv=>by rw[V1.1 hv];exact hz,fun k' hk'=>⟨_,V1.2 rfl,by
  rcases TB (l:=[]) hk' with g|g
  ·exact(g rfl).elim
  ·rw[g];exact h3⟩⟩ (fun v hv=>hv) (fun v hv=> .inl hv) h2
 rcases wF hk t2 w _ (t1 _ (V1.2 rfl)) with⟨i,k,s,g1,g2,g3⟩|⟨j,f,m,g1,g2,g3,g4,g5⟩
 ·have hs:s=0:=by
   rw[W5] at g2
   split at g2<;>cases g2
   rfl
  subst hs
  exact .inr ⟨k,V6 g1,g3⟩
 ·have hs:m=0:=by
   rw[W5] at g2
   split at g2<;>cases g2
   rfl
  subst hs
  exact .inl ⟨f,V6 g1,g5⟩
set_option maxRecDepth 100000
theorem vz:∀x:List UInt8,Op.bytesLess x x=false
 |[]=>rfl
 |a::x=>by
  unfold Op.bytesLess
  rw[vz x]
  simp
theorem vy:∀{x y z:List UInt8},Op.bytesLess x y=true->Op.bytesLess y z=true->Op.bytesLess x z=true
 |_,y,[],_,h=>by
  have:Op.bytesLess y []=false:=by cases y<;>rfl
  rw[this] at h
  cases h
 |[],_,_::_,_,_=>rfl
 |_::_,[],_::_,h,_=>by cases h
 |a::x,b::y,c::z,h1,h2=>by
  unfold Op.bytesLess at h1 h2⊢
  simp only[X1,Wa,WY,Yo] at h1 h2⊢
  rcases h1 with h1|⟨rfl,h1⟩
  ·rcases h2 with h2|⟨rfl,h2⟩
   ·exact .inl (UInt8.lt_trans h1 h2)
   ·exact .inl h1
  ·rcases h2 with h2|⟨rfl,h2⟩
   ·exact .inl h2
   ·exact .inr ⟨rfl,vy h1 h2⟩
structure GSc (P:Va->Prop) (c:aF Va):Prop where
 sm:iF P c
 dR:∀f∈c.fields,f.dR=1\/f.dR=2
 E0:c.fields.Pairwise fun x y=>Op.bytesLess x.label y.label=true
 vl:∀k∈c.aw,VL 15000 k.set
 cov:∀w:List UInt8,(∃f∈c.fields,f.label=w)\/∃k∈c.aw,ac k.set 0 w=true
structure GC (P:Va->Prop) (v:bt Va):Prop where
 sm:Jv P v
 sc:qT 5 8 v.sc
 rl:∀c∈v.lists,c.rest.length<=1
 st:∀c∈v.structs,GSc P c
 an:v.any=true->v.lists=[]/\v.structs=[]
def tY:Nat->bt Va->Prop
 |0,v=>GC (fun _=>False) v
 |d+1,v=>GC (fun x=>tY d x.v/\tY d x.d) v
def GP:Nat->Va->Prop
 |0,_=>False
 |d+1,x=>tY d x.v/\tY d x.d
theorem tY.c {d:Nat} {v:bt Va} (h:tY d v):GC (GP d) v:=by
 cases d<;>exact h
theorem tY.of {d:Nat} {v:bt Va} (h:GC (GP d) v):tY d v:=by
 cases d<;>exact h
theorem D9 {l:List (dy Va)}:∀{r:List (dy Va)} {i:Nat},l.drop i=r->(l.take i).Pairwise (fun x y=>Op.bytesLess x.label y.label=true)->(∀f∈l.take i,f.dR=1\/f.dR=2)->te l r i=some true->l.Pairwise (fun x y=>Op.bytesLess x.label y.label=true)/\∀f∈l,f.dR=1\/f.dR=2
 |[],i,hd,h1,h2,e=>by
  have:l.take i=l:=by
   have:=XW i l
   rwa [hd,Wy] at this
  rw[this] at h1 h2
  exact⟨h1,h2⟩
 |f::r,i,hd,h1,h2,e=>by
  obtain⟨h3,h4⟩:=Bk hd
  have hil:=(VZ.1 h3).1
  have e1:((i:Int)+1)=((i+1:Nat):Int):=by omega
  have htk:l.take (i+1)=l.take i++[f]:=by rw[W6,h3];rfl
  have fin:(f.dR=1\/f.dR=2)->((Ea l f i).bind fun c=>if c then te l r ((i:Int)+1) else some false)=some true->l.Pairwise (fun x y=>Op.bytesLess x.label y.label=true)/\∀f∈l,f.dR=1\/f.dR=2:=fun hp e=>by
   obtain⟨c,h5,e⟩:=aa e
   cases c with
   |false=>cases e
   |true=>
    rw[HP rfl,e1] at e
    refine D9 h4 ?_ (fun g hg=> ?_) e
    ·rw[htk]
     refine Wx.2 ⟨h1,WH _ _,fun a ha b hb=> ?_⟩
     rw[V1.1 hb]
     have hpos:0<i:=by
      rcases W8 i with rfl|g
      ·simp at ha
      ·exact g
     unfold Ea at h5
     rw[HP ii] at h5
     obtain⟨_,h5⟩:=ah h5
     obtain⟨j,p,hj,hp',h5⟩:=az h5
     have:j=i-1:=by omega
     subst this
     have hpf:=Wm h5
     obtain⟨k,hk⟩:=Wj.1 ha
     have hki:k<i:=by have:=(VZ.1 hk).1;simp at this;omega
     rw[List.getElem?_take_of_lt hki] at hk
     by_cases hk':k=i-1
     ·subst hk'
      rw[hk] at hp'
      cases hp'
      exact hpf
     ·refine vy (WS.1 h1 k (i-1) (by simp;omega) (by simp;omega) ii|>fun z=> ?_) hpf
      have ea:(l.take i)[k]'(by simp;omega)=a:=by
       rw[List.getElem_take]
       exact(VZ.1 hk).2
      have ep:(l.take i)[i-1]'(by simp;omega)=p:=by
       rw[List.getElem_take]
       exact(VZ.1 hp').2
      rwa [ea,ep] at z
    ·rw[htk] at hg
     rcases V8.1 hg with hg|hg
     ·exact h2 g hg
     ·rw[V1.1 hg];exact hp
  unfold te at e
  by_cases g1:f.dR=1
  ·rw[HP g1] at e
   exact fin (.inl g1) e
  ·rw[TP g1] at e
   by_cases g2:f.dR=2
   ·rw[HP g2] at e
    exact fin (.inr g2) e
   ·rw[TP g2] at e
    cases e
theorem Kv {s:bM} (e:sw s=some true):qT 5 8 s:=by
 unfold sw at e
 cases h1:s.null with
 |true=>rw[h1,HP rfl] at e;cases e
 |false=>
  rw[h1,TP (by decide)] at e
  cases h2:s.sE with
  |true=>rw[h2,HP rfl] at e;cases e
  |false=>
   rw[h2,TP (by decide)] at e
   cases h3:s.rY with
   |true=>rw[h3,HP rfl] at e;cases e
   |false=>
    rw[h3,TP (by decide)] at e
    obtain⟨_,e⟩:=ah e
    obtain⟨_,e⟩:=ah e
    obtain⟨_,e⟩:=ah e
    have:=Wp (Wm e)
    have e1:s.ints=[]:=Wn.1 ii
    have e2:s.bC=[]:=Wn.1 ii
    have e3:s.strs=[]:=Wn.1 ii
    have:s=et:=by
     cases s
     simp only at h1 h2 h3 e1 e2 e3
     subst h1 h2 h3 e1 e2 e3
     rfl
    rw[this]
    exact Aa 5 8
theorem IK {P:Va->Prop} {sc:bM} (hs:SB 5 8 sc):∀{ss:List (aF Va)},(∀c∈ss,iF P c)->P0 sc ss=some true->qT 5 8 sc/\∀c∈ss,GSc P c
 |[],_,e=>⟨qT.of ii ii hs e,fun c hc=>(by cases hc)⟩
 |c::r,h,e=>by
  have hc:=h c (V0 ..)
  unfold P0 at e
  obtain⟨b1,h1,e⟩:=aa e
  cases b1 with
  |false=>cases e
  |true=>
   rw[HP rfl] at e
   obtain⟨b2,h2,e⟩:=aa e
   cases b2 with
   |false=>cases e
   |true=>
    rw[HP rfl] at e
    obtain⟨h3,h4⟩:=IK hs (fun c hc=>h c (VX _ hc)) e
    refine⟨h3,fun x hx=> ?_⟩
    rcases V9.1 hx with rfl|hx
    ·unfold n5 at h1
     obtain⟨_,h1⟩:=ah h1
     obtain⟨f1,f2⟩:=D9 (i:=0) rfl (by simp) (fun f hf=>by simp at hf) h1
     obtain⟨k1,k2⟩:=SD ii hc.sci h2
     exact⟨hc,f2,f1,k1,k2⟩
    ·exact h4 x hx
theorem KV {P:Va->Prop} {v:bt Va} (h:Jv P v) (e:sC v=some true):GC P v:=by
 unfold sC at e
 cases hany:v.any with
 |true=>
  rw[hany,HP rfl] at e
  obtain⟨c,h1,e⟩:=aa e
  cases c with
  |false=>cases e
  |true=>
   rw[HP rfl] at e
   obtain⟨_,e⟩:=ah e
   obtain⟨_,e⟩:=ah e
   have:=Wp (Wm e)
   have e1:v.lists=[]:=Wn.1 ii
   have e2:v.structs=[]:=Wn.1 ii
   exact⟨h,Kv h1,fun c hc=>(by rw[e1] at hc;cases hc),fun c hc=>(by rw[e2] at hc;cases hc),fun _=>⟨e1,e2⟩⟩
 |false=>
  rw[hany,TP (by decide)] at e
  obtain⟨_,e⟩:=ah e
  have key:∀{ls:List (aV Va)},RX v.sc v.structs ls=some true->(∀c∈ls,c.rest.length<=1)/\P0 v.sc v.structs=some true:=fun{ls}=>by
   induction ls with
   |nil=>
    intro e
    unfold RX at e
    obtain⟨_,e⟩:=ah e
    exact⟨fun c hc=>(by cases hc),e⟩
   |cons c r ih=>
    intro e
    unfold RX at e
    obtain⟨_,e⟩:=ah e
    by_cases g:(c.rest.length:Int)>1
    ·rw[HP g] at e
     cases e
    ·rw[TP g] at e
     obtain⟨h1,h2⟩:=ih e
     refine⟨fun x hx=> ?_,h2⟩
     rcases V9.1 hx with rfl|hx
     ·omega
     ·exact h1 x hx
  obtain⟨h1,h2⟩:=key e
  obtain⟨h3,h4⟩:=IK h.sc h.s h2
  exact⟨h,h3,h1,h4,fun g=>by rw[hany] at g;cases g⟩
theorem HH:∀{ks:List (cW Va)} {out r:List Va},QB ks out=some r->(∀x∈out,x∈r)/\∀k∈ks,k.val∈r
 |[],out,r,e=>by cases e;exact⟨fun x hx=>hx,fun k hk=>by cases hk⟩
 |k::ks,out,r,e=>by
  unfold QB at e
  obtain⟨_,e⟩:=aC e
  obtain⟨h1,h2⟩:=HH e
  refine⟨fun x hx=>h1 x (Wu _ hx),fun x hx=> ?_⟩
  rcases V9.1 hx with rfl|hx
  ·exact h1 _ (by simp)
  ·exact h2 x hx
theorem HJ {ks:List (cW Va)}:∀{fs:List (dy Va)} {out r:List Va},Mn ks fs out=some r->(∀x∈out,x∈r)/\(∀f∈fs,f.val∈r)/\∀k∈ks,k.val∈r
 |[],out,r,e=>by
  unfold Mn at e
  obtain⟨_,e⟩:=ah e
  obtain⟨h1,h2⟩:=HH e
  exact⟨h1,fun f hf=>(by cases hf),h2⟩
 |f::fs,out,r,e=>by
  unfold Mn at e
  obtain⟨_,e⟩:=aC e
  obtain⟨h1,h2,h3⟩:=HJ e
  refine⟨fun x hx=>h1 x (Wu _ hx),fun x hx=> ?_,h3⟩
  rcases V9.1 hx with rfl|hx
  ·exact h1 _ (by simp)
  ·exact h2 x hx
theorem Jd:∀{ss:List (aF Va)} {out r:List Va},SF ss out=some r->(∀x∈out,x∈r)/\∀c∈ss,(∀f∈c.fields,f.val∈r)/\∀k∈c.aw,k.val∈r
 |[],out,r,e=>by cases e;exact⟨fun x hx=>hx,fun c hc=>by cases hc⟩
 |c::ss,out,r,e=>by
  unfold SF at e
  obtain⟨l,h0,e⟩:=aa e
  obtain⟨_,e⟩:=eu e
  unfold gF at h0
  obtain⟨_,h0⟩:=ah h0
  obtain⟨_,s2,s3⟩:=HJ h0
  obtain⟨h1,h2⟩:=Jd e
  refine⟨fun x hx=>h1 x (Wu _ hx),fun x hx=> ?_⟩
  rcases V9.1 hx with rfl|hx
  ·exact⟨fun f hf=>h1 _ (WB _ (s2 f hf)),fun k hk=>h1 _ (WB _ (s3 k hk))⟩
  ·exact h2 x hx
theorem Jf {ss:List (aF Va)}:∀{ls:List (aV Va)} {out r:List Va},O6 ss ls out=some r->(∀x∈out,x∈r)/\(∀c∈ls,∀x,x∈c.items\/x∈c.rest->x∈r)/\∀c∈ss,(∀f∈c.fields,f.val∈r)/\∀k∈c.aw,k.val∈r
 |[],out,r,e=>by
  unfold O6 at e
  obtain⟨_,e⟩:=ah e
  obtain⟨h1,h2⟩:=Jd e
  exact⟨h1,fun c hc=>(by cases hc),h2⟩
 |c::ls,out,r,e=>by
  unfold O6 at e
  obtain⟨l,h0,e⟩:=aa e
  obtain⟨_,e⟩:=eu e
  unfold fb kJ at h0
  split at h0<;>cases h0
  obtain⟨h1,h2,h3⟩:=Jf e
  refine⟨fun x hx=>h1 x (Wu _ hx),fun y hy x hx=> ?_,h3⟩
  rcases V9.1 hy with rfl|hy
  ·exact h1 x (WB _ (V8.2 hx))
  ·exact h2 y hy x hx
theorem Cf {rec:Wk->bt Va->Int->Option Wk} {level:Int} (hr:∀w v w',rec w v (level+1)=some w'->w'.bad=false->w.bad=false):∀{l:List Va} {w w':Wk},Ai rec level l w=some w'->w'.bad=false->w.bad=false/\∀x∈l,∃w1 w2 w3,rec w1 x.v (level+1)=some w2/\w2.bad=false/\rec w2 x.d (level+1)=some w3/\w3.bad=false
 |[],w,w',e,h=>by cases e;exact⟨h,fun x hx=>by cases hx⟩
 |x::r,w,w',e,h=>by
  unfold Ai at e
  obtain⟨_,e⟩:=ah e
  obtain⟨w2,h1,e⟩:=aa e
  obtain⟨w3,h2,e⟩:=aa e
  obtain⟨h3,h4⟩:=Cf hr e h
  have h5:=hr w2 x.d w3 h2 h3
  refine⟨hr w x.v w2 h1 h5,fun y hy=> ?_⟩
  rcases V9.1 hy with rfl|hy
  ·exact⟨w,w2,w3,h1,h5,h2,h3⟩
  ·exact h4 y hy
theorem B7:∀{n:Nat} {w w':Wk} {v:bt Va} {level:Int},sY n w v level=some w'->w'.bad=false->w.bad=false/\sC v=some true/\∃l,py v=some l/\∀m,n=m+1->∀x∈l,∃w1 w2 w3,sY m w1 x.v (level+1)=some w2/\w2.bad=false/\sY m w2 x.d (level+1)=some w3/\w3.bad=false
 |0,_,_,_,_,e,_=>by cases e
 |n+1,w,w',v,level,e,h=>by
  unfold sY at e
  obtain⟨w1,h1,e⟩:=aa e
  unfold wb at h1
  obtain⟨_,h1⟩:=ah h1
  cases h1
  by_cases g:level>16
  ·rw[HP g] at e
   cases e
   cases h
  ·rw[TP g] at e
   obtain⟨ok,h2,e⟩:=aa e
   cases ok with
   |false=>
    rw[TP (by decide)] at e
    cases e
    cases h
   |true=>
    rw[HP rfl] at e
    obtain⟨l,h3,e⟩:=aa e
    obtain⟨_,e⟩:=ah e
    obtain⟨h4,h5⟩:=Cf (fun w v w' e h=>(B7 e h).1) e h
    exact⟨h4,h2,l,h3,fun m hm=>by cases hm;exact h5⟩
theorem Ah:∀{d n:Nat} {w w':Wk} {v:bt Va} {level:Int},kd d v->sY n w v level=some w'->w'.bad=false->tY d v
 |d,0,_,_,_,_,_,e,_=>by cases e
 |d,n+1,w,w',v,level,hs,e,h=>by
  obtain⟨_,h1,l,h2,h3⟩:=B7 e h
  have h3:=h3 n rfl
  have hg:=KV hs.c h1
  unfold py at h2
  obtain⟨_,h2⟩:=ah h2
  obtain⟨_,m1,m2⟩:=Jf h2
  have up:∀x,dv d x->x∈l->GP d x:=fun x hx hm=>by
   cases d with
   |zero=>exact hx.elim
   |succ d=>
    obtain⟨w1,w2,w3,g1,g2,g3,g4⟩:=h3 x hm
    exact⟨Ah hx.1 g1 g2,Ah hx.2 g3 g4⟩
  have upS:∀c∈v.structs,iF (GP d) c:=fun c hc=>by
   have:=hg.sm.s c hc
   exact⟨this.fl,this.kl,this.A6,fun f hf=>up _ (this.f f hf) ((m2 c hc).1 f hf),this.ab,fun k hk=>up _ (this.k k hk) ((m2 c hc).2 k hk),this.w⟩
  refine tY.of ⟨⟨hg.sm.sc,hg.sm.ll,hg.sm.sl,fun c hc=> ?_,upS⟩,hg.sc,hg.rl,fun c hc=> ?_,hg.an⟩
  ·have:=hg.sm.l c hc
   exact⟨this.il,this.rl,fun x hx=>up _ (this.i x hx) (m1 c hc x (.inl hx)),fun x hx=>up _ (this.r x hx) (m1 c hc x (.inr hx))⟩
  ·have:=hg.st c hc
   exact⟨upS c hc,this.dR,this.E0,this.vl,this.cov⟩
theorem yC {d:Nat} {v:bt Va} (h:kd d v) (e:gG v=some true):tY d v:=by
 unfold gG at e
 obtain⟨w,h1,e⟩:=aa e
 have hb:w.bad=false:=by
  have:=Wm e
  simpa using this
 exact Ah h h1 hb
section
variable {α:Type}
theorem IS {g:α->α->Option Bool} {b:List α} (hg:∀x y,g x y=some true->x=y):∀{r:List α} {i:Nat},i+r.length=b.length->iQ g b r i=some true->r=b.drop i
 |[],i,hl,_=>by
  rw[WJ (by simp at hl;omega)]
 |x::r,i,hl,e=>by
  have e1:((i:Int)+1)=((i+1:Nat):Int):=by omega
  rw[V5] at hl
  unfold iQ at e
  obtain⟨j,y,hj,hy,e⟩:=az e
  have:j=i:=by omega
  subst this
  obtain⟨c,h1,e⟩:=aa e
  cases c with
  |false=>cases e
  |true=>
   rw[HP rfl,e1] at e
   obtain⟨h2,h3⟩:=VZ.1 hy
   rw[Wo h2,h3,hg x y h1,IS hg ii e]
theorem tO {g:α->α->Option Bool} {a b:List α} (hg:∀x y,g x y=some true->x=y) (e:ju g a b=some true):a=b:=by
 unfold ju at e
 by_cases h:(a.length:Int)=b.length
 ·rw[HP h] at e
  obtain⟨_,e⟩:=ah e
  exact IS hg (i:=0) ii e
 ·rw[TP h] at e
  cases e
end
theorem MT {x y:bj} (e:sd x y=some true):x=y:=by
 unfold sd at e
 by_cases h:(x.acc==y.acc)=true
 ·rw[HP h] at e
  unfold oa at e
  by_cases g:(x.aI.length:Int)=y.aI.length
  ·rw[HP g] at e
   obtain⟨_,e⟩:=ah e
   obtain⟨b,h1,h2⟩:=mL (b:=y.aI) (r:=x.aI) (i:=0) ii
   rw[show((0:Nat):Int)=0 from rfl,e] at h1
   cases h1
   have h3:=h2 rfl
   rw[Xn] at h3
   cases x
   cases y
   simp only[Yo] at h h3
   subst h h3
   rfl
  ·rw[TP g] at e
   cases e
 ·rw[TP h] at e
  cases e
theorem CO {a b:List bj} (e:pV a b=some true):a=b:=tO (fun x y=>MT) e
theorem zl {a b:List Sv.Span} (e:fH a b=some true):a=b:=by
 have h:a.length<=1000000000:=by
  have e':=e
  unfold fH at e'
  split at e'
  ·exact(ah e').1
  ·cases e'
 obtain⟨t,h1,h2⟩:=jH (b:=b) h
 rw[e] at h1
 cases h1
 exact h2 rfl
theorem MX {a b:bM} (e:uU a b=some true):a=b:=by
 unfold uU at e
 by_cases h1:(a.null==b.null)=true
 ·by_cases h2:(a.sE==b.sE)=true
  ·by_cases h3:(a.rY==b.rY)=true
   ·rw[HP h1,HP h2,HP h3] at e
    obtain⟨c,h4,e⟩:=aa e
    cases c with
    |false=>cases e
    |true=>
     rw[HP rfl] at e
     obtain⟨c,h5,e⟩:=aa e
     cases c with
     |false=>cases e
     |true=>
      rw[HP rfl] at e
      have g4:=zl h4
      have g5:=zl h5
      have g6:=CO e
      cases a
      cases b
      simp only[Yo] at h1 h2 h3 g4 g5 g6
      subst h1 h2 h3 g4 g5 g6
      rfl
   ·rw[HP h1,HP h2,TP h3] at e;cases e
  ·rw[HP h1,TP h2] at e;cases e
 ·rw[TP h1] at e;cases e
section
variable {rec:bt Va->bt Va->Option Bool} (hr:∀a b,rec a b=some true->a=b)
include hr
theorem pX {x y:Va} (e:lK rec x y=some true):x=y:=by
 unfold lK at e
 obtain⟨c,h1,e⟩:=aa e
 cases c with
 |false=>cases e
 |true=>
  rw[HP rfl] at e
  have g1:=hr _ _ h1
  have g2:=hr _ _ e
  cases x
  cases y
  have g1:_=_:=g1
  have g2:_=_:=g2
  simp only[Va.v,Va.d] at g1 g2
  rw[g1,g2]
theorem MV {x y:aF Va} (e:uT rec x y=some true):x=y:=by
 unfold uT at e
 obtain⟨c,h1,e⟩:=aa e
 cases c with
 |false=>cases e
 |true=>
  rw[HP rfl] at e
  have g1:x.fields=y.fields:=tO (fun a b e=>by
   unfold CU at e
   by_cases l1:a.label=b.label
   ·by_cases l2:a.dR=b.dR
    ·rw[HP l1,HP l2] at e
     have l3:=pX hr e
     cases a
     cases b
     simp only at l1 l2 l3
     subst l1 l2 l3
     rfl
    ·rw[HP l1,TP l2] at e;cases e
   ·rw[TP l1] at e;cases e) h1
  have g2:x.aw=y.aw:=tO (fun a b e=>by
   unfold CV at e
   obtain⟨c,l1,e⟩:=aa e
   cases c with
   |false=>cases e
   |true=>
    rw[HP rfl] at e
    have l2:=CO l1
    have l3:=pX hr e
    cases a
    cases b
    simp only at l2 l3
    subst l2 l3
    rfl) e
  cases x
  cases y
  simp only at g1 g2
  subst g1 g2
  rfl
theorem H7 {b:List (aF Va)}:∀{r:List (aF Va)} {i:Nat},i+r.length=b.length->AD rec b r i=some true->r=b.drop i
 |[],i,hl,_=>by
  rw[WJ (by simp at hl;omega)]
 |x::r,i,hl,e=>by
  have e1:((i:Int)+1)=((i+1:Nat):Int):=by omega
  rw[V5] at hl
  unfold AD at e
  obtain⟨j,y,hj,hy,e⟩:=az e
  have:j=i:=by omega
  subst this
  obtain⟨c,h1,e⟩:=aa e
  cases c with
  |false=>cases e
  |true=>
   rw[HP rfl,e1] at e
   obtain⟨h2,h3⟩:=VZ.1 hy
   rw[Wo h2,h3,MV hr h1,H7 ii e]
theorem H8 {sa sb:List (aF Va)} {b:List (aV Va)} (hsl:sa.length=sb.length):∀{r:List (aV Va)} {i:Nat},i+r.length=b.length->xP rec sa sb b r i=some true->r=b.drop i/\sa=sb
 |[],i,hl,e=>by
  unfold xP at e
  obtain⟨_,e⟩:=ah e
  rw[WJ (by simp at hl;omega)]
  exact⟨rfl,H7 hr (i:=0) ii e⟩
 |x::r,i,hl,e=>by
  have e1:((i:Int)+1)=((i+1:Nat):Int):=by omega
  rw[V5] at hl
  unfold xP at e
  obtain⟨j,y,hj,hy,e⟩:=az e
  have:j=i:=by omega
  subst this
  obtain⟨_,e⟩:=ah e
  obtain⟨_,e⟩:=ah e
  by_cases hil:(x.items.length:Int)=y.items.length
  ·rw[HP hil] at e
   obtain⟨p,hp,e⟩:=aa e
   obtain⟨q,hq,e⟩:=aa e
   obtain⟨c,h1,e⟩:=aa e
   cases c with
   |false=>cases e
   |true=>
    rw[HP rfl,e1] at e
    have hpq:=tO (fun a b=>pX hr) h1
    obtain⟨t1,t2⟩:=H8 hsl ii e
    unfold fb kJ at hp hq
    split at hp<;>cases hp
    split at hq<;>cases hq
    obtain⟨g1,g2⟩:=List.append_inj hpq ii
    have hxy:x=y:=by
     cases x
     cases y
     simp only at g1 g2
     subst g1 g2
     rfl
    obtain⟨h2,h3⟩:=VZ.1 hy
    rw[Wo h2,h3,hxy,t1]
    exact⟨rfl,t2⟩
  ·rw[TP hil] at e
   cases e
end
theorem H6:∀{n:Nat} {a b:bt Va},oX n a b=some true->a=b
 |0,_,_,e=>by cases e
 |n+1,a,b,e=>by
  unfold oX at e
  by_cases h1:(a.any==b.any)=true
  ·rw[HP h1] at e
   obtain⟨c,h2,e⟩:=aa e
   cases c with
   |false=>cases e
   |true=>
    rw[HP rfl] at e
    obtain⟨_,e⟩:=ah e
    obtain⟨_,e⟩:=ah e
    by_cases h3:(a.lists.length:Int)=b.lists.length
    ·rw[HP h3] at e
     obtain⟨_,e⟩:=ah e
     obtain⟨_,e⟩:=ah e
     by_cases h4:(a.structs.length:Int)=b.structs.length
     ·rw[HP h4] at e
      obtain⟨_,e⟩:=ah e
      obtain⟨g1,g2⟩:=H8 (fun a b=>H6 (n:=n)) ii (i:=0) ii e
      have g3:=MX h2
      rw[Xn] at g1
      cases a
      cases b
      simp only[Yo] at h1 g1 g2 g3
      subst h1 g1 g2 g3
      rfl
     ·rw[TP h4] at e;cases e
    ·rw[TP h3] at e;cases e
  ·rw[TP h1] at e;cases e
theorem CM {x y:Va} (e:mi x y=some true):x=y:=pX (fun a b=>H6) e
def TJ (P:Va->Prop) (v:bt Va):Prop:=(∀c∈v.lists,∀x,x∈c.items\/x∈c.rest->P x)/\∀c∈v.structs,(∀f∈c.fields,P f.val)/\∀k∈c.aw,P k.val
def Dp:Nat->bt Va->Prop
 |0,_=>True
 |d+1,v=>TJ (fun x=>iD gg x.d x.v=some true/\Dp d x.v/\Dp d x.d) v
def DpA (d:Nat) (x:Va):Prop:=iD gg x.d x.v=some true/\Dp d x.v/\Dp d x.d
theorem TJ.nil {P:Va->Prop} {v:bt Va} (h1:v.lists=[]) (h2:v.structs=[]):TJ P v:=⟨fun c hc=>(by rw[h1] at hc;cases hc),fun c hc=>(by rw[h2] at hc;cases hc)⟩
section
variable {α:Type}
theorem DO {cmp:α->α->Option Int} {a:Int}:∀{f:Nat} {l r:List α} {j:Int},kC cmp a f l j=some r->∀x∈r,x∈l
 |0,_,_,_,e=>by cases e
 |f+1,l,r,j,e=>by
  unfold kC at e
  by_cases g:j>a
  ·rw[HP g] at e
   obtain⟨_,x,_,hx,e⟩:=az e
   obtain⟨_,e⟩:=ah e
   obtain⟨_,y,_,hy,e⟩:=az e
   obtain⟨c,_,e⟩:=aa e
   by_cases gc:c<0
   ·rw[HP gc] at e
    obtain⟨_,y',_,hy',e⟩:=az e
    obtain⟨_,x',_,hx',e⟩:=az e
    obtain⟨_,_,_,_,e⟩:=cO e
    obtain⟨_,_,_,_,e⟩:=cO e
    intro z hz
    have:=DO e z hz
    rcases WT this with h|h
    ·rcases WT h with h|h
     ·exact h
     ·rw[h];exact V6 hy'
    ·rw[h];exact V6 hx'
   ·rw[TP gc] at e
    cases e
    exact fun z hz=>hz
  ·rw[TP g] at e
   cases e
   exact fun z hz=>hz
theorem DQ {cmp:α->α->Option Int} {a b:Int}:∀{f:Nat} {l r:List α} {i:Int},fy cmp a b f l i=some r->∀x∈r,x∈l
 |0,_,_,_,e=>by cases e
 |f+1,l,r,i,e=>by
  unfold fy at e
  by_cases g:i<b
  ·rw[HP g] at e
   obtain⟨l',h1,e⟩:=aa e
   obtain⟨_,e⟩:=ah e
   exact fun x hx=>DO h1 x (DQ e x hx)
  ·rw[TP g] at e
   cases e
   exact fun x hx=>hx
theorem Cv {cmp:α->α->Option Int} {l r:List α} (e:gC cmp l=some r):∀x∈r,x∈l:=by
 unfold gC at e
 obtain⟨_,e⟩:=ah e
 by_cases g:(l.length:Int)<=12
 ·rw[HP g] at e
  exact DQ e
 ·rw[TP g] at e
  cases e
theorem AP {is:α->α->Option Bool} {l:List α}:∀{r:List α} {i:Int} {out o:List α},Ky is l r i out=some o->∀x∈o,x∈out\/x∈r
 |[],i,out,o,e=>by cases e;exact fun x hx=> .inl hx
 |y::r,i,out,o,e=>by
  unfold Ky at e
  obtain⟨_,e⟩:=ah e
  obtain⟨d,_,e⟩:=aa e
  cases d with
  |true=>
   rw[HP rfl] at e
   exact fun x hx=>(AP e x hx).imp id (VX _)
  |false=>
   rw[TP (by decide)] at e
   obtain⟨_,e⟩:=aC e
   intro x hx
   rcases AP e x hx with h|h
   ·rcases V8.1 h with h|h
    ·exact .inl h
    ·rw[V1.1 h];exact .inr (V0 ..)
   ·exact .inr (VX _ h)
theorem Dq {is:α->α->Option Bool} {of:α->Option (bt Va)} {l r:List α} (e:s8 is of l=some r):∀x∈r,x∈l:=by
 unfold s8 at e
 obtain⟨_,e⟩:=ah e
 obtain⟨o,h1,e⟩:=aa e
 exact fun x hx=>(AP h1 x (Cv e x hx)).elim (fun h=>by cases h) id
end
section
variable {cv:Va->Option (Va×Bool)} {G Q:Va->Prop} (hcv:∀x p,G x->cv x=some p->p.2=true->Q p.1)
include hcv
theorem BA {is:Bool} {items:List Va} (hi:∀x∈items,Q x):∀{r out:List Va} {q:aV Va×Bool×Bool},(∀x∈r,G x)->(∀x∈out,Q x)->oR cv is items r out=some q->∀x,x∈q.1.items\/x∈q.1.rest->Q x
 |[],out,q,_,ho,e=>by
  cases e
  exact fun x hx=>hx.elim (hi x) (ho x)
 |x::r,out,q,hr,ho,e=>by
  have hr':=fun y hy=>hr y (VX x hy)
  unfold oR at e
  obtain⟨p,h1,e⟩:=aa e
  cases h2:p.2 with
  |false=>
   rw[h2,TP (by decide)] at e
   cases e
   exact fun x hx=>hx.elim (fun h=>by cases h) fun h=>by cases h
  |true=>
   rw[h2,HP rfl] at e
   obtain⟨b,_,e⟩:=aa e
   cases b with
   |true=>exact BA hi hr' ho e
   |false=>
    rw[TP (by decide)] at e
    obtain⟨_,e⟩:=aC e
    exact BA hi hr' (all_push ho (hcv x p (hr x (V0 ..)) h1 h2)) e
theorem O5 {rest:List Va} (hrest:∀x∈rest,G x):∀{r:List Va} {is:Bool} {out:List Va} {q:aV Va×Bool×Bool},(∀x∈r,G x)->(∀x∈out,Q x)->LX cv rest r is out=some q->∀x,x∈q.1.items\/x∈q.1.rest->Q x
 |[],is,out,q,_,ho,e=>by
  unfold LX at e
  obtain⟨_,e⟩:=ah e
  exact BA hcv ho hrest (fun x hx=>by cases hx) e
 |x::r,is,out,q,hr,ho,e=>by
  have hr':=fun y hy=>hr y (VX x hy)
  unfold LX at e
  obtain⟨p,h1,e⟩:=aa e
  cases h2:p.2 with
  |false=>
   rw[h2,TP (by decide)] at e
   cases e
   exact fun x hx=>hx.elim (fun h=>by cases h) fun h=>by cases h
  |true=>
   rw[h2,HP rfl] at e
   have hp:=all_push ho (hcv x p (hr x (V0 ..)) h1 h2)
   cases is with
   |true=>
    rw[HP rfl] at e
    obtain⟨b,_,e⟩:=aa e
    obtain⟨_,e⟩:=aC e
    exact O5 hrest hr' hp e
   |false=>
    rw[TP (by decide)] at e
    obtain⟨_,e⟩:=aC e
    exact O5 hrest hr' hp e
theorem OL {is:Bool} {fs:List (dy Va)} (hf:∀f∈fs,Q f.val):∀{r out:List (cW Va)} {q:aF Va×Bool×Bool},(∀k∈r,G k.val)->(∀k∈out,Q k.val)->LV cv is fs r out=some q->(∀f∈q.1.fields,Q f.val)/\∀k∈q.1.aw,Q k.val
 |[],out,q,_,ho,e=>by
  unfold LV at e
  obtain⟨o,h1,e⟩:=aa e
  cases e
  exact⟨hf,fun k hk=>ho k (Cv h1 k hk)⟩
 |k::r,out,q,hr,ho,e=>by
  have hr':=fun y hy=>hr y (VX k hy)
  unfold LV at e
  obtain⟨p,h1,e⟩:=aa e
  cases h2:p.2 with
  |false=>
   rw[h2,TP (by decide)] at e
   cases e
   exact⟨fun f hf=>(by cases hf),fun k hk=>(by cases hk)⟩
  |true=>
   rw[h2,HP rfl] at e
   have hp:=hcv k.val p (hr k (V0 ..)) h1 h2
   obtain⟨i,_,e⟩:=aa e
   by_cases g:i<0
   ·rw[HP g] at e
    obtain⟨l,_,e⟩:=aa e
    obtain⟨_,e⟩:=aC e
    refine OL hf hr' (fun x hx=> ?_) e
    rcases V8.1 hx with hx|hx
    ·exact ho x hx
    ·rw[V1.1 hx];exact hp
   ·rw[TP g] at e
    obtain⟨_,y,_,hy,e⟩:=az e
    obtain⟨l,_,e⟩:=aa e
    obtain⟨_,z,_,hz,e⟩:=bY e
    refine OL hf hr' (fun x hx=> ?_) e
    rcases WT hx with hx|rfl
    ·exact ho x hx
    ·exact ho z (V6 hz)
theorem OM {ks:List (cW Va)} (hk:∀k∈ks,G k.val):∀{r:List (dy Va)} {is:Bool} {out:List (dy Va)} {q:aF Va×Bool×Bool},(∀f∈r,G f.val)->(∀f∈out,Q f.val)->K3 cv ks r is out=some q->(∀f∈q.1.fields,Q f.val)/\∀k∈q.1.aw,Q k.val
 |[],is,out,q,_,ho,e=>by
  unfold K3 at e
  obtain⟨_,e⟩:=ah e
  exact OL hcv ho hk (fun k hk=>by cases hk) e
 |f::r,is,out,q,hr,ho,e=>by
  have hr':=fun y hy=>hr y (VX f hy)
  unfold K3 at e
  obtain⟨p,h1,e⟩:=aa e
  cases h2:p.2 with
  |false=>
   rw[h2,TP (by decide)] at e
   cases e
   exact⟨fun f hf=>(by cases hf),fun k hk=>(by cases hk)⟩
  |true=>
   rw[h2,HP rfl] at e
   have hp:=hcv f.val p (hr f (V0 ..)) h1 h2
   have ho':∀x∈out++[(⟨f.label,f.dR,p.1⟩:dy Va)],Q x.val:=fun x hx=>by
    rcases V8.1 hx with hx|hx
    ·exact ho x hx
    ·rw[V1.1 hx];exact hp
   cases is with
   |true=>
    rw[HP rfl] at e
    obtain⟨b,_,e⟩:=aa e
    obtain⟨_,e⟩:=aC e
    exact OM hk hr' ho' e
   |false=>
    rw[TP (by decide)] at e
    obtain⟨_,e⟩:=aC e
    exact OM hk hr' ho' e
omit hcv in
theorem cnE_q {sc:bM} {ls:List (aV Va)} {ss:List (aF Va)} {w:bt Va×Bool} (h1:∀c∈ls,∀x,x∈c.items\/x∈c.rest->Q x) (h2:∀c∈ss,(∀f∈c.fields,Q f.val)/\∀k∈c.aw,Q k.val) (e:cnE sc ls ss=some w):TJ Q w.1:=by
 unfold cnE at e
 obtain⟨ls',g1,e⟩:=aa e
 obtain⟨ss',g2,e⟩:=aa e
 obtain⟨b,_,e⟩:=aa e
 cases b with
 |true=>cases e;exact TJ.nil rfl rfl
 |false=>cases e;exact⟨fun c hc=>h1 c (Dq g1 c hc),fun c hc=>h2 c (Dq g2 c hc)⟩
theorem OS {sc:bM} {ls:List (aV Va)} (h1:∀c∈ls,∀x,x∈c.items\/x∈c.rest->Q x):∀{r out:List (aF Va)} {w:bt Va×Bool},(∀c∈r,(∀f∈c.fields,G f.val)/\∀k∈c.aw,G k.val)->(∀c∈out,(∀f∈c.fields,Q f.val)/\∀k∈c.aw,Q k.val)->OT cv sc ls r out=some w->w.2=true->TJ Q w.1
 |[],out,w,_,ho,e,_=>cnE_q h1 ho e
 |c::r,out,w,hr,ho,e,hw=>by
  have hr':=fun y hy=>hr y (VX c hy)
  have hc:=hr c (V0 ..)
  unfold OT at e
  obtain⟨p,h2,e⟩:=aa e
  cases b2:p.2.2 with
  |false=>
   rw[b2,TP (by decide)] at e
   cases e
   cases hw
  |true=>
   rw[b2,HP rfl] at e
   cases b1:p.2.1 with
   |false=>
    rw[b1,TP (by decide)] at e
    exact OS h1 hr' ho e hw
   |true=>
    rw[b1,HP rfl] at e
    obtain⟨_,e⟩:=aC e
    unfold Ll at h2
    obtain⟨_,h2⟩:=ah h2
    have hq:=OM hcv hc.2 hc.1 (fun f hf=>by cases hf) h2
    refine OS h1 hr' (fun x hx=> ?_) e hw
    rcases V8.1 hx with hx|hx
    ·exact ho x hx
    ·rw[V1.1 hx];exact hq
theorem OU {sc:bM} {ss:List (aF Va)} (hss:∀c∈ss,(∀f∈c.fields,G f.val)/\∀k∈c.aw,G k.val):∀{r out:List (aV Va)} {w:bt Va×Bool},(∀c∈r,∀x,x∈c.items\/x∈c.rest->G x)->(∀c∈out,∀x,x∈c.items\/x∈c.rest->Q x)->LW cv sc ss r out=some w->w.2=true->TJ Q w.1
 |[],out,w,_,ho,e,hw=>by
  unfold LW at e
  obtain⟨_,e⟩:=ah e
  exact OS hcv ho hss (fun c hc=>by cases hc) e hw
 |c::r,out,w,hr,ho,e,hw=>by
  have hr':=fun y hy=>hr y (VX c hy)
  have hc:=hr c (V0 ..)
  unfold LW at e
  obtain⟨p,h2,e⟩:=aa e
  cases b2:p.2.2 with
  |false=>
   rw[b2,TP (by decide)] at e
   cases e
   cases hw
  |true=>
   rw[b2,HP rfl] at e
   cases b1:p.2.1 with
   |false=>
    rw[b1,TP (by decide)] at e
    exact OU hss hr' ho e hw
   |true=>
    rw[b1,HP rfl] at e
    obtain⟨_,e⟩:=aC e
    unfold Ln at h2
    obtain⟨_,h2⟩:=ah h2
    have hq:=O5 hcv (fun x hx=>hc x (.inr hx)) (fun x hx=>hc x (.inl hx)) (fun x hx=>by cases hx) h2
    refine OU hss hr' (fun x hx=> ?_) e hw
    rcases V8.1 hx with hx|hx
    ·exact ho x hx
    ·rw[V1.1 hx];exact hq
end
theorem Eo {cf:bt Va->Option (bt Va×Bool)} {x:Va} {p:Va×Bool} (e:qF cf x=some p) (h:p.2=true):cf x.v=some (p.1.v,true)/\cf x.d=some (p.1.d,true)/\iD gg p.1.d p.1.v=some true:=by
 unfold qF at e
 obtain⟨a,h1,e⟩:=aa e
 obtain⟨b,h2,e⟩:=aa e
 cases h3:a.2 with
 |false=>
  rw[h3,TP (by decide)] at e
  cases e
  cases h
 |true=>
  rw[h3,HP rfl] at e
  cases h4:b.2 with
  |false=>
   rw[h4,TP (by decide)] at e
   cases e
   cases h
  |true=>
   rw[h4,HP rfl] at e
   obtain⟨c,h5,e⟩:=aa e
   cases e
   have h:c=true:=h
   subst h
   exact⟨by rw[h1,<-h3];rfl,by rw[h2,<-h4];rfl,h5⟩
theorem tR:∀{n e:Nat} {v w:bt Va},tY e v->oz n v=some (w,true)->∀d,Dp d w
 |0,_,_,_,_,h,_=>by cases h
 |n+1,e,v,w,hg,h,d=>by
  cases d with
  |zero=>trivial
  |succ d=>
   unfold oz at h
   cases ha:v.any with
   |true=>
    rw[ha,HP rfl] at h
    cases h
    exact TJ.nil (hg.c.an ha).1 (hg.c.an ha).2
   |false=>
    rw[ha,TP (by decide)] at h
    obtain⟨sc,_,h⟩:=aa h
    obtain⟨_,h⟩:=ah h
    refine OU (cv:=qF (oz n)) (G:=GP e) (Q:=fun x=>iD gg x.d x.v=some true/\Dp d x.v/\Dp d x.d) (fun x p hx hcx hp=> ?_) (fun c hc=>⟨fun f hf=>(hg.c.sm.s c hc).f f hf,fun k hk=>(hg.c.sm.s c hc).k k hk⟩) (fun c hc x hx=>hx.elim ((hg.c.sm.l c hc).i x) ((hg.c.sm.l c hc).r x)) (fun c hc=>by cases hc) h rfl
    obtain⟨e1,e2,e3⟩:=Eo hcx hp
    cases e with
    |zero=>exact hx.elim
    |succ e=>exact⟨e3,tR hx.1 e1 d,tR hx.2 e2 d⟩
theorem P6:gG zV=some true:=by kernel_rfl
theorem z_can:oz gg zV=some (zV,true):=by kernel_rfl
theorem z_sam:oX qy zV zV=some true:=by kernel_rfl
theorem FO {d:Nat} (hd:d<=4) {x:Va} (hx:Jw d x) (e:jN x=some true):(tY d x.v/\tY d x.d)/\(∀e,DpA e x)/\DZ x.v=some true:=by
 unfold jN at e
 obtain⟨p,h1,e⟩:=aa e
 by_cases hp:p.2=0
 ·rw[HP hp] at e
  have heq:=CM e
  unfold qe at h1
  obtain⟨ok,h2,h1⟩:=aa h1
  cases ok with
  |false=>cases h1;cases hp
  |true=>
   rw[HP rfl] at h1
   obtain⟨q,h3,h1⟩:=aa h1
   cases hq:q.2 with
   |false=>
    rw[hq,TP (by decide)] at h1
    cases h1
    cases hp
   |true=>
    rw[hq,HP rfl] at h1
    cases h1
    have heq:q.1=x:=heq
    unfold mf at h2
    obtain⟨a,h4,h2⟩:=aa h2
    cases a with
    |false=>cases h2
    |true=>
     rw[HP rfl] at h2
     have gv:=yC hx.1 h4
     have gd:=yC hx.2 h2
     obtain⟨c1,c2,c3⟩:=Eo h3 hq
     rw[heq] at c1 c2 c3
     refine⟨⟨gv,gd⟩,fun e=>⟨c3,tR gv c1 e,tR gd c2 e⟩,?_⟩
     have hbel:iD gg zV x.v=some true:=by
      show iD (63+1) zV x.v=some true
      unfold iD
      rw[TP (by decide)]
      cases hany:x.v.any with
      |true=>rw[HP rfl]
      |false=>
       rw[TP (by decide)]
       obtain⟨c,s1,_⟩:=nr (d:=d) hd (x:= .mk zV zV) (y:= .mk x.v zV) ⟨pK d,pK d⟩ ⟨hx.1,pK d⟩
       rw[s1,VU]
       cases c with
       |true=>rfl
       |false=>
        obtain⟨t,s2,s3⟩:=eC (k:=1) (m:=5) (n:=8) ii ii (Aa 1 8) gv.c.sc
        rw[TP (by decide),show(zV:bt Va).sc=et from rfl,s2,s3.2 fun e he=>(Tu e he).elim,VU,HP rfl]
        rfl
     have hsam:oX qy x.v x.v=some true:=by
      unfold mi lK at e
      rw[heq] at e
      obtain⟨c,s1,e⟩:=aa e
      cases c with
      |false=>cases e
      |true=>exact s1
     unfold DZ jN qe mf
     show((((gG x.v).bind fun a=>if a then gG zV else some false).bind _).bind _)=_
     rw[h4,VU,HP rfl,P6,VU,HP rfl]
     have hcv:qF (oz gg) (.mk x.v zV)=some (.mk x.v zV,true):=by
      unfold qF
      show((oz gg x.v).bind fun a=>(oz gg zV).bind fun b=>_)=_
      rw[c1,VU,z_can,VU,HP rfl,HP rfl,hbel]
      rfl
     rw[hcv,VU,HP rfl,VU,HP rfl]
     unfold mi lK
     show(oX qy x.v x.v).bind (fun c=>if c then oX qy zV zV else some false)=_
     rw[hsam,VU,HP rfl,z_sam]
 ·rw[TP hp] at e
  cases e
theorem yw {w:List UInt8} (hw:w.length<=1000000000):∀{ks:List (cW Va)},(∀k∈ks,VL 15000 k.set)->(∃k∈ks,ac k.set 0 w=true)->∃k∈ks,ac k.set 0 w=true/\oF w ks=some (k.val,3)
 |[],_,⟨k,hk,_⟩=>by cases hk
 |k::r,h,⟨x,hx,hxw⟩=>by
  have hk:=h k (V0 ..)
  unfold oF
  rw[PG hk.gd.toAB ii hk.gd.wf (hk.wfm ii) hw,VU]
  cases g:ac k.set 0 w with
  |true=>exact⟨k,V0 ..,g,rfl⟩
  |false=>
   obtain⟨y,y1,y2,y3⟩:=yw hw (ks:=r) (fun z hz=>h z (VX _ hz)) (by
    rcases V9.1 hx with rfl|hx
    ·rw[g] at hxw;cases hxw
    ·exact⟨x,hx,hxw⟩)
   exact⟨y,VX _ y1,y2,by rw[TP (by decide)];exact y3⟩
def AtL (c:aF Va) (w:List UInt8) (r:Va×Int):Prop:=(∃f∈c.fields,f.label=w/\r=(f.val,f.dR))\/((∀f∈c.fields,f.label≠w)/\∃k∈c.aw,ac k.set 0 w=true/\r=(k.val,3))
theorem kj {P:Va->Prop} {c:aF Va} (h:GSc P c) {w:List UInt8} (hw:w.length<=1000):∃r,view c w=some r/\AtL c w r:=by
 have hf:=h.sm.fl
 have hk:=h.sm.kl
 have key:∀{fs:List (dy Va)},(∃f∈fs,f.label=w/\l8 w c.aw fs=some (f.val,f.dR))\/((∀f∈fs,f.label≠w)/\l8 w c.aw fs=oF w c.aw):=fun{fs}=>by
  induction fs with
  |nil=>
   refine .inr ⟨fun f hf=>(by cases hf),?_⟩
   unfold l8
   rw[bL ii]
  |cons f r ih=>
   unfold l8
   by_cases g:f.label=w
   ·rw[HP g]
    exact .inl ⟨f,V0 ..,g,rfl⟩
   ·rw[TP g]
    rcases ih with⟨x,x1,x2,x3⟩|⟨x1,x2⟩
    ·exact .inl ⟨x,VX _ x1,x2,x3⟩
    ·refine .inr ⟨fun y hy=> ?_,x2⟩
     rcases V9.1 hy with rfl|hy
     ·exact g
     ·exact x1 y hy
 unfold view
 rw[bL ii]
 rcases key (fs:=c.fields) with⟨f,h1,h2,h3⟩|⟨h1,h2⟩
 ·exact⟨_,h3,.inl ⟨f,h1,h2,rfl⟩⟩
 ·rcases h.cov w with⟨f,g1,g2⟩|g
  ·exact(h1 f g1 g2).elim
  ·obtain⟨k,k1,k2,k3⟩:=yw ii h.vl g
   exact⟨_,h2.trans k3,.inr ⟨h1,k,k1,k2,rfl⟩⟩
theorem AtL.P {P:Va->Prop} {c:aF Va} (h:iF P c) {w:List UInt8} {r:Va×Int} (hr:AtL c w r):P r.1:=by
 rcases hr with⟨f,h1,_,rfl⟩|⟨_,k,h1,_,rfl⟩
 ·exact h.f f h1
 ·exact h.k k h1
theorem Ba {c:aV Va} {i:Nat} {x:Va} (h:c.items[i]? =some x) (hl:c.items.length<=1000):item c i=some (x,true):=by
 have:=(VZ.1 h).1
 unfold item
 rw[HP ii,bL ii,HP ii,cM h]
theorem rz {c:aV Va} {i:Nat} {x:Va} (h:c.items.length<=i) (hx:c.rest[0]? =some x) (hl:c.items.length<=1000) (hr:c.rest.length<=1000):item c i=some (x,true):=by
 have:=(VZ.1 hx).1
 unfold item
 rw[HP ii,bL ii,TP ii,bL ii,HP ii,zU hx]
structure VP (P:bA->Prop) (c:dt bA):Prop where
 only:kt c=some true
 k:1<=c.kind/\c.kind<=6
 b2:c.kind=2->c.num=0\/c.num=1
 n3:c.kind=3-> -1000000000000000<=c.num/\c.num<=1000000000000000
 str:c.str.length<=8
 il:c.items.length<=1000
 ml:c.members.length<=1000
 E0:c.members.Pairwise fun x y=>Op.bytesLess x.label y.label=true
 it:∀x∈c.items,P x
 me:∀m∈c.members,m.label.length<=60/\P m.data
def Fm:Nat->bA->Prop
 |0,x=>VP (fun _=>False) x.c
 |n+1,x=>VP (Fm n) x.c
def PT:Nat->bA->Prop
 |0,_=>False
 |n+1,x=>Fm n x
theorem Fm.c {n:Nat} {x:bA} (h:Fm n x):VP (PT n) x.c:=by
 cases n<;>exact h
theorem Fm.of {n:Nat} {x:bA} (h:VP (PT n) x.c):Fm n x:=by
 cases n<;>exact h
theorem Ii {l:List (Mem bA)} (h:l.Pairwise fun x y=>Op.bytesLess x.label y.label=true) (hl:l.length<=1000):∀{f i:Nat},1<=i->i<=l.length+1->l.length+2<=f+i->iN l f i=some 0
 |0,i,h1,h3,h2=>by omega
 |f+1,i,h1,h3,h2=>by
  have e1:((i:Int)+1)=((i+1:Nat):Int):=by omega
  unfold iN
  by_cases g:i<l.length
  ·rw[HP ii,bL ⟨by omega,by omega⟩,show(i:Int)-1=((i-1:Nat):Int) by omega,cM (VV (show i-1<l.length by omega)),cM (VV g),HP (WS.1 h (i-1) i ii g ii),e1]
   exact Ii h hl ii ii ii
  ·rw[TP ii]
theorem Nc {P:bA->Prop} {c:dt bA} (h:VP P c):xU c=some 0:=by
 have hm:=h.ml
 have ho:iN c.members (c.members.length+1) 1=some 0:=Ii h.E0 hm (i:=1) (V2 _) ii ii
 have hO:((aR c.members).bind fun _=>iN c.members (c.members.length+1) 1)=some 0:=by
  rw[bL ii]
  exact ho
 unfold xU
 rw[h.only,VU,HP rfl]
 by_cases k2:c.kind=2
 ·rw[HP k2]
  rcases h.b2 k2 with z|z
  ·rw[HP z];exact hO
  ·rw[TP ii,HP z];exact hO
 ·rw[TP k2]
  by_cases k3:c.kind=3
  ·have hf:ya c.num=some true:=by
    unfold ya
    rw[HP (h.n3 k3).1,Xd (h.n3 k3).2]
   rw[HP k3,hf,VU,HP rfl]
   exact hO
  ·rw[TP k3]
   exact hO
theorem O7:∀{l:List (Mem bA)} {out:List bA},l.length+out.length<=5000->P3 l out=some (out++l.map (·.data))
 |[],out,_=>by rw[X4,Wy];rfl
 |m::r,out,h=>by
  rw[V5] at h
  unfold P3
  rw[tC ii,O7 (by simp;omega),WM,WG]
  rfl
theorem GY:∀{n f:Nat} {x:bA} {level:Int},Fm n x->n<f->0<=level->level+n<=16->jW f x level=some 0
 |n,0,_,_,_,h,_,_=>by omega
 |n,f+1,x,level,h,hf,h0,hl=>by
  have hc:=h.c
  have h1:=hc.il
  have h2:=hc.ml
  have key:∀{l:List bA},(∀y∈l,PT n y)->pz (jW f) level l=some 0:=fun{l}=>by
   induction l with
   |nil=>intro _;rfl
   |cons y r ih=>
    intro hy
    have hy0:=hy y (V0 ..)
    cases n with
    |zero=>exact hy0.elim
    |succ n=>
     unfold pz
     rw[bL ⟨by omega,by omega⟩,GY (n:=n) hy0 ii ii ii,VU,HP rfl]
     exact ih fun z hz=>hy z (VX _ hz)
  unfold jW
  rw[TP ii,Nc hc,VU,HP rfl]
  unfold rQ
  rw[bL ii,bL ii,O7 ii,VU,bL (by rw[V7,V4];omega)]
  refine key fun y hy=> ?_
  rcases V8.1 hy with hy|hy
  ·exact hc.it y hy
  ·obtain⟨m,hm,rfl⟩:=WQ.1 hy
   exact(hc.me m hm).2
theorem Nq {c:dt bA} (hk:1<=c.kind/\c.kind<=6) (h1:c.items.length<=1000) (h2:c.members.length<=1000) (h:kt c=some true):plR c=some true:=by
 unfold kt at h
 unfold plR
 rw[bL ii,bL ii] at h⊢
 rw[TP ii,TP ii]
 by_cases k2:c.kind=2
 ·rw[HP k2] at h⊢
  exact h
 ·rw[TP k2] at h⊢
  by_cases k3:c.kind=3
  ·rw[HP k3] at h⊢
   exact h
  ·rw[TP k3] at h⊢
   by_cases g:c.num=0
   ·rw[HP g]
    rw[HP g,HP g,HP g,HP g] at h
    by_cases k4:c.kind=4
    ·rw[HP k4] at h⊢
     exact h
    ·rw[TP k4] at h⊢
     by_cases k5:c.kind=5
     ·rw[HP k5] at h
      by_cases s:c.str=[]
      ·rw[HP s] at h⊢
       rw[HP k5]
       exact h
      ·rw[TP s] at h;cases h
     ·rw[TP k5] at h
      by_cases k6:c.kind=6
      ·rw[HP k6] at h
       by_cases s:c.str=[]
       ·rw[HP s] at h⊢
        rw[TP k5]
        by_cases i:(c.items.length:Int)=0
        ·rw[HP i,HP k6]
        ·rw[TP i] at h;cases h
       ·rw[TP s] at h;cases h
      ·rw[TP k6] at h
       by_cases k1:c.kind=1
       ·rw[HP k1] at h
        unfold ku at h
        by_cases s:c.str=[]
        ·rw[HP s] at h⊢
         rw[TP k5]
         by_cases i:(c.items.length:Int)=0
         ·rw[HP i] at h⊢
          rw[TP k6]
          exact h
         ·rw[TP i] at h;cases h
        ·rw[TP s] at h;cases h
       ·rw[TP k1] at h;cases h
   ·rw[TP g,TP g,TP g,TP g] at h
    split at h
    ·cases h
    ·split at h
     ·cases h
     ·split at h
      ·cases h
      ·split at h<;>cases h
theorem C5:∀{n f:Nat} {x:bA} {level:Int},Fm n x->n<f->0<=level->level+n<=16->ji f x level=some 0
 |n,0,_,_,_,h,_,_=>by omega
 |n,f+1,x,level,h,hf,h0,hl=>by
  have hc:=h.c
  have h1:=hc.il
  have h2:=hc.ml
  have one:∀y,PT n y->ji f y (level+1)=some 0:=fun y hy=>by
   cases n with
   |zero=>exact hy.elim
   |succ n=>exact C5 (n:=n) hy ii ii ii
  have kM:∀{g i:Nat},i<=x.c.members.length->x.c.members.length+1<=g+i->Fo (ji f) level x.c.members g i=some 0:=fun{g}=>by
   induction g with
   |zero=>intro i hi hg;omega
   |succ g ih=>
    intro i hi hg
    have e1:((i:Int)+1)=((i+1:Nat):Int):=by omega
    unfold Fo
    by_cases z:i<x.c.members.length
    ·rw[HP ii,cM (VV z),bL ⟨by omega,by omega⟩,one _ (hc.me _ (WC z)).2,VU,HP rfl,e1]
     exact ih ii ii
    ·rw[TP ii]
  have kI:∀{g i:Nat},i<=x.c.items.length->x.c.items.length+1<=g+i->Fq (ji f) level x.c.items x.c.members g i=some 0:=fun{g}=>by
   induction g with
   |zero=>intro i hi hg;omega
   |succ g ih=>
    intro i hi hg
    have e1:((i:Int)+1)=((i+1:Nat):Int):=by omega
    unfold Fq
    by_cases z:i<x.c.items.length
    ·rw[HP ii,cM (VV z),bL ⟨by omega,by omega⟩,one _ (hc.it _ (WC z)),VU,HP rfl,e1]
     exact ih ii ii
    ·rw[TP ii]
     exact kM (i:=0) (Wd _) ii
  have kL:∀{g i:Nat},1<=i->i<=x.c.members.length+1->x.c.members.length+2<=g+i->Fp (ji f) level x.c.items x.c.members g i=some 0:=fun{g}=>by
   induction g with
   |zero=>intro i h1 hi hg;omega
   |succ g ih=>
    intro i h1 hi hg
    have e1:((i:Int)+1)=((i+1:Nat):Int):=by omega
    unfold Fp
    by_cases z:i<x.c.members.length
    ·rw[HP ii,bL ⟨by omega,by omega⟩,show(i:Int)-1=((i-1:Nat):Int) by omega,cM (VV (show i-1<x.c.members.length by omega)),cM (VV z),HP (WS.1 hc.E0 (i-1) i ii z ii),e1]
     exact ih ii ii ii
    ·rw[TP ii]
     exact kI (i:=0) (Wd _) ii
  have kB:PY (ji f) level x.c=some 0:=by
   unfold PY
   rw[bL ii,bL ii]
   exact kL (i:=1) (V2 _) ii ii
  unfold ji rcC
  rw[TP ii,Nq hc.k h1 h2 hc.only,VU,HP rfl]
  by_cases k2:x.c.kind=2
  ·rw[HP k2]
   rcases hc.b2 k2 with z|z
   ·rw[HP z];exact kB
   ·rw[TP ii,HP z];exact kB
  ·rw[TP k2]
   by_cases k3:x.c.kind=3
   ·have hf:M4 x.c.num=some true:=by
     unfold M4
     rw[HP (hc.n3 k3).1,Xd (hc.n3 k3).2]
    rw[HP k3,hf,VU,HP rfl]
    exact kB
   ·rw[TP k3]
    exact kB
theorem qo {k:Nat} (hk:k<=10) {s:bM} (h:qT k 15000 s) {e:Nat} (he:e<=15) {x:bA} (hx:Fm e x):∃t,pg s x=some t:=by
 have hc:=hx.c
 have hchk:mR x=some 0:=GY hx ii ii ii
 by_cases g:x.c.kind<=4
 ·obtain⟨one,h1,h2⟩:=AM (n:=14999) ii hchk ⟨hc.k.1,g⟩ (by have:=hc.str;omega)
  obtain⟨t,h3,_⟩:=eC ii ii h2.v h
  exact⟨t,by unfold pg;rw[h1,VU,HP rfl,h3]⟩
 ·refine⟨false,?_⟩
  have h1:=hc.k
  unfold pg Gj
  rw[hchk,VU,HP rfl,TP ii,TP ii,TP ii,TP ii]
  rfl
section
variable {α:Type} {g:α->Option Bool}
theorem DR:∀{l:List α} {i:Nat} {k:Int},fA g l i=some k->k>=0->∃x∈l,g x=some true
 |[],i,k,e,h=>by cases e;omega
 |x::r,i,k,e,h=>by
  have e1:((i:Int)+1)=((i+1:Nat):Int):=by omega
  unfold fA at e
  obtain⟨c,h1,e⟩:=aa e
  cases c with
  |true=>exact⟨x,V0 ..,h1⟩
  |false=>
   rw[TP (by decide),e1] at e
   obtain⟨y,h2,h3⟩:=DR e h
   exact⟨y,VX _ h2,h3⟩
theorem tQ {l:List α} (e:mP g l=some true):∃x∈l,g x=some true:=by
 unfold mP at e
 obtain⟨i,h1,e⟩:=aa e
 unfold qn at h1
 obtain⟨_,h1⟩:=ah h1
 exact DR (i:=0) h1 (Wp (Wm e))
theorem za:∀{l:List α} {i:Nat},(∀x∈l,∃t,g x=some t)->(∃x∈l,g x=some true)->∃k:Int,fA g l i=some k/\k>=0
 |[],i,_,⟨x,hx,_⟩=>by cases hx
 |x::r,i,h,hex=>by
  have e1:((i:Int)+1)=((i+1:Nat):Int):=by omega
  obtain⟨t,ht⟩:=h x (V0 ..)
  unfold fA
  rw[ht,VU]
  cases t with
  |true=>exact⟨i,rfl,by omega⟩
  |false=>
   rw[TP (by decide),e1]
   refine za (fun y hy=>h y (VX _ hy)) ?_
   obtain⟨y,hy,hg⟩:=hex
   rcases V9.1 hy with rfl|hy
   ·rw[ht] at hg;cases hg
   ·exact⟨y,hy,hg⟩
theorem mO {l:List α} (hl:l.length<=1000000000) (h:∀x∈l,∃t,g x=some t) (hex:∃x∈l,g x=some true):mP g l=some true:=by
 obtain⟨k,h1,h2⟩:=za (i:=0) h hex
 unfold mP qn
 have h1:fA g l 0=some k:=h1
 rw[bL hl,h1,VU,Xd h2]
theorem wk {l:List α} (hl:l.length<=1000000000) (h:∀x∈l,∃t,g x=some t):∃t,mP g l=some t:=by
 obtain⟨k,h1,_⟩:=vK (fun x hx=>by obtain⟨t,ht⟩:=h x hx;exact⟨t,ht,trivial⟩) hl
 exact⟨_,by unfold mP;rw[h1];rfl⟩
end
theorem vI {P:Va->Prop} {c:aV Va} (h:lE P c) {n q:Nat} (hq:q<n) (hp:(n:Int)=c.items.length\/((n:Int)>c.items.length/\(c.rest.length:Int)>0)):∃y,item c q=some (y,true)/\P y:=by
 have h1:=h.il
 have h2:=h.rl
 by_cases g:q<c.items.length
 ·exact⟨c.items[q],Ba (VV g) ii,h.i _ (WC g)⟩
 ·have hr:0<c.rest.length:=by omega
  exact⟨c.rest[0],rz ii (VV hr) ii ii,h.r _ (WC hr)⟩
theorem Rb {c:aV Va} {d:dt bA} (h1:d.items.length<=1000) (h2:c.items.length<=1000):∃t,perm c d=some t/\(t=true↔(d.items.length:Int)=c.items.length\/((d.items.length:Int)>c.items.length/\(c.rest.length:Int)>0)):=by
 unfold perm
 rw[bL ii,bL ii]
 by_cases g:(d.items.length:Int)=c.items.length
 ·rw[HP g]
  exact⟨true,rfl,fun _=> .inl g,fun _=>rfl⟩
 ·rw[TP g]
  by_cases g1:(d.items.length:Int)>c.items.length
  ·rw[HP g1]
   exact⟨_,rfl,by rw[WY];exact⟨fun z=> .inr ⟨g1,z⟩,fun z=>z.elim (fun z=>(g z).elim) fun z=>z.2⟩⟩
  ·rw[TP g1]
   exact⟨false,rfl,fun z=>(by cases z),fun z=>z.elim (fun z=>(g z).elim) fun z=>(g1 z.1).elim⟩
theorem Bb {rec:bt Va->bA->Option Bool} {c:aV Va}:∀{l:List bA} {i:Nat} {out:List Int},(∀(q:Nat) (x:bA),l[q]? =some x->∃y t,item c (i+q:Nat)=some (y,true)/\rec y.v x=some t)->l.length+out.length<=2000->∃o,Tz rec c l i out=some o/\(o.length=out.length↔∀(q:Nat) (x:bA),l[q]? =some x->∃y,item c (i+q:Nat)=some (y,true)/\rec y.v x=some true)/\out.length<=o.length
 |[],i,out,_,_=>⟨out,rfl,⟨fun _ q x hx=>(by simp at hx),fun _=>rfl⟩,V2 _⟩
 |x::r,i,out,h,hl=>by
  rw[V5] at hl
  have e1:((i:Int)+1)=((i+1:Nat):Int):=by omega
  obtain⟨y,t,h1,h2⟩:=h 0 x rfl
  rw[W9] at h1
  have hr:∀(q:Nat) (x:bA),r[q]? =some x->∃y t,item c (i+1+q:Nat)=some (y,true)/\rec y.v x=some t:=fun q z hz=>by
   have:=h (q+1) z (by simpa using hz)
   rwa [show i+(q+1)=i+1+q by omega] at this
  unfold Tz
  rw[h1,VU,h2,VU,e1]
  cases t with
  |true=>
   rw[HP rfl]
   obtain⟨o,o1,o2,o3⟩:=Bb (i:=i+1) (out:=out) hr ii
   refine⟨o,o1,o2.trans ⟨fun g q z hz=> ?_,fun g q z hz=> ?_⟩,o3⟩
   ·cases q with
    |zero=>cases hz;exact⟨y,by rw[W9];exact h1,h2⟩
    |succ q=>
     have:=g q z (by simpa using hz)
     rwa [show i+1+q=i+(q+1) by omega] at this
   ·have:=g (q+1) z (by simpa using hz)
    rwa [show i+(q+1)=i+1+q by omega] at this
  |false=>
   rw[TP (by decide),tC ii]
   obtain⟨o,o1,o2,o3⟩:=Bb (i:=i+1) (out:=out++[(i:Int)]) hr (by simp;omega)
   rw[V7,Ws] at o3
   refine⟨o,o1,⟨fun g=>by omega,fun g=> ?_⟩,by omega⟩
   obtain⟨y',g1,g2⟩:=g 0 x rfl
   rw[W9,h1] at g1
   cases g1
   rw[h2] at g2
   cases g2
theorem AX {ms:List (Mem bA)} (hm:ms.length<=1000):∀{fs:List (dy Va)} {out:List (List UInt8)},fs.length+out.length<=2000->∃o,PZ ms fs out=some o/\(o.length=out.length↔∀f∈fs,∃m∈ms,m.label=f.label)/\out.length<=o.length
 |[],out,_=>⟨out,rfl,⟨fun _ f hf=>(by cases hf),fun _=>rfl⟩,V2 _⟩
 |f::r,out,h=>by
  rw[V5] at h
  obtain⟨t,ht⟩:=wk (g:=fun m:Mem bA=>some (decide (m.label=f.label))) (l:=ms) ii fun x _=>⟨_,rfl⟩
  unfold PZ
  rw[ht,VU]
  cases t with
  |true=>
   rw[HP rfl]
   obtain⟨o,o1,o2,o3⟩:=AX hm (fs:=r) (out:=out) ii
   obtain⟨m,m1,m2⟩:=tQ ht
   have m2:=Wp (Wm m2)
   refine⟨o,o1,o2.trans ⟨fun g x hx=> ?_,fun g x hx=>g x (VX _ hx)⟩,o3⟩
   rcases V9.1 hx with rfl|hx
   ·exact⟨m,m1,m2⟩
   ·exact g x hx
  |false=>
   rw[TP (by decide),tC ii]
   obtain⟨o,o1,o2,o3⟩:=AX hm (fs:=r) (out:=out++[f.label]) (by simp;omega)
   rw[V7,Ws] at o3
   refine⟨o,o1,⟨fun g=>by omega,fun g=> ?_⟩,by omega⟩
   obtain⟨m,m1,m2⟩:=g f (V0 ..)
   rw[mO ii (fun x _=>⟨_,rfl⟩) ⟨m,m1,by rw[Xd m2]⟩] at ht
   cases ht
theorem IP {rec:bt Va->bA->Option Bool} {c:aF Va}:∀{l:List (Mem bA)},(∀m∈l,∃r t,view c m.label=some r/\rec r.1.v m.data=some t)->∃t,U1 rec c l=some t/\(t=true↔∀m∈l,∃r,view c m.label=some r/\rec r.1.v m.data=some true)
 |[],_=>⟨true,rfl,fun _ m hm=>(by cases hm),fun _=>rfl⟩
 |m::r,h=>by
  obtain⟨p,t,h1,h2⟩:=h m (V0 ..)
  unfold U1
  rw[h1,VU,h2,VU]
  cases t with
  |true=>
   rw[HP rfl]
   obtain⟨s,s1,s2⟩:=IP (l:=r) fun x hx=>h x (VX _ hx)
   refine⟨s,s1,s2.trans ⟨fun g x hx=> ?_,fun g x hx=>g x (VX _ hx)⟩⟩
   rcases V9.1 hx with rfl|hx
   ·exact⟨p,h1,h2⟩
   ·exact g x hx
  |false=>
   refine⟨false,rfl,fun z=>(by cases z),fun g=> ?_⟩
   obtain⟨p',g1,g2⟩:=g m (V0 ..)
   rw[h1] at g1
   cases g1
   rw[h2] at g2
   cases g2
def PM (P:Va->Prop) (e:Nat) (rec:bt Va->bA->Option Bool):Prop:=∀y x,P y->PT e x->∃t,rec y.v x=some t
theorem nT {P:Va->Prop} {e:Nat} {rec:bt Va->bA->Option Bool} (hr:PM P e rec) {c:aV Va} (hc:lE P c) {x:bA} (hx:VP (PT e) x.c):∃t,KQ rec x c=some t/\(t=true↔((x.c.items.length:Int)=c.items.length\/((x.c.items.length:Int)>c.items.length/\(c.rest.length:Int)>0))/\∀(q:Nat) (z:bA),x.c.items[q]? =some z->∃y,item c q=some (y,true)/\rec y.v z=some true):=by
 have h1:=hx.il
 have h2:=hc.il
 obtain⟨p,p1,p2⟩:=Rb (c:=c) h1 ii
 unfold KQ
 rw[p1,VU]
 cases p with
 |false=>exact⟨false,rfl,fun z=>(by cases z),fun z=>by have:=p2.2 z.1;cases this⟩
 |true=>
  have hp:=p2.1 rfl
  rw[HP rfl]
  obtain⟨o,o1,o2,_⟩:=Bb (rec:=rec) (c:=c) (l:=x.c.items) (i:=0) (out:=[]) (fun q z hz=>by
   obtain⟨y,y1,y2⟩:=vI hc (VZ.1 hz).1 hp
   obtain⟨t,ht⟩:=hr y z y2 (hx.it z (V6 hz))
   exact⟨y,t,by rw[WU];exact y1,ht⟩) (by simp;omega)
  unfold itM
  rw[bL ii,show(0:Int)=((0:Nat):Int) from rfl,o1,VU]
  refine⟨_,rfl,?_⟩
  rw[WY]
  simp only[WU,WA] at o2
  constructor
  ·intro z
   exact⟨hp,o2.1 ii⟩
  ·rintro⟨_,z⟩
   have:=o2.2 z
   omega
theorem nS {P:Va->Prop} {e:Nat} {rec:bt Va->bA->Option Bool} (hr:PM P e rec) {c:aF Va} (hc:GSc P c) {x:bA} (hx:VP (PT e) x.c):∃t,UQ rec x c=some t/\(t=true↔(∀f∈c.fields,∃m∈x.c.members,m.label=f.label)/\∀m∈x.c.members,∃r,view c m.label=some r/\rec r.1.v m.data=some true):=by
 have h1:=hx.ml
 have h2:=hc.sm.fl
 obtain⟨o,o1,o2,_⟩:=AX (ms:=x.c.members) h1 (fs:=c.fields) (out:=[]) (by simp;omega)
 obtain⟨s,s1,s2⟩:=IP (rec:=rec) (c:=c) (l:=x.c.members) fun m hm=>by
  obtain⟨r,r1,r2⟩:=kj hc (w:=m.label) (by have:=(hx.me m hm).1;omega)
  obtain⟨t,ht⟩:=hr r.1 m.data (r2.P hc.sm) (hx.me m hm).2
  exact⟨r,t,r1,ht⟩
 unfold UQ miM fiM
 rw[bL ii,o1,VU]
 have hol:o.length<=1000000000:=by
  have hb:∀{fs:List (dy Va)} {out o:List (List UInt8)},PZ x.c.members fs out=some o->o.length<=fs.length+out.length:=fun{fs}=>by
   induction fs with
   |nil=>intro out o e;cases e;simp
   |cons f r ih=>
    intro out o e
    unfold PZ at e
    obtain⟨c,_,e⟩:=aa e
    rw[V5]
    cases c with
    |true=>
     have:=ih e
     omega
    |false=>
     rw[TP (by decide)] at e
     obtain⟨_,e⟩:=aC e
     have:=ih e
     rw[V7,Ws] at this
     omega
  have:=hb o1
  simp at this
  omega
 rw[bL hol]
 by_cases g:(o.length:Int)=0
 ·rw[HP g,bL ii,s1]
  refine⟨s,rfl,s2.trans ⟨fun z=>⟨o2.1 (by show o.length=0;omega),z⟩,fun z=>z.2⟩⟩
 ·rw[TP g]
  refine⟨false,rfl,fun z=>(by cases z),fun z=> ?_⟩
  have:=o2.2 z.1
  simp at this
  rw[this] at g
  exact(g rfl).elim
theorem vM:∀{n d e:Nat} {v:bt Va} {x:bA},tY d v->Fm e x->e<=15->d<n->∃t,iB n v x=some t
 |0,d,e,v,x,_,_,_,h=>by omega
 |n+1,d,e,v,x,hv,hx,he,hd=>by
  have hg:=hv.c
  have hr:PM (GP d) e (iB n):=fun y z hy hz=>by
   cases d with
   |zero=>exact hy.elim
   |succ d=>
    cases e with
    |zero=>exact hz.elim
    |succ e=>exact vM hy.1 hz ii ii
  obtain⟨t,ht⟩:=qo (k:=5) ii (hg.sc.mono (V2 _) ii) he hx
  have h1:=hg.sm.ll
  have h2:=hg.sm.sl
  unfold iB
  cases ha:v.any with
  |true=>exact⟨true,by rw[HP rfl]⟩
  |false=>
   rw[TP (by decide),ht,VU]
   cases t with
   |true=>exact⟨true,by rw[HP rfl]⟩
   |false=>
    rw[TP (by decide)]
    by_cases k5:x.c.kind=5
    ·rw[HP k5]
     exact wk ii fun c hc=>by
      obtain⟨t,ht,_⟩:=nT hr (hg.sm.l c hc) hx.c
      exact⟨t,ht⟩
    ·rw[TP k5]
     by_cases k6:x.c.kind=6
     ·rw[HP k6]
      exact wk ii fun c hc=>by
       obtain⟨t,ht,_⟩:=nS hr (hg.st c hc) hx.c
       exact⟨t,ht⟩
     ·rw[TP k6]
      exact⟨false,rfl⟩
theorem Et {α:Type} {is:α->α->Option Bool} {a b:List α} (e:yc is a b=some true):∀x∈a,∃y∈b,is x y=some true:=by
 unfold yc at e
 obtain⟨_,e⟩:=ah e
 have key:∀{r:List α},tf is b r=some true->∀x∈r,∃y∈b,is x y=some true:=fun{r}=>by
  induction r with
  |nil=>exact fun _ x hx=>by cases hx
  |cons x r ih=>
   intro e z hz
   unfold tf at e
   obtain⟨c,h1,e⟩:=aa e
   cases c with
   |false=>cases e
   |true=>
    rcases V9.1 hz with rfl|hz
    ·exact tQ h1
    ·exact ih e z hz
 exact key e
theorem A0 {rec:bt Va->bt Va->Option Bool} {x y:Va} (e:jQ rec x y=some true):rec x.v y.v=some true:=by
 unfold jQ at e
 obtain⟨c,h1,e⟩:=aa e
 cases c with
 |false=>cases e
 |true=>exact h1
theorem ID {rec:bt Va->bt Va->Option Bool} {a b:aV Va}:∀{r:List Va} {i:Nat},Gt rec a b r i=some true->(∀(q:Nat) (x:Va),r[q]? =some x->∃p,item b (i+q:Nat)=some p/\jQ rec x p.1=some true)/\lbE rec a b=some true
 |[],i,e=>⟨fun q x hx=>(by simp at hx),e⟩
 |x::r,i,e=>by
  have e1:((i:Int)+1)=((i+1:Nat):Int):=by omega
  unfold Gt at e
  obtain⟨p,h1,e⟩:=aa e
  obtain⟨c,h2,e⟩:=aa e
  cases c with
  |false=>cases e
  |true=>
   rw[HP rfl,e1] at e
   obtain⟨h3,h4⟩:=ID e
   refine⟨fun q z hz=> ?_,h4⟩
   cases q with
   |zero=>cases hz;exact⟨p,h1,h2⟩
   |succ q=>
    have:=h3 q z (by simpa using hz)
    rwa [show i+1+q=i+(q+1) by omega] at this
theorem RG {rec:bt Va->bt Va->Option Bool} {a b:aV Va} (e:RH rec a b=some true):b.items.length<=a.items.length/\(0<b.rest.length\/a.items.length<=b.items.length/\a.rest.length=0)/\(∀(q:Nat) (x:Va),a.items[q]? =some x->∃p,item b q=some p/\jQ rec x p.1=some true)/\(a.rest.length=0\/∃x y,a.rest[0]? =some x/\b.rest[0]? =some y/\jQ rec x y=some true):=by
 unfold RH at e
 obtain⟨_,e⟩:=ah e
 obtain⟨_,e⟩:=ah e
 obtain⟨_,e⟩:=ah e
 have fin:Gt rec a b a.items 0=some true->(∀(q:Nat) (x:Va),a.items[q]? =some x->∃p,item b q=some p/\jQ rec x p.1=some true)/\(a.rest.length=0\/∃x y,a.rest[0]? =some x/\b.rest[0]? =some y/\jQ rec x y=some true):=fun e=>by
  obtain⟨h1,h2⟩:=ID (i:=0) e
  refine⟨fun q x hx=>by have:=h1 q x hx;rwa [WU] at this,?_⟩
  unfold lbE at h2
  obtain⟨_,h2⟩:=ah h2
  by_cases g:(a.rest.length:Int)=0
  ·exact .inl ii
  ·rw[TP g] at h2
   obtain⟨j,x,hj,hx,h2⟩:=az h2
   obtain⟨k,y,hk,hy,h2⟩:=az h2
   have:j=0:=by omega
   subst this
   have:k=0:=by omega
   subst this
   exact .inr ⟨x,y,hx,hy,h2⟩
 by_cases g:(a.items.length:Int)<b.items.length
 ·rw[HP g] at e;cases e
 ·rw[TP g] at e
  by_cases g1:(b.rest.length:Int)>0
  ·rw[HP g1] at e
   exact⟨by omega,.inl ii,fin e⟩
  ·rw[TP g1] at e
   by_cases g2:(a.items.length:Int)>b.items.length
   ·rw[HP g2] at e;cases e
   ·rw[TP g2] at e
    obtain⟨_,e⟩:=ah e
    by_cases g3:(a.rest.length:Int)>0
    ·rw[HP g3] at e;cases e
    ·rw[TP g3] at e
     exact⟨by omega,.inr ⟨by omega,by omega⟩,fin e⟩
def VE (rec:bt Va->bt Va->Option Bool) (a b:aF Va) (w:List UInt8):Prop:=∃x y,view a w=some x/\view b w=some y/\x.2<=y.2/\jQ rec x.1 y.1=some true
theorem H3 {rec:bt Va->bt Va->Option Bool} {a b:aF Va} {f:dy Va} (e:Tk rec a b f=some true):VE rec a b f.label:=by
 unfold Tk at e
 obtain⟨x,h1,e⟩:=aa e
 obtain⟨y,h2,e⟩:=aa e
 by_cases g:x.2>y.2
 ·rw[HP g] at e;cases e
 ·rw[TP g] at e
  exact⟨x,y,h1,h2,by omega,e⟩
theorem uN {rec:bt Va->bt Va->Option Bool} {x:cW Va}:∀{l:List (cW Va)},uO rec x l=some true->∀y∈l,jQ rec x.val y.val=some true\/th x.set y.set=some []
 |[],_,y,hy=>by cases hy
 |z::r,e,y,hy=>by
  unfold uO at e
  obtain⟨c,h1,e⟩:=aa e
  cases c with
  |true=>
   rw[HP rfl] at e
   rcases V9.1 hy with rfl|hy
   ·exact .inl h1
   ·exact uN e y hy
  |false=>
   rw[TP (by decide)] at e
   obtain⟨l,h2,e⟩:=aa e
   obtain⟨_,e⟩:=ah e
   by_cases g:(l.length:Int)>0
   ·rw[HP g] at e;cases e
   ·rw[TP g] at e
    have hl:l=[]:=Wn.1 ii
    subst hl
    rcases V9.1 hy with rfl|hy
    ·exact .inr h2
    ·exact uN e y hy
theorem H5 {rec:bt Va->bt Va->Option Bool} {kb:List (cW Va)}:∀{l:List (cW Va)},Q0 rec kb l=some true->∀x∈l,∀y∈kb,jQ rec x.val y.val=some true\/th x.set y.set=some []
 |[],_,x,hx=>by cases hx
 |z::r,e,x,hx=>by
  unfold Q0 at e
  obtain⟨_,e⟩:=ah e
  obtain⟨c,h1,e⟩:=aa e
  cases c with
  |false=>cases e
  |true=>
   rw[HP rfl] at e
   rcases V9.1 hx with rfl|hx
   ·exact uN h1
   ·exact H5 e x hx
theorem QY {rec:bt Va->bt Va->Option Bool} {a b:aF Va} (e:QZ rec a b=some true):(∀f∈a.fields,VE rec a b f.label)/\(∀f∈b.fields,VE rec a b f.label)/\∀x∈a.aw,∀y∈b.aw,jQ rec x.val y.val=some true\/th x.set y.set=some []:=by
 unfold QZ at e
 obtain⟨_,e⟩:=ah e
 have k2:∀{r:List (dy Va)},xL rec a b r=some true->(∀f∈r,VE rec a b f.label)/\∀x∈a.aw,∀y∈b.aw,jQ rec x.val y.val=some true\/th x.set y.set=some []:=fun{r}=>by
  induction r with
  |nil=>
   intro e
   unfold xL at e
   obtain⟨_,e⟩:=ah e
   exact⟨fun f hf=>(by cases hf),H5 e⟩
  |cons f r ih=>
   intro e
   unfold xL at e
   obtain⟨c,h1,e⟩:=aa e
   cases c with
   |false=>cases e
   |true=>
    rw[HP rfl] at e
    obtain⟨h2,h3⟩:=ih e
    refine⟨fun g hg=> ?_,h3⟩
    rcases V9.1 hg with rfl|hg
    ·exact H3 h1
    ·exact h2 g hg
 have k1:∀{r:List (dy Va)},xN rec a b r=some true->(∀f∈r,VE rec a b f.label)/\(∀f∈b.fields,VE rec a b f.label)/\∀x∈a.aw,∀y∈b.aw,jQ rec x.val y.val=some true\/th x.set y.set=some []:=fun{r}=>by
  induction r with
  |nil=>
   intro e
   unfold xN at e
   obtain⟨_,e⟩:=ah e
   exact⟨fun f hf=>(by cases hf),k2 e⟩
  |cons f r ih=>
   intro e
   unfold xN at e
   obtain⟨c,h1,e⟩:=aa e
   cases c with
   |false=>cases e
   |true=>
    rw[HP rfl] at e
    obtain⟨h2,h3⟩:=ih e
    refine⟨fun g hg=> ?_,h3⟩
    rcases V9.1 hg with rfl|hg
    ·exact H3 h1
    ·exact h2 g hg
 exact k1 e
theorem Jj:∀{n d:Nat} {a b:bt Va},tY d a->tY d b->iD n a b=some true->∀{m e:Nat} {x:bA},d<m->e<=15->Fm e x->iB m a x=some true->iB m b x=some true
 |0,_,_,_,_,_,e,_,_,_,_,_,_,_=>by cases e
 |n+1,d,a,b,ha,hb,hbel,m,e,x,hm,he,hx,hh=>by
  have hA:=ha.c
  have hB:=hb.c
  have hX:=hx.c
  obtain⟨m,rfl⟩:∃k,m=k+1:=⟨m-1,by omega⟩
  have hr:PM (GP d) e (iB m):=fun y z hy hz=>by
   cases d with
   |zero=>exact hy.elim
   |succ d=>
    cases e with
    |zero=>exact hz.elim
    |succ e=>exact vM hy.1 hz ii ii
  have ih:∀y y' z,GP d y->GP d y'->PT e z->iD n y.v y'.v=some true->iB m y.v z=some true->iB m y'.v z=some true:=fun y y' z hy hy' hz h1 h2=>by
   cases d with
   |zero=>exact hy.elim
   |succ d=>
    cases e with
    |zero=>exact hz.elim
    |succ e=>exact Jj hy.1 hy'.1 h1 ii ii hz h2
  have bany:b.any=true->iB (m+1) b x=some true:=fun g=>by
   unfold iB
   rw[HP g]
  unfold iD at hbel
  cases hany:a.any with
  |true=>
   rw[hany,HP rfl] at hbel
   exact bany (Wm hbel)
  |false=>
   rw[hany,TP (by decide)] at hbel
   cases hbany:b.any with
   |true=>exact bany hbany
   |false=>
    rw[hbany,TP (by decide)] at hbel
    obtain⟨c,h1,hbel⟩:=aa hbel
    cases c with
    |true=>
     have:=CM h1
     injection this with g _
     rw[<-g]
     exact hh
    |false=>
     rw[TP (by decide)] at hbel
     obtain⟨c,h2,hbel⟩:=aa hbel
     cases c with
     |false=>cases hbel
     |true=>
      rw[HP rfl] at hbel
      obtain⟨c,h3,hbel⟩:=aa hbel
      cases c with
      |false=>cases hbel
      |true=>
       rw[HP rfl] at hbel
       have hl:=Et h3
       have hs:=Et hbel
       obtain⟨tb,htb⟩:=qo (k:=5) ii (hB.sc.mono (V2 _) ii) he hx
       have bsc:pg b.sc x=some true->iB (m+1) b x=some true:=fun g=>by
        unfold iB
        rw[hbany,TP (by decide),g,VU,HP rfl]
       unfold iB at hh
       rw[hany,TP (by decide)] at hh
       obtain⟨ta,hta,hh⟩:=aa hh
       cases ta with
       |true=>exact bsc (KR (k:=5) (m:=5) (n:=9) ii ii ii ii (hA.sc.mono (V2 _) ii) (hB.sc.mono (V2 _) ii) (by have:=hX.str;omega) h2 hta)
       |false=>
        rw[TP (by decide)] at hh
        cases tb with
        |true=>exact bsc htb
        |false=>
         unfold iB
         rw[hbany,TP (by decide),htb,VU,TP (by decide)]
         by_cases k5:x.c.kind=5
         ·rw[HP k5] at hh⊢
          obtain⟨c,hc,hhc⟩:=tQ hh
          obtain⟨c',hc',hlb⟩:=hl c hc
          have sa:=hA.sm.l c hc
          have sb:=hB.sm.l c' hc'
          have:=hB.sm.ll
          refine mO ii (fun y hy=>by obtain⟨t,ht,_⟩:=nT hr (hB.sm.l y hy) hX;exact⟨t,ht⟩) ⟨c',hc',?_⟩
          obtain⟨t,t1,t2⟩:=nT hr sa hX
          rw[hhc] at t1
          cases t1
          obtain⟨p1,p2⟩:=t2.1 rfl
          obtain⟨s,s1,s2⟩:=nT hr sb hX
          rw[s1]
          obtain⟨g1,g2,g3,g4⟩:=RG hlb
          have hperm:(x.c.items.length:Int)=c'.items.length\/((x.c.items.length:Int)>c'.items.length/\(c'.rest.length:Int)>0):=by omega
          rw[s2.2 ⟨hperm,fun q z hz=> ?_⟩]
          obtain⟨y,y1,y2⟩:=p2 q z hz
          have hq:=(VZ.1 hz).1
          obtain⟨y',y1',y2'⟩:=vI sb hq hperm
          refine⟨y',y1',?_⟩
          obtain⟨y0,y3,y4⟩:=vI sa hq p1
          rw[y1] at y3
          cases y3
          refine ih y y' z y4 y2' (hX.it z (V6 hz)) ?_ y2
          have sal:=sa.il
          have sbl:=sb.il
          have sar:=sa.rl
          have sbr:=sb.rl
          by_cases gq:q<c.items.length
          ·obtain⟨p,q1,q2⟩:=g3 q _ (VV gq)
           rw[Ba (VV gq) ii] at y1
           cases y1
           rw[y1'] at q1
           cases q1
           exact A0 q2
          ·rcases g4 with g4|⟨u,u',u1,u2,u3⟩
           ·omega
           ·rw[rz ii u1 ii ii] at y1
            cases y1
            rw[rz ii u2 ii ii] at y1'
            cases y1'
            exact A0 u3
         ·rw[TP k5] at hh⊢
          by_cases k6:x.c.kind=6
          ·rw[HP k6] at hh⊢
           obtain⟨c,hc,hhc⟩:=tQ hh
           obtain⟨c',hc',hsb⟩:=hs c hc
           have sa:=hA.st c hc
           have sb:=hB.st c' hc'
           have:=hB.sm.sl
           refine mO ii (fun y hy=>by obtain⟨t,ht,_⟩:=nS hr (hB.st y hy) hX;exact⟨t,ht⟩) ⟨c',hc',?_⟩
           obtain⟨t,t1,t2⟩:=nS hr sa hX
           rw[hhc] at t1
           cases t1
           obtain⟨p1,p2⟩:=t2.1 rfl
           obtain⟨s,s1,s2⟩:=nS hr sb hX
           rw[s1]
           obtain⟨g1,g2,g3⟩:=QY hsb
           rw[s2.2 ⟨fun f hf=> ?_,fun z hz=> ?_⟩]
           ·obtain⟨u,u',u1,u2,u3,_⟩:=g2 f hf
            have hlab:=sb.sm.A6 f hf
            obtain⟨r,r1,r2⟩:=kj sb (w:=f.label) ii
            rw[u2] at r1
            cases r1
            have h2':u'.2<=2:=by
             rcases r2 with⟨f',f1,f2,rfl⟩|⟨f1,_⟩
             ·rcases sb.dR f' f1 with z|z
              ·show f'.dR<=2;omega
              ·show f'.dR<=2;omega
             ·exact(f1 f hf rfl).elim
            obtain⟨r,r1,r3⟩:=kj sa (w:=f.label) ii
            rw[u1] at r1
            cases r1
            rcases r3 with⟨f',f1,f2,rfl⟩|⟨f1,k,_,_,rfl⟩
            ·obtain⟨mm,m1,m2⟩:=p1 f' f1
             exact⟨mm,m1,by rw[m2,f2]⟩
            ·have:(3:Int)<=u'.2:=u3
             omega
           ·obtain⟨r,r1,r2⟩:=p2 z hz
            have hlz:=(hX.me z hz).1
            obtain⟨r0,r3,r4⟩:=kj sa (w:=z.label) ii
            rw[r1] at r3
            cases r3
            obtain⟨r',r5,r6⟩:=kj sb (w:=z.label) ii
            refine⟨r',r5,ih r.1 r'.1 z.data (r4.P sa.sm) (r6.P sb.sm) (hX.me z hz).2 ?_ r2⟩
            have viaF:VE (iD n) c c' z.label->iD n r.1.v r'.1.v=some true:=fun⟨u,u',u1,u2,_,u4⟩=>by
             rw[r1] at u1
             rw[r5] at u2
             cases u1
             cases u2
             exact A0 u4
            rcases r4 with⟨f,f1,f2,_⟩|⟨_,k,k1,k2,e1⟩
            ·exact viaF (by rw[<-f2];exact g1 f f1)
            ·rcases r6 with⟨f,f1,f2,_⟩|⟨_,k',k3,k4,e2⟩
             ·exact viaF (by rw[<-f2];exact g2 f f1)
             ·rcases g3 k k1 k' k3 with g|g
              ·rw[e1,e2]
               exact A0 g
              ·obtain⟨l,l1,_,l3⟩:=SW (sa.vl k k1) (sb.vl k' k3) ii
               rw[g] at l1
               cases l1
               have:=l3 z.label
               rw[k2,k4,iE] at this
               cases this
          ·rw[TP k6] at hh
           cases hh
def yl (C:Nat) (ps:List dh) (R:bA->Prop) (q:bA×List dh):Prop:=∃ext,q.2=ps++ext/\ext.length<=C/\(∀e∈ext,e.kG≠0)/\(ext=[]->R q.1)
theorem yl.imp {C:Nat} {ps:List dh} {R S:bA->Prop} {q:bA×List dh} (h:yl C ps R q) (k:∀d,R d->S d):yl C ps S q:=by
 obtain⟨ext,h1,h2,h3,h4⟩:=h
 exact⟨ext,h1,h2,h3,fun e=>k _ (h4 e)⟩
def VW (P:Va->Prop) (R:Va->bA->Prop) (N C:Nat) (rt:pF):Prop:=∀x path ps,P x->path.length+N<=1000->ps.length+C<=1000000->aW (rt x path ps) (yl C ps (R x))
theorem PE {C:Nat} (hC:1<=C) {ps:List dh} (h:ps.length<1000000000) {path:List oS} {e:Int} (he:e≠0) {R:bA->Prop} {dd:bA}:aW ((ti ps path e).bind fun ps=>some (dd,ps)) (yl C ps R):=by
 unfold ti
 rw[VY]
 refine bw h ⟨_,rfl,[⟨path,e⟩],rfl,hC,fun x hx=> ?_,fun h=>by cases h⟩
 rw[V1.1 hx]
 exact he
section
variable {P:Va->Prop} {R:Va->bA->Prop} {N C:Nat} {rt:pF}
def yn (R:Va->bA->Prop):List Va->List bA->Prop
 |[],[]=>True
 |x::r,d::ds=>R x d/\yn R r ds
 |_,_=>False
theorem yn.len:∀{r:List Va} {ds:List bA},yn R r ds->ds.length=r.length
 |[],[],_=>rfl
 |[],_::_,h=>h.elim
 |_::_,[],h=>h.elim
 |x::r,d::ds,h=>by rw[V5,V5,yn.len h.2]
theorem yn.at_:∀{r:List Va} {ds:List bA} {q:Nat} {z:bA},yn R r ds->ds[q]? =some z->∃x,r[q]? =some x/\R x z
 |[],[],q,z,_,h=>by simp at h
 |[],_::_,_,_,h,_=>h.elim
 |_::_,[],_,_,h,_=>h.elim
 |x::r,d::ds,0,z,h,hz=>by cases hz;exact⟨x,rfl,h.1⟩
 |x::r,d::ds,q+1,z,h,hz=>by
  obtain⟨y,y1,y2⟩:=yn.at_ h.2 (show ds[q]? =some z by simpa using hz)
  exact⟨y,by simpa using y1,y2⟩
theorem Md (h:VW P R N C rt) {path:List oS} (hp:path.length+N+1<=1000):∀{r:List Va} {i:Int} {ps:List dh} {out:List bA},(∀x∈r,P x)->ps.length+C*r.length<=1000000->out.length+r.length<=1000->
  aW (xp rt path r i ps out) fun q=>∃ds ext,q.1= .mk ⟨5,0,[],out++ds,[]⟩/\q.2=ps++ext/\ext.length<=C*r.length/\(∀e∈ext,e.kG≠0)/\(ext=[]->yn R r ds)
 |[],i,ps,out,_,_,_=>aj ⟨[],[],by simp,by simp,by simp,fun e h=>(by cases h),fun _=>trivial⟩
 |x::r,i,ps,out,hP,hn,ho=>by
  rw[V5] at hn ho
  rw[XB,XH] at hn
  unfold xp
  refine au ii (bw ii (aq (h x _ ps (hP x (V0 ..)) (by simp;omega) ii) fun q ⟨e1,q1,q2,q3,q4⟩=>bw ii ?_))
  refine(Md h hp (fun x hx=>hP x (VX _ hx)) (by rw[q1];simp;omega) (by simp;omega)).mono ?_
  rintro s ⟨ds,e2,s1,s2,s3,s4,s5⟩
  refine⟨q.1::ds,e1++e2,by rw[s1];simp,by rw[s2,q1];simp,by rw[V7,V5,XB,XH];omega,fun e he=> ?_,fun he=> ?_⟩
  ·rcases V8.1 he with he|he
   ·exact q3 e he
   ·exact s4 e he
  ·have he':=List.append_eq_nil_iff.1 he
   exact⟨q4 he'.1,s5 he'.2⟩
theorem Qg (h:VW P R N C rt) (hC:1<=C) {c:aV Va} (hc:lE P c) {path:List oS} {ps:List dh} (hp:path.length+N+1<=1000) (hn:ps.length+4*C<=1000000):aW (Cd rt c path ps) (yl (4*C) ps fun dd=>∃ds,dd= .mk ⟨5,0,[],ds,[]⟩/\yn R c.items ds):=by
 have h1:=hc.il
 have h2:=hc.rl
 unfold Cd
 refine au ii (ar (fun _=>PE ii ii ii) fun h0=>au ii ?_)
 have h3:C*c.items.length<=C*3:=Xp _ h1
 refine(Md h hp hc.i ii (by simp;omega)).mono ?_
 rintro q ⟨ds,ext,q1,q2,q3,q4,q5⟩
 exact⟨ext,q2,by omega,q4,fun he=>⟨ds,by rw[q1];rfl,q5 he⟩⟩
def pJ (R:Va->bA->Prop):List (dy Va)->List (Mem bA)->Prop
 |[],[]=>True
 |f::r,m::ms=>(m.label=f.label/\R f.val m.data)/\pJ R r ms
 |_,_=>False
theorem pJ.len:∀{r:List (dy Va)} {ms:List (Mem bA)},pJ R r ms->ms.length=r.length
 |[],[],_=>rfl
 |[],_::_,h=>h.elim
 |_::_,[],h=>h.elim
 |x::r,d::ds,h=>by rw[V5,V5,pJ.len h.2]
theorem pJ.mem:∀{r:List (dy Va)} {ms:List (Mem bA)},pJ R r ms->(∀m∈ms,∃f∈r,m.label=f.label/\R f.val m.data)/\∀f∈r,∃m∈ms,m.label=f.label
 |[],[],_=>⟨fun m hm=>(by cases hm),fun f hf=>(by cases hf)⟩
 |[],_::_,h=>h.elim
 |_::_,[],h=>h.elim
 |f::r,m::ms,h=>by
  obtain⟨h1,h2⟩:=pJ.mem h.2
  refine⟨fun x hx=> ?_,fun x hx=> ?_⟩
  ·rcases V9.1 hx with rfl|hx
   ·exact⟨f,V0 ..,h.1⟩
   ·obtain⟨g,g1,g2⟩:=h1 x hx
    exact⟨g,VX _ g1,g2⟩
  ·rcases V9.1 hx with rfl|hx
   ·exact⟨m,V0 ..,h.1.1⟩
   ·obtain⟨g,g1,g2⟩:=h2 x hx
    exact⟨g,VX _ g1,g2⟩
theorem pJ.E0:∀{r:List (dy Va)} {ms:List (Mem bA)},pJ R r ms->(r.Pairwise fun x y=>Op.bytesLess x.label y.label=true)->ms.Pairwise fun x y=>Op.bytesLess x.label y.label=true
 |[],[],_,_=>List.Pairwise.nil
 |[],_::_,h,_=>h.elim
 |_::_,[],h,_=>h.elim
 |f::r,m::ms,h,hp=>by
  have hp':=WO.1 hp
  refine WO.2 ⟨fun x hx=> ?_,pJ.E0 h.2 hp'.2⟩
  obtain⟨g,g1,g2,_⟩:=(pJ.mem h.2).1 x hx
  rw[h.1.1,g2]
  exact hp'.1 g g1
def FdW (C:Nat) (R:Va->bA->Prop) (f:dy Va) (ps:List dh) (out:List (Mem bA)) (s:List dh×List (Mem bA)):Prop:=∃ext,s.1=ps++ext/\ext.length<=C/\(∀e∈ext,e.kG≠0)/\s.2.length<=out.length+1/\(ext=[]->∃dd,s.2=out++[⟨f.label,dd⟩]/\R f.val dd)
theorem BT (hC:1<=C) {f:dy Va} {ps:List dh} {out o:List (Mem bA)} (hn:ps.length<1000000000) (ho:o.length<=out.length+1) {path:List oS} {e:Int} (he:e≠0):aW ((ti ps path e).bind fun ps=>some (ps,o)) (FdW C R f ps out):=by
 unfold ti
 rw[VY]
 refine bw hn ⟨_,rfl,[⟨path,e⟩],rfl,hC,fun x hx=> ?_,ho,fun h=>by cases h⟩
 rw[V1.1 hx]
 exact he
theorem Ti (h:VW P R N C rt) (hC:1<=C) {path p:List oS} (hp':p.length+N<=1000) {f:dy Va} (hf:P f.val) {ps:List dh} {out:List (Mem bA)} (hn:ps.length+C<=1000000) (ho:out.length+1<=1000) (hN:N<=1000):aW (Tj true rt path p f ps out) (FdW C R f ps out):=by
 have hD:aW ((rt f.val p ps).bind fun q=>(push out ⟨f.label,q.1⟩).bind fun out=>some (q.2,out)) (FdW C R f ps out):=by
  refine aq (h f.val p ps hf hp' hn) fun q ⟨e1,q1,q2,q3,q4⟩=>bw ii (aj ⟨e1,q1,q2,q3,by simp,fun he=>⟨q.1,rfl,q4 he⟩⟩)
 unfold Tj
 rw[show yV true f.label=some false from rfl,VU,TP nf]
 refine ar (fun h0=>ar (fun h1=> ?_) fun _=>ar (fun _=>BT hC ii ii ii) fun h2=>hD) fun _=>ar (fun _=>BT hC ii ii ii) fun h2=>hD
 refine aq (h f.val [] [] hf (by simpa using hN) (by simp;omega)) fun q ⟨e1,q1,q2,q3,q4⟩=>bw ii ?_
 rw[Xg] at q1
 rw[<-q1] at q2 q3 q4
 refine au ii (ar (fun h3=>aX ii ii fun e _ he=>BT hC ii (by simp) (q3 e he)) fun h3=> ?_)
 have h4:q.2=[]:=List.eq_nil_of_length_eq_zero ii
 exact aj ⟨[],by simp,by simp,fun e h=>(by cases h),by simp,fun _=>⟨q.1,by rw[h0],q4 h4⟩⟩
theorem Th (h:VW P R N C rt) (hC:1<=C) {path:List oS} (hp:path.length+N+1<=1000):∀{r:List (dy Va)} {ps:List dh} {out:List (Mem bA)},(∀f∈r,P f.val)->ps.length+C*r.length<=1000000->out.length+r.length<=1000->
  aW (LP true rt path r ps out) fun q=>∃ext,q.2=ps++ext/\ext.length<=C*r.length/\(∀e∈ext,e.kG≠0)/\(ext=[]->∃ms,q.1= .mk ⟨6,0,[],[],out++ms⟩/\pJ R r ms)
 |[],ps,out,_,_,_=>aj ⟨[],by simp,by simp,fun e h=>(by cases h),fun _=>⟨[],by simp,trivial⟩⟩
 |f::r,ps,out,hP,hn,ho=>by
  rw[V5] at hn ho
  rw[XB,XH] at hn
  have hf:=hP f (V0 ..)
  have step:∀s:List dh×List (Mem bA),FdW C R f ps out s->aW (LP true rt path r s.1 s.2) fun q=>∃ext,q.2=ps++ext/\ext.length<=C*(r.length+1)/\(∀e∈ext,e.kG≠0)/\(ext=[]->∃ms,q.1= .mk ⟨6,0,[],[],out++ms⟩/\pJ R (f::r) ms):=by
   rintro s ⟨e1,q1,q2,q3,q4,q5⟩
   refine(Th h hC hp (fun x hx=>hP x (VX _ hx)) (by rw[q1];simp;omega) ii).mono ?_
   rintro q ⟨e2,s1,s2,s3,s4⟩
   refine⟨e1++e2,by rw[s1,q1];simp,by rw[V7,XB,XH];omega,fun e he=> ?_,fun he=> ?_⟩
   ·rcases V8.1 he with he|he
    ·exact q3 e he
    ·exact s3 e he
   ·have he':=List.append_eq_nil_iff.1 he
    obtain⟨dd,d1,d2⟩:=q5 he'.1
    obtain⟨ms,m1,m2⟩:=s4 he'.2
    exact⟨⟨f.label,dd⟩::ms,by rw[m1,d1];simp,⟨rfl,d2⟩,m2⟩
  unfold LP
  rw[V5]
  exact au ii (bw ii (ar (fun _=>aq (Ti h hC ii hf ii ii ii) step) fun _=>aq (Ti h hC (by simp;omega) hf ii ii ii) step))
theorem Qe (h:VW P R N C rt) (hC:1<=C) {c:aF Va} (h1:c.fields.length<=4) (hc:∀f∈c.fields,P f.val) {path:List oS} {ps:List dh} (hp:path.length+N+1<=1000) (hn:ps.length+4*C<=1000000):aW (Ca true rt c path ps) (yl (4*C) ps fun dd=>∃ms,dd= .mk ⟨6,0,[],[],ms⟩/\pJ R c.fields ms):=by
 unfold Ca
 have h3:C*c.fields.length<=C*4:=Xp _ h1
 refine au ii ((Th h hC hp hc ii (by simp;omega)).mono ?_)
 rintro q ⟨ext,q2,q3,q4,q5⟩
 refine⟨ext,q2,by omega,q4,fun he=> ?_⟩
 obtain⟨ms,m1,m2⟩:=q5 he
 exact⟨ms,by rw[m1];rfl,m2⟩
end
def QA (d:Nat) (x:Va):Prop:=(tY d x.v/\tY d x.d)/\DpA d x
def QP:Nat->Va->Prop
 |0,_=>False
 |d+1,x=>QA d x
def CR (d:Nat) (x:Va) (dd:bA):Prop:=PT d dd/\∀m,d<=m->iB m x.v dd=some true
theorem Tn {d:Nat} {x:Va} (h:GP d x) (k:∀e,d=e+1->DpA e x):QP d x:=by
 cases d with
 |zero=>exact h.elim
 |succ d=>exact⟨h,k d rfl⟩
theorem qL {d:Nat} {r:bt Va} (h:tY d r) (hd:Dp d r) {c:aV Va} (hc:c∈r.lists):lE (QP d) c:=by
 have hs:=h.c.sm.l c hc
 have key:∀x,x∈c.items\/x∈c.rest->GP d x->QP d x:=fun x hx hg=>Tn hg fun e he=>by
  subst he
  exact hd.1 c hc x hx
 exact⟨hs.il,hs.rl,fun x hx=>key x (.inl hx) (hs.i x hx),fun x hx=>key x (.inr hx) (hs.r x hx)⟩
theorem qS {d:Nat} {r:bt Va} (h:tY d r) (hd:Dp d r) {c:aF Va} (hc:c∈r.structs):∀f∈c.fields,QP d f.val:=fun f hf=>Tn ((h.c.sm.s c hc).f f hf) fun e he=>by
 subst he
 exact(hd.2 c hc).1 f hf
theorem Jm:∀{l:List (dy Va)},(l.Pairwise fun x y=>Op.bytesLess x.label y.label=true)->∀f∈l,∀g∈l,f.label=g.label->f=g
 |[],_,f,hf,_,_,_=>by cases hf
 |x::r,h,f,hf,g,hg,e=>by
  have h':=WO.1 h
  rcases V9.1 hf with e1|hf1
  ·rcases V9.1 hg with e2|hg1
   ·rw[e1,e2]
   ·have:=h'.1 g hg1
    rw[<-e1,e,vz] at this
    cases this
  ·rcases V9.1 hg with e2|hg1
   ·have:=h'.1 f hf1
    rw[<-e2,e,vz] at this
    cases this
   ·exact Jm h'.2 f hf1 g hg1 e
def Hm (d:Nat) (r:bt Va) (dd:bA):Prop:=Fm d dd/\∀m,d<m->iB m r dd=some true
theorem UH {d:Nat} {r:bt Va} {dd:bA} (h1:LD 8 dd) (h2:mR dd=some 0) (h3:1<=dd.c.kind/\dd.c.kind<=4) (h4:pg r.sc dd=some true):Hm d r dd:=by
 obtain⟨o1,o2,o3⟩:=C9 (EK h2)
 have e1:dd.c.items=[]:=by rw[h1.eq];rfl
 have e2:dd.c.members=[]:=by rw[h1.eq];rfl
 refine⟨Fm.of ⟨o1,by omega,o2,o3,h1.str,by rw[e1];simp,by rw[e2];simp,by rw[e2];exact List.Pairwise.nil,fun x hx=>(by rw[e1] at hx;cases hx),fun x hx=>(by rw[e2] at hx;cases hx)⟩,fun m hm=> ?_⟩
 obtain⟨m,rfl⟩:∃k,m=k+1:=⟨m-1,by omega⟩
 unfold iB
 cases r.any with
 |true=>rw[HP rfl]
 |false=>rw[TP nf,h4,VU,HP rfl]
theorem Tm {d m:Nat} (hd:d<=15) (hm:d<=m):PM (GP d) d (iB m):=fun y z hy hz=>by
 cases d with
 |zero=>exact hy.elim
 |succ d=>exact vM hy.1 hz ii ii
theorem UF {d:Nat} (hd:d<=15) {r:bt Va} (hr:tY d r) {c:aV Va} (hc:r.lists[0]? =some c) {ds:List bA} (h:yn (CR d) c.items ds):Hm d r (.mk ⟨5,0,[],ds,[]⟩):=by
 have hcm:=V6 hc
 have hs:=hr.c.sm.l c hcm
 have hl:=h.len
 have hil:=hs.il
 have hkid:∀x∈ds,PT d x:=fun x hx=>by
  obtain⟨q,hq⟩:=Wj.1 hx
  obtain⟨y,_,y2⟩:=h.at_ hq
  exact y2.1
 have hO:Fm d (.mk ⟨5,0,[],ds,[]⟩):=Fm.of ⟨by
  show kt ⟨5,0,[],ds,[]⟩=_
  unfold kt
  rw[bL (by show ds.length<=1000000000;omega),bL (by show(0:Nat)<=1000000000;omega),TP (by show¬(5:Int)=2;omega),TP (by show¬(5:Int)=3;omega),TP (by show¬(5:Int)=4;omega),HP rfl,HP rfl,HP rfl]
  rfl,⟨by show(1:Int)<=5;omega,by show(5:Int)<=6;omega⟩,fun z=>(by cases z),fun z=>(by cases z),by show(0:Nat)<=8;omega,by show ds.length<=1000;omega,by show(0:Nat)<=1000;omega,List.Pairwise.nil,hkid,fun x hx=>by cases hx⟩
 refine⟨hO,fun m hm=> ?_⟩
 obtain⟨m,rfl⟩:∃k,m=k+1:=⟨m-1,by omega⟩
 have hrt:=Tm (d:=d) (m:=m) hd ii
 obtain⟨t,ht⟩:=qo (k:=5) ii (hr.c.sc.mono (V2 _) ii) hd hO
 have hll:=hr.c.sm.ll
 unfold iB
 cases r.any with
 |true=>rw[HP rfl]
 |false=>
  rw[TP nf,ht,VU]
  cases t with
  |true=>rw[HP rfl]
  |false=>
   rw[TP nf,HP (show(bA.mk ⟨5,0,[],ds,[]⟩).c.kind=5 from rfl)]
   refine mO ii (fun y hy=>by obtain⟨t,ht,_⟩:=nT hrt (hr.c.sm.l y hy) hO.c;exact⟨t,ht⟩) ⟨c,hcm,?_⟩
   obtain⟨s,s1,s2⟩:=nT hrt hs hO.c
   rw[s1,s2.2 ⟨.inl (by show(ds.length:Int)=_;omega),fun q z hz=> ?_⟩]
   have hz:ds[q]? =some z:=hz
   obtain⟨y,y1,y2⟩:=h.at_ hz
   exact⟨y,Ba y1 ii,y2.2 m ii⟩
theorem Mq {d:Nat} (hd:d<=15) {r:bt Va} (hr:tY d r) {c:aF Va} (hc:r.structs[0]? =some c) {ms:List (Mem bA)} (h:pJ (CR d) c.fields ms):Hm d r (.mk ⟨6,0,[],[],ms⟩):=by
 have hcm:=V6 hc
 have hs:=hr.c.st c hcm
 have hl:=h.len
 have hfl:=hs.sm.fl
 obtain⟨hm1,hm2⟩:=h.mem
 have hkid:∀x∈ms,x.label.length<=60/\PT d x.data:=fun x hx=>by
  obtain⟨f,f1,f2,f3⟩:=hm1 x hx
  exact⟨by rw[f2];exact hs.sm.A6 f f1,f3.1⟩
 have hO:Fm d (.mk ⟨6,0,[],[],ms⟩):=Fm.of ⟨by
  show kt ⟨6,0,[],[],ms⟩=_
  unfold kt
  rw[bL (by show(0:Nat)<=1000000000;omega),bL (by show ms.length<=1000000000;omega),TP (by show¬(6:Int)=2;omega),TP (by show¬(6:Int)=3;omega),TP (by show¬(6:Int)=4;omega),TP (by show¬(6:Int)=5;omega),HP rfl,HP rfl,HP rfl]
  rfl,⟨by show(1:Int)<=6;omega,by show(6:Int)<=6;omega⟩,fun z=>(by cases z),fun z=>(by cases z),by show(0:Nat)<=8;omega,by show(0:Nat)<=1000;omega,by show ms.length<=1000;omega,h.E0 hs.E0,fun x hx=>(by cases hx),hkid⟩
 refine⟨hO,fun m hm=> ?_⟩
 obtain⟨m,rfl⟩:∃k,m=k+1:=⟨m-1,by omega⟩
 have hrt:=Tm (d:=d) (m:=m) hd ii
 obtain⟨t,ht⟩:=qo (k:=5) ii (hr.c.sc.mono (V2 _) ii) hd hO
 have hsl:=hr.c.sm.sl
 unfold iB
 cases r.any with
 |true=>rw[HP rfl]
 |false=>
  rw[TP nf,ht,VU]
  cases t with
  |true=>rw[HP rfl]
  |false=>
   rw[TP nf,TP (show¬(bA.mk ⟨6,0,[],[],ms⟩).c.kind=5 by show¬(6:Int)=5;omega),HP (show(bA.mk ⟨6,0,[],[],ms⟩).c.kind=6 from rfl)]
   refine mO ii (fun y hy=>by obtain⟨t,ht,_⟩:=nS hrt (hr.c.st y hy) hO.c;exact⟨t,ht⟩) ⟨c,hcm,?_⟩
   obtain⟨s,s1,s2⟩:=nS hrt hs hO.c
   rw[s1,s2.2 ⟨hm2,fun z hz=> ?_⟩]
   have hz:z∈ms:=hz
   obtain⟨f,f1,f2,f3⟩:=hm1 z hz
   obtain⟨v,v1,v2⟩:=kj hs (w:=z.label) (by have:=(hkid z hz).1;omega)
   refine⟨v,v1,?_⟩
   rcases v2 with⟨g,g1,g2,rfl⟩|⟨g1,_⟩
   ·rw[<-Jm hs.E0 f f1 g g1 (by rw[g2,f2])]
    exact f3.2 m ii
   ·exact(g1 f f1 f2.symm).elim
theorem HA {d N C:Nat} (hd:d<=15) {rt:pF} (h:VW (QP d) (CR d) N C rt) (hC:1<=C) {r:bt Va} (hr:tY d r) (hq:Dp d r) {path:List oS} {ps:List dh} (hp:path.length+N+1<=1000) (hn:ps.length+4*C<=1000000):aW (yv true rt r path ps) (yl (4*C) ps (Hm d r)):=by
 have hc:=hr.c.sm
 have hl:=hc.ll
 have hs:=hc.sl
 obtain⟨p,h1,hp1⟩:=Cx (k:=5) (n:=8) ii ii hr.c.sc
 obtain⟨e,h2,_⟩:=px (k:=5) (n:=8) ii ii hc.sc
 obtain⟨b,h3,_⟩:=rA hc
 have bad:∀e:Int,e≠0->aW (l7 ps path e) (yl (4*C) ps (Hm d r)):=fun e he=>by
  unfold l7
  exact PE ii ii he
 have fin:(p.2=true\/r.lists.length+r.structs.length=1)->aW (B8 true rt r p path ps) (yl (4*C) ps (Hm d r)):=fun ho=>by
  unfold B8
  refine ar (fun c6=> ?_) fun c6=> ?_
  ·obtain⟨g1,g2,g3,g4⟩:=hp1 c6
   exact aj ⟨[],by simp,by simp,fun e h=>(by cases h),fun _=>UH g1 g2 g3 g4⟩
  ·have ho:=ho.resolve_left c6
   refine ar (fun c7=> ?_) fun c7=> ?_
   ·obtain⟨c,hcc⟩:∃c,r.lists[0]? =some c:=⟨_,VV ii⟩
    rw[zU hcc]
    refine(Qg h hC (qL hr hq (V6 hcc)) hp hn).mono fun q hq=>hq.imp ?_
    rintro _ ⟨ds,rfl,h⟩
    exact UF hd hr hcc h
   ·obtain⟨c,hcc⟩:∃c,r.structs[0]? =some c:=⟨_,VV ii⟩
    rw[zU hcc]
    refine(Qe h hC (hc.s c (V6 hcc)).fl (qS hr hq (V6 hcc)) hp hn).mono fun q hq=>hq.imp ?_
    rintro _ ⟨ds,rfl,h⟩
    exact Mq hd hr hcc h
 unfold yv
 rw[h1,VU,h2,VU,bL ii,bL ii,h3,VU]
 refine ar (fun _=>bad _ ii) fun c1=>ar (fun _=>bad _ ii) fun c2=>ar (fun _=>bad _ ii) fun c3=>ar (fun c4=>ar (fun _=> ?_) fun _=>bad _ ii) fun c4=> ?_
 ·unfold Cb
  rw[TP ii]
  exact fin (.inr ii)
 ·unfold Cb
  rw[HP ii]
  exact ar (fun c6=>fin (.inl c6)) fun _=>bad _ ii
def TV:Nat->Nat
 |0=>4
 |d+1=>4*TV d
theorem HD:∀d,1<=TV d
 |0=>by decide
 |d+1=>by have:=HD d;unfold TV;omega
theorem Me:∀{n d:Nat},d<n->d<=15->VW (QA d) (fun x=>Hm d x.v) n (TV d) (FL true n)
 |0,d,h,_=>by omega
 |n+1,d,h,hd=>by
  intro x path ps hx hp hn
  obtain⟨⟨hv,hdv⟩,hb,hq1,hq2⟩:=hx
  obtain⟨C,hC,h4,hw⟩:∃C,1<=C/\4*C=TV d/\VW (QP d) (CR d) n C (FL true n):=by
   cases d with
   |zero=>exact⟨1,V2 _,rfl,fun x path ps hx=>hx.elim⟩
   |succ d=>exact⟨TV d,HD d,rfl,fun x path ps hx hp hn=>(Me ii ii x path ps hx hp hn).mono fun q hq=>hq.imp fun dd h=>⟨h.1,fun m hm=>h.2 m ii⟩⟩
  obtain⟨b,h1,_⟩:=rA hdv.c.sm
  rw[<-h4] at hn⊢
  show aW ((mI x.d).bind _) _
  rw[h1,VU]
  refine ar (fun _=>HA hd hw hC hv hq1 ii hn) fun _=>(HA hd hw hC hdv hq2 ii hn).mono fun q hq=>hq.imp fun dd h=>⟨h.1,fun m hm=> ?_⟩
  exact Jj hdv hv hb hm hd h.1 (h.2 m hm)
theorem yr {x:Va} {d:bA} {ext:List dh} (hs:qZ x=some true) (hc:fB x true=some (d,ext)) (hl:ext.length<=1000) (h0:∀e∈ext,e.kG≠0) (h1:ext=[]->M3 d=some 0/\KT x.v d=some true):KN x=some true:=by
 have hp:o6 x true=some ext:=by
  unfold o6
  rw[hc]
  rfl
 unfold KN
 rw[hs,VU,HP rfl]
 cases ext with
 |nil=>
  obtain⟨h2,h3⟩:=h1 rfl
  rw[Sf hc,VU,hp,VU,HP rfl,bL (by simp),HP (show((([]:List dh).length:Nat):Int)=0 from rfl)]
  show(M3 d).bind _=_
  rw[h2,VU,HP rfl]
  show(KT x.v d).bind _=_
  rw[h3,VU,HP rfl,rH]
 |cons e r=>
  have he:=h0 e (V0 ..)
  have hi:isC x=some false:=by
   unfold isC
   rw[hp,VU,Xu (by rw[V5];omega)]
  have hd:=Se hc hl
  rw[hd,VU,hp,VU,TP he,bL ii,HP (by rw[V5];omega),zU (x:=e) rfl,HP rfl,hi,VU,TP nf]
  show(if Fy.c.kind=0 then ou else some false)=_
  rw[HP (show Fy.c.kind=0 from rfl),rH]
theorem KM {n:Nat} (hn:n<=9223372036854775807) {x:Va} (hx:P4 n 3 x):KN x=some true:=by
 obtain⟨s,hs,h1⟩:=F0 hn hx
 cases s with
 |false=>
  unfold KN
  rw[hs,VU,TP nf,rH]
 |true=>
  have hsm:=h1 rfl
  obtain⟨c,hc,_⟩:=FN (d:=2) ii hsm
  cases c with
  |false=>
   refine yr (d:=Fy) (ext:=[⟨[],11⟩]) hs ?_ (by simp) (fun e he=>by rw[V1.1 he];show(11:Int)≠0;omega) fun h=>by cases h
   unfold fB
   rw[hc,VU,TP nf]
   rfl
  |true=>
   obtain⟨hg,hdp,hgood⟩:=FO (d:=2) ii hsm hc
   obtain⟨q,hq,ext,q1,q2,q3,q4⟩:=Me (n:=18) (d:=2) ii ii x [] [] ⟨hg,hdp 2⟩ (by simp) (by simp;decide)
   rw[Xg] at q1
   have hcol:fB x true=some (q.1,ext):=by
    unfold fB
    rw[hc,VU,HP rfl,hq,<-q1]
   have hv:TV 2=64:=rfl
   refine yr hs hcol ii q3 fun he=> ?_
   obtain⟨hok,hhas⟩:=q4 he
   refine⟨C5 hok ii ii ii,?_⟩
   have hchk:mR q.1=some 0:=GY hok ii ii ii
   unfold KT
   rw[hgood,VU,HP rfl,hchk,VU,HP rfl,hhas 20 ii]
end Go.Proofs.YtcejopopgcglpaaGreatDoor
