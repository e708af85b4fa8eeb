/- For ConcreteWithin: numbers, scalars, classes, values. -/
import Derived.Test.YtcejopopgcglpaaGreatDoorNa
import Derived.Test.YtcejopopgcglpaaGreatDoorMe
set_option linter.unusedVariables false
set_option linter.unusedSimpArgs false
set_option linter.unusedSectionVars false
namespace Go.Proofs.YtcejopopgcglpaaGreatDoor
open Sv
theorem wB (x y:Int):aW (wC x y) fun _=>True:=by
 unfold wC NC
 rw[VU,VU,TP (by decide),TP (by decide)]
 exact ar (fun _=>aj trivial) fun _=>ar (fun _=>aj trivial) fun _=>aj trivial
theorem OZ (x y:Int):aW (K9 x y) fun _=>True:=by
 unfold K9 Kw
 rw[VU,VU,TP (by decide),TP (by decide)]
 exact ar (fun _=>aj trivial) fun _=>ar (fun _=>aj trivial) fun _=>aj trivial
theorem ED (x y:List UInt8):aW (wz x y) fun _=>True:=by
 unfold wz NA
 rw[VU,VU,TP (by decide),TP (by decide)]
 exact ar (fun _=>aj trivial) fun _=>ar (fun _=>aj trivial) fun _=>aj trivial
theorem Rf {l:List Int} (h:l.length<=1000000000):aW (orI l) fun _=>True:=by
 unfold orI
 refine au h ?_
 have key:∀l:List Int,aW (Ko l) fun _=>True:=fun l=>by
  induction l with
  |nil=>exact aj trivial
  |cons x r ih=>exact ar (fun _=>ih) fun _=>aj trivial
 exact key l
theorem mw {n:Nat} {a b:List bj} (ha:a.length<=n) (hb:b.length<=n) (hn:n<=19000):fX a b<400000000:=by
 unfold fX
 have:(a.length+2)*(b.length+2)<=19002*19002:=Xb ii ii
 omega
theorem wA {n:Nat} {a b:List bj} (ha:AB n a) (hb:AB n b) (hn:n<=19000):aW (EF a b) fun _=>True:=by
 unfold EF
 refine aq (qt ha ii) fun a ha=>aq (qt hb ii) fun b hb=> ?_
 have h1:=mw ha.len hb.len hn
 have h2:=mw hb.len ha.len hn
 refine aq (pb ha.toAB hb.toAB ii) fun x hx=>aq (pf hx.toAB h1) fun p hp=>aq (pb hb.toAB ha.toAB ii) fun y hy=>aq (pf hy.toAB h2) fun q hq=> ?_
 refine ar (fun _=>ar (fun _=>au ii (au ii (aq (wB _ _) fun c _=>aq (ED _ _) fun d _=>Rf (by simp)))) fun _=>aj trivial) fun _=>ar (fun _=>aj trivial) fun _=>aj trivial
theorem DN {α:Type} {cmp:α->α->Option Int} {A:α->Prop} (hc:∀x y,A x->A y->aW (cmp x y) fun _=>True):∀{f:Nat} {l:List α} {j:Nat},(∀x∈l,A x)->j<l.length->l.length<=12->j<f->aW (kC cmp 0 f l j) fun r=>r.length=l.length/\(∀x∈r,A x)/\r.Perm l
 |0,l,j,_,_,_,h=>by omega
 |f+1,l,j,hl,hj,h12,hf=>by
  unfold kC
  refine ar (fun h0=> ?_) fun _=>aj ⟨rfl,hl,List.Perm.refl _⟩
  have e1:((j:Int)-1)=((j-1:Nat):Int):=by omega
  refine aX ii ii fun x hx hxm=>au ⟨by omega,by omega⟩ ?_
  rw[e1]
  refine aX ii ii fun y hy hym=>aq (hc x y (hl x hxm) (hl y hym)) fun c _=>ar (fun _=> ?_) fun _=>aj ⟨rfl,hl,List.Perm.refl _⟩
  refine aX ii ii fun y' hy' _=>aX ii ii fun x' hx' _=> ?_
  rw[hy] at hy'
  cases hy'
  rw[hx] at hx'
  cases hx'
  rw[show((j:Int)).toNat=j by omega] at hx
  rw[show(((j-1:Nat):Int)).toNat=j-1 by omega] at hy
  refine fh ii ii (fh ii (by rw[Wb];omega) ?_)
  rw[show((j:Int)).toNat=j by omega,show(((j-1:Nat):Int)).toNat=j-1 by omega]
  have hA:∀z∈(l.set j y).set (j-1) x,A z:=fun z hz=>by
   rcases WT hz with hz|rfl
   ·rcases WT hz with hz|rfl
    ·exact hl z hz
    ·exact hl _ hym
   ·exact hl _ hxm
  refine(DN hc (f:=f) (l:=(l.set j y).set (j-1) x) (j:=j-1) hA (by simp;omega) (by simp;omega) ii).mono fun r ⟨g1,g2,g3⟩=>⟨by rw[g1];simp,g2,g3.trans ?_⟩
  have hy':=(VZ.1 hy).2
  have hx':=(VZ.1 hx).2
  have:= @List.set_set_perm _ l j (j-1) hj ii
  rwa [hy',hx'] at this
theorem DP {α:Type} {cmp:α->α->Option Int} {A:α->Prop} (hc:∀x y,A x->A y->aW (cmp x y) fun _=>True):∀{f:Nat} {l:List α} {i n:Nat},(∀x∈l,A x)->l.length=n->n<=12->n<f+i->1<=f->aW (fy cmp 0 n f l i) fun r=>r.length=l.length/\(∀x∈r,A x)/\r.Perm l
 |0,l,i,n,hl,hn,h12,hf,h1=>by omega
 |f+1,l,i,n,hl,hn,h12,hf,h1=>by
  have e1:((i:Int)+1)=((i+1:Nat):Int):=by omega
  unfold fy
  refine ar (fun h0=> ?_) fun _=>aj ⟨rfl,hl,List.Perm.refl _⟩
  refine aq (DN hc (f:=l.length+1) (l:=l) (j:=i) hl ii ii ii) fun r ⟨g1,g2,g3⟩=>au ⟨by omega,by omega⟩ ?_
  rw[e1]
  exact(DP hc (f:=f) (l:=r) (i:=i+1) (n:=n) g2 ii h12 ii ii).mono fun q ⟨h1,h2,h3⟩=>⟨by omega,h2,h3.trans g3⟩
theorem uz {α:Type} {cmp:α->α->Option Int} {A:α->Prop} (hc:∀x y,A x->A y->aW (cmp x y) fun _=>True) {l:List α} (hl:∀x∈l,A x) (h12:l.length<=12):aW (gC cmp l) fun r=>r.length=l.length/\(∀x∈r,A x)/\r.Perm l:=by
 unfold gC
 refine au ii ?_
 rw[HP ii]
 exact DP hc (f:=l.length+1) (i:=1) (n:=l.length) hl rfl h12 ii ii
structure rU (B:Int) (k:Nat) (l:List Sv.Span):Prop where
 len:l.length<=k
 eO:∀s∈l,-B<=s.lo/\s.lo<=B/\ -B<=s.hi/\s.hi<=B
theorem rU.mono {B C:Int} {k m:Nat} {l:List Sv.Span} (h:rU B k l) (hB:B<=C) (hk:k<=m):rU C m l:=⟨Wq h.len hk,fun s hs=>by have:=h.eO s hs;omega⟩
def tk (k:Nat) (l:List Sv.Span):Prop:=l.length<=k/\∀s∈l,-9223372036854775808<=s.lo/\s.lo<9223372036854775808/\ -9223372036854775808<=s.hi/\s.hi<9223372036854775808
theorem rU.HT {B:Int} {k:Nat} {l:List Sv.Span} (h:rU B k l) (hB:B<=1000000000000000000):tk k l:=⟨h.len,fun s hs=>by have:=h.eO s hs;omega⟩
structure Sp (l:List Sv.Span):Prop where
 ord:∀s∈l,s.lo<=s.hi
 pw:l.Pairwise fun x y=>x.hi<y.lo
theorem Sp.nil:Sp []:=⟨fun s h=>(by cases h),List.Pairwise.nil⟩
theorem Sp.push {l:List Sv.Span} (h:Sp l) {p s:Sv.Span} (hp:l[l.length-1]? =some p) (h1:p.hi<s.lo) (h2:s.lo<=s.hi):Sp (l++[s]):=by
 refine⟨fun z hz=> ?_,Wx.2 ⟨h.pw,by simp,fun z hz y hy=> ?_⟩⟩
 ·rcases V8.1 hz with hz|hz
  ·exact h.ord z hz
  ·rw[V1.1 hz];exact h2
 ·rw[V1.1 hy]
  obtain⟨i,hi⟩:=Wj.1 hz
  obtain⟨hil,hiz⟩:=VZ.1 hi
  obtain⟨hpl,hpz⟩:=VZ.1 hp
  by_cases e:i=l.length-1
  ·subst e
   rw[hp] at hi
   cases hi
   exact h1
  ·have:=WS.1 h.pw i (l.length-1) hil hpl ii
   rw[hiz,hpz] at this
   have:=h.ord p (V6 hp)
   omega
theorem Sp.last {l:List Sv.Span} (h:Sp l) {p:Sv.Span} (hp:l[l.length-1]? =some p) {v:Int} (hv:p.hi<=v):Sp (l.set (l.length-1) ⟨p.lo,v⟩):=by
 obtain⟨hpl,hpz⟩:=VZ.1 hp
 have hpo:=h.ord p (V6 hp)
 refine⟨fun z hz=> ?_,WS.2 fun i j hi hj hij=> ?_⟩
 ·rcases WT hz with hz|rfl
  ·exact h.ord z hz
  ·show p.lo<=v
   omega
 ·rw[Wb] at hi hj
  have h1:=WS.1 h.pw i j hi hj hij
  rw[List.getElem_set,List.getElem_set,TP ii]
  split
  ·rename_i e
   subst e
   rw[hpz] at h1
   exact h1
  ·exact h1
theorem ry {next:Int->Option Int} {B:Int} (hB:B<=1000000000000000000) (hn:∀x,-B<=x->x<=B->aW (next x) fun m=>x<=m):∀{r out:List Sv.Span} {k:Nat},k<=1000000->rU B k r->(∀s∈r,s.lo<=s.hi)->rU B k out->Sp out->r.length+out.length<=k->aW (iI next r out) fun o=>rU B k o/\Sp o
 |[],out,k,_,_,_,h,h',_=>aj ⟨h,h'⟩
 |s::r,out,k,hk,h1,ho,h2,h2',h3=>by
  rw[V5] at h3
  have hs:=h1.eO s (V0 ..)
  have hso:=ho s (V0 ..)
  have hr:rU B k r:=⟨by omega,fun s hs=>h1.eO s (VX _ hs)⟩
  have hro:∀s∈r,s.lo<=s.hi:=fun s hs=>ho s (VX _ hs)
  have hadd:Sp (out++[s])->aW ((push out s).bind fun out=>iI next r out) fun o=>rU B k o/\Sp o:=fun hsp=>bw ii (ry hB hn hk hr hro ⟨by simp;omega,fun z hz=>by
   rcases V8.1 hz with hz|hz
   ·exact h2.eO z hz
   ·rw[V1.1 hz];exact hs⟩ hsp (by simp;omega))
  unfold iI
  refine au ii (ar (fun h0=> ?_) fun h0=>hadd ?_)
  ·refine aX ii ii fun p hp hpm=>aq (hn p.hi (by have:=h2.eO p hpm;omega) (by have:=h2.eO p hpm;omega)) fun q hq=> ?_
   rw[show((out.length:Int)-1).toNat=out.length-1 by omega] at hp
   refine ar (fun _=> ?_) fun h5=>hadd (h2'.push hp ii hso)
   refine aX ii ii fun p' hp' hpm'=>Am ii ii fun z hz hzm=> ?_
   rw[show((out.length:Int)-1).toNat=out.length-1 by omega] at hp' hz⊢
   rw[hp] at hp' hz
   cases hp'
   cases hz
   have key: -B<=mx p.hi s.hi/\mx p.hi s.hi<=B/\p.hi<=mx p.hi s.hi:=by
    have g1:=h2.eO p hzm
    unfold mx;split<;>omega
   refine ry hB hn hk hr hro ⟨by rw[Wb];exact h2.len,fun y hy=> ?_⟩ (h2'.last hp key.2.2) (by rw[Wb];omega)
   rcases WT hy with hy|rfl
   ·exact h2.eO y hy
   ·have g1:=h2.eO p hzm
    exact⟨g1.1,g1.2.1,key.1,key.2.1⟩
  ·have:out=[]:=Wn.1 ii
   subst this
   exact⟨fun z hz=>by rw[V1.1 hz];exact hso,by simp⟩
theorem vG {next:Int->Option Int} {B:Int} (hB:B<=1000000000000000000) (hn:∀x,-B<=x->x<=B->aW (next x) fun m=>x<=m) {l:List Sv.Span} {k:Nat} (hk:k<=12) (h:rU B k l) (ho:∀s∈l,s.lo<=s.hi):aW (jS next l) fun o=>rU B k o/\Sp o:=by
 have hl:=h.len
 unfold jS
 refine au ii (aq (uz (A:=fun s=>(-B<=s.lo/\s.lo<=B/\ -B<=s.hi/\s.hi<=B)/\s.lo<=s.hi) (fun x y _ _=>by
  unfold zG
  exact aq (OZ _ _) fun _ _=>aj trivial) (fun s hs=>⟨h.eO s hs,ho s hs⟩) ii) fun r ⟨g1,g2,_⟩=>au ii ?_)
 exact ry hB hn ii ⟨by omega,fun s hs=>(g2 s hs).1⟩ (fun s hs=>(g2 s hs).2) ⟨Wd _,fun s hs=>by cases hs⟩ Sp.nil (by simp;omega)
theorem AR:∀{r out:List Sv.Span} {k:Nat},k<=1000000->rU 100000000000 k out->(∀s∈out,s.lo<=s.hi)->r.length+out.length<=k->aW (LS r out) fun o=>rU 100000000000 k o/\∀s∈o,s.lo<=s.hi
 |[],out,k,_,h,h',_=>aj ⟨h,h'⟩
 |x::r,out,k,hk,h,h',hl=>by
  rw[V5] at hl
  unfold LS
  refine ar (fun h0=>bw ii ?_) fun _=>AR hk h h' ii
  refine AR hk ⟨by simp;omega,fun z hz=> ?_⟩ (fun z hz=> ?_) (by simp;omega)
  rotate_left
  ·rcases V8.1 hz with hz|hz
   ·exact h' z hz
   ·rw[V1.1 hz];exact h0
  rcases V8.1 hz with hz|hz
  ·exact h.eO z hz
  ·rw[V1.1 hz]
   have g1: -100000000000<=mx x.lo (-100000000000):=by unfold mx;split<;>omega
   have g2:mn x.hi 100000000000<=100000000000:=by unfold mn;split<;>omega
   exact⟨g1,X5 h0 g2,X5 g1 h0,g2⟩
theorem Mr {n:Int} (h1: -1000000000000000<=n) (h2:n<9223372036854775808):aW (Cu n) fun m=>n<=m:=by
 unfold Cu
 refine ar (fun h=>au ⟨by omega,?_⟩ (aj ii)) fun _=>aj (Wv _)
 by_cases e:n=9223372036854775807
 ·subst e
  exact absurd h (by decide)
 ·omega
theorem Mt {n:Int} (h1: -9223372036854775808<=n) (h2:n<=1000000000000000):aW (As n) fun m=>m<=n:=by
 unfold As
 refine ar (fun h=>au ⟨?_,by omega⟩ (aj ii)) fun _=>aj (Wv _)
 by_cases e:n= -9223372036854775808
 ·subst e
  exact absurd h (by decide)
 ·omega
theorem AT:∀{r out:List Sv.Span} {k:Nat},k<=1000000->tk k r->rU 1000000000000000 k out->(∀s∈out,s.lo<=s.hi)->r.length+out.length<=k->aW (LU r out) fun o=>rU 1000000000000000 k o/\∀s∈o,s.lo<=s.hi
 |[],out,k,_,_,h,h',_=>aj ⟨h,h'⟩
 |x::r,out,k,hk,hi,h,h',hl=>by
  rw[V5] at hl
  have hx:=hi.2 x (V0 ..)
  have hr:tk k r:=⟨by omega,fun s hs=>hi.2 s (VX _ hs)⟩
  unfold LU
  refine aq (Mr (n:=mx x.lo (-1000000000000000)) (by unfold mx;split<;>omega) (by unfold mx;split<;>omega)) fun lo hlo=> ?_
  refine aq (Mt (n:=mn x.hi 1000000000000000) (by unfold mn;split<;>omega) (by unfold mn;split<;>omega)) fun hi' hhi=> ?_
  have g1: -1000000000000000<=lo:=X5 (by unfold mx;split<;>omega) hlo
  have g2:hi'<=1000000000000000:=X5 hhi (by unfold mn;split<;>omega)
  refine ar (fun h0=>bw ii ?_) fun _=>AT hk hr h h' ii
  refine AT hk hr ⟨by simp;omega,fun z hz=> ?_⟩ (fun z hz=> ?_) (by simp;omega)
  rotate_left
  ·rcases V8.1 hz with hz|hz
   ·exact h' z hz
   ·rw[V1.1 hz];exact h0
  rcases V8.1 hz with hz|hz
  ·exact h.eO z hz
  ·rw[V1.1 hz]
   show -1000000000000000<=lo/\lo<=_/\ -1000000000000000<=hi'/\hi'<=_
   omega
structure NB (k:Nat) (n:cL):Prop where
 i:rU 100000000000 k n.ints
 f:rU 1000000000000000 k n.bC
 si:Sp n.ints
 sf:Sp n.bC
structure oA (k:Nat) (n:cL):Prop where
 i:tk k n.ints
 f:tk k n.bC
theorem NB.i64 {k:Nat} {n:cL} (h:NB k n):oA k n:=⟨h.i.HT ii,h.f.HT ii⟩
theorem yt {n:Int} (h1: -1000000000000<=n) (h2:n<=1000000000000):aW (whole n) fun m=>m=n+1:=by
 unfold whole
 exact au ⟨by omega,by omega⟩ (aj rfl)
theorem Pr {n:Int} (h1: -1000000000000<=n) (h2:n<=1000000000000):aW (back n) fun m=>m=n-1:=by
 unfold back
 exact au ⟨by omega,by omega⟩ (aj rfl)
theorem zX {n:Int} (h1: -10000000000000000<=n) (h2:n<=10000000000000000):aW (after n) fun m=>n<m/\m<=n+2:=by
 unfold after
 exact au ⟨by omega,by omega⟩ (ar (fun _=>au ⟨by omega,by omega⟩ (aj ⟨by omega,by omega⟩)) fun _=>aj ⟨by omega,by omega⟩)
theorem G6 {n:Int} (h1: -10000000000000000<=n) (h2:n<=10000000000000000):aW (before n) fun m=>n-2<=m/\m<n:=by
 unfold before
 exact au ⟨by omega,by omega⟩ (ar (fun _=>au ⟨by omega,by omega⟩ (aj ⟨by omega,by omega⟩)) fun _=>aj ⟨by omega,by omega⟩)
theorem ey {k:Nat} (hk:k<=12) {s:cL} (h:oA k s):aW (fZ s) (NB k):=by
 have h1:=h.i.1
 have h2:=h.f.1
 have nil:∀B,rU B k []:=fun B=>⟨Wd _,fun s hs=>by cases hs⟩
 unfold fZ
 refine au ii (aq (AR (k:=k) ii (nil _) (fun s hs=>by cases hs) (by simp;omega)) fun i ⟨hi,hio⟩=>au ii (aq (AT (k:=k) ii h.f (nil _) (fun s hs=>by cases hs) (by simp;omega)) fun f ⟨hf,hfo⟩=> ?_))
 refine aq (vG ii (fun x h1 h2=>(yt ii ii).mono fun _ h=>by omega) hk hi hio) fun i' ⟨hi',hi2⟩=>aq (vG ii (fun x h1 h2=>(zX ii ii).mono fun _ h=>by omega) hk hf hfo) fun f' ⟨hf',hf2⟩=>aj ⟨hi',hf',hi2,hf2⟩
def ov (x y:Sv.Span):Bool:=decide (mx x.lo y.lo<=mn x.hi y.hi)
def OR (a b:List Sv.Span):Nat:=(a.map fun x=>b.countP (ov x)).sum
theorem mQ (x:Sv.Span) (a b:List Sv.Span):OR (x::a) b=b.countP (ov x)+OR a b:=by simp[OR]
theorem Sx (a:List Sv.Span) (y:Sv.Span) (b:List Sv.Span):OR a (y::b)=a.countP (fun x=>ov x y)+OR a b:=by
 induction a with
 |nil=>rfl
 |cons x a ih=>
  rw[mQ,mQ,ih,XL,XL]
  omega
theorem To {x y:Sv.Span} (h:x.hi<y.lo\/y.hi<x.lo):ov x y=false:=by
 unfold ov
 rw[decide_eq_false_iff_not]
 intro h1
 have g1:x.lo<=mx x.lo y.lo/\y.lo<=mx x.lo y.lo:=by unfold mx;split<;>omega
 have g2:mn x.hi y.hi<=x.hi/\mn x.hi y.hi<=y.hi:=by unfold mn;split<;>omega
 omega
theorem Sp.tail {x:Sv.Span} {l:List Sv.Span} (h:Sp (x::l)):Sp l:=⟨fun s hs=>h.ord s (VX _ hs),(WO.1 h.pw).2⟩
theorem GQ:∀(n:Nat) {a b:List Sv.Span},a.length+b.length<=n->Sp a->Sp b->OR a b<=a.length+b.length
 |_,[],b,_,_,_=>Wd _
 |_,x::a,[],_,_,_=>by
  have:OR (x::a) []=0:=by
   unfold OR
   generalize x::a=l
   induction l with
   |nil=>rfl
   |cons z l ih=>rw[WM,List.sum_cons,ih];rfl
  rw[this]
  exact Wd _
 |0,x::a,y::b,h,_,_=>by simp at h
 |n+1,x::a,y::b,h,ha,hb=>by
  rw[V5,V5] at*
  have hb':∀z∈b,y.hi<z.lo:=(WO.1 hb.pw).1
  have ha':∀z∈a,x.hi<z.lo:=(WO.1 ha.pw).1
  have hy:=hb.ord y (V0 ..)
  have hx:=ha.ord x (V0 ..)
  have i1:=GQ n (a:=a) (b:=y::b) (by rw[V5];omega) ha.tail hb
  have i2:=GQ n (a:=x::a) (b:=b) (by rw[V5];omega) ha hb.tail
  rw[V5] at i1 i2
  by_cases h1:x.hi<=y.hi
  ·have:(y::b).countP (ov x)<=1:=by
    rw[XL]
    have:b.countP (ov x)=0:=List.countP_eq_zero.2 fun z hz=>by rw[To (.inl (by have:=hb' z hz;omega))];decide
    split<;>omega
   rw[mQ]
   omega
  ·have:(x::a).countP (fun x=>ov x y)<=1:=by
    rw[XL]
    have:a.countP (fun x=>ov x y)=0:=List.countP_eq_zero.2 fun z hz=>by
     show¬ov z y=true
     rw[To (.inr (by have:=ha' z hz;omega))];decide
    split<;>omega
   rw[Sx]
   omega
theorem rN {B:Int} {x:Sv.Span} (hx: -B<=x.lo/\x.lo<=B/\ -B<=x.hi/\x.hi<=B):∀{r out:List Sv.Span},(∀s∈r,-B<=s.lo/\s.lo<=B/\ -B<=s.hi/\s.hi<=B)->(∀s∈out,-B<=s.lo/\s.lo<=B/\ -B<=s.hi/\s.hi<=B)->r.length+out.length<1000000000->aW (oN x r out) fun o=>o.length=out.length+r.countP (ov x)/\∀s∈o,-B<=s.lo/\s.lo<=B/\ -B<=s.hi/\s.hi<=B
 |[],out,_,h,_=>aj ⟨rfl,h⟩
 |y::r,out,hr,h,hl=>by
  rw[V5] at hl
  have hy:=hr y (V0 ..)
  have hr':=fun s hs=>hr s (VX _ hs)
  unfold oN
  refine ar (fun h0=>bw ii ?_) fun h0=> ?_
  ·refine(rN hx (r:=r) hr' (fun s hs=> ?_) (by simp;omega)).mono fun o ⟨g1,g2⟩=>⟨?_,g2⟩
   ·rcases V8.1 hs with hs|hs
    ·exact h s hs
    ·rw[V1.1 hs]
     have g1: -B<=mx x.lo y.lo/\mx x.lo y.lo<=B:=by unfold mx;split<;>omega
     have g2: -B<=mn x.hi y.hi/\mn x.hi y.hi<=B:=by unfold mn;split<;>omega
     exact⟨g1.1,g1.2,g2.1,g2.2⟩
   ·have:ov x y=true:=by unfold ov;exact Xd h0
    rw[g1,XL,this]
    simp
    omega
  ·refine(rN hx (r:=r) hr' h ii).mono fun o ⟨g1,g2⟩=>⟨?_,g2⟩
   have:ov x y=false:=by unfold ov;exact Xu h0
   rw[g1,XL,this]
   simp
theorem OQ {B:Int} {b:List Sv.Span} {k:Nat} (hb:rU B k b) (hk:k<=1000) (r:List Sv.Span):∀(out:List Sv.Span),(∀s∈r,-B<=s.lo/\s.lo<=B/\ -B<=s.hi/\s.hi<=B)->(∀s∈out,-B<=s.lo/\s.lo<=B/\ -B<=s.hi/\s.hi<=B)->out.length+OR r b<900000000->aW (Bp b r out) fun o=>o.length=out.length+OR r b/\∀s∈o,-B<=s.lo/\s.lo<=B/\ -B<=s.hi/\s.hi<=B:=by
 induction r with
 |nil=>
  intro out _ h _
  exact aj ⟨by simp[OR],h⟩
 |cons x r ih=>
  intro out hr h hl
  rw[mQ] at hl
  have hbl:=hb.len
  unfold Bp
  refine au ii (aq (rN (hr x (V0 ..)) hb.eO h ii) fun o ⟨g1,g2⟩=> ?_)
  have hcp:b.countP (ov x)<=b.length:=List.countP_le_length
  refine(ih o (fun s hs=>hr s (VX _ hs)) g2 ii).mono fun q ⟨h1,h2⟩=>⟨?_,h2⟩
  rw[h1,g1,mQ]
  omega
theorem wo {B:Int} {a b:List Sv.Span} {k m:Nat} (ha:rU B k a) (hb:rU B m b) (hk:k<=1000) (hm:m<=1000) (sa:Sp a) (sb:Sp b):aW (jK a b) (rU B (k+m)):=by
 have h1:=ha.len
 have h2:=hb.len
 unfold jK
 have hc:=GQ _ (V2 _) sa sb
 refine au ii ((OQ hb hm a [] ha.eO (fun s hs=>by cases hs) (by rw[WA];omega)).mono fun o ⟨g1,g2⟩=>⟨?_,g2⟩)
 rw[g1,WA]
 omega
theorem sI {b:List Sv.Span}:∀{r:List Sv.Span} {i:Nat},i+r.length=b.length->aW (iP b r i) fun t=>t=true->r=b.drop i
 |[],i,h=>aj fun _=>by
  rw[WA] at h
  exact(WJ ii).symm
 |x::r,i,h=>by
  rw[V5] at h
  unfold iP
  refine aX ii ii fun y hy hm=>ar (fun h1=> ?_) fun _=>aj fun h=>by cases h
  have e1:((i:Int)+1)=((i+1:Nat):Int):=by omega
  rw[e1]
  refine(sI (r:=r) (i:=i+1) ii).mono fun t h2 h3=> ?_
  rw[show((i:Int)).toNat=i by omega] at hy
  have hi:i<b.length:=by omega
  have hxy:x=y:=by
   unfold FW at h1
   simp only[Wa,WY,and_true] at h1
   cases x
   cases y
   simp only at h1
   rw[h1.1,h1.2]
  rw[Wo hi,h2 h3,hxy]
  rw[VV hi] at hy
  cases hy
  rfl
theorem jH {a b:List Sv.Span} (h:a.length<=1000000000):aW (fH a b) fun t=>t=true->a=b:=by
 unfold fH
 exact ar (fun h1=>au h (sI (r:=a) (i:=0) ii)) fun _=>aj fun h=>by cases h
theorem yG {a b:cL} {k:Nat} (hk:k<=12) (h:oA k a):aW (yH a b) fun t=>t=true->a=b:=by
 have h1:=h.i.1
 have h2:=h.f.1
 unfold yH
 refine aq (jH ii) fun p hp=>ar (fun h3=>(jH ii).mono fun t ht e=> ?_) fun _=>aj fun h=>by cases h
 have g1:=hp h3
 have g2:=ht e
 cases a
 cases b
 simp only at g1 g2
 rw[g1,g2]
theorem uq {a:cL} {k:Nat} (hk:k<=12) (h:oA k a):aW (kU a) fun t=>t=true->NB k a:=by
 unfold kU
 exact aq (ey hk h) fun b hb=>(yG hk h).mono fun t ht e=>by rw[ht e];exact hb
theorem Px {a b:cL} {k m:Nat} (hkm:k+m<=12) (ha:oA k a) (hb:oA m b):aW (He a b) (NB (k+m)):=by
 unfold He
 refine aq (ey ii ha) fun x hx=>aq (ey ii hb) fun y hy=> ?_
 refine aq (wo hx.i hy.i ii ii hx.si hy.si) fun i hi=>aq (wo hx.f hy.f ii ii hx.sf hy.sf) fun f hf=> ?_
 exact ey hkm ⟨hi.HT ii,hf.HT ii⟩
theorem rM {α:Type} {a b:List α} (h:a.length+b.length<1000000000):aW (kJ a b) fun r=>r=a++b:=by
 unfold kJ
 rw[HP h]
 exact aj rfl
theorem tk.app {k m:Nat} {a b:List Sv.Span} (ha:tk k a) (hb:tk m b):tk (k+m) (a++b):=⟨by rw[V7];have:=ha.1;have:=hb.1;omega,fun s hs=>by
 rcases V8.1 hs with hs|hs
 ·exact ha.2 s hs
 ·exact hb.2 s hs⟩
theorem Re {a b:cL} {k m:Nat} (hkm:k+m<=12) (ha:oA k a) (hb:oA m b):aW (orN a b) (NB (k+m)):=by
 have h1:=ha.i.1
 have h2:=ha.f.1
 have h3:=hb.i.1
 have h4:=hb.f.1
 unfold orN
 refine aq (rM ii) fun i hi=>aq (rM ii) fun f hf=> ?_
 subst hi hf
 exact ey hkm ⟨ha.i.app hb.i,ha.f.app hb.f⟩
theorem vQ {next prev:Int->Option Int} {B:Int} (hB:B<=1000000000000000000) (hn:∀x,-B<=x->x<=B->aW (next x) fun m=> -B-2<=m/\m<=B+2) (hp:∀x,-B<=x->x<=B->aW (prev x) fun m=> -B-2<=m/\m<=B+2) {hi:Int} (hhi: -B<=hi/\hi<=B) {k:Nat} (hk:k<=1000):
  ∀{r:List Sv.Span} {lo:Int} {out:List Sv.Span},(∀s∈r,-B<=s.lo/\s.lo<=B/\ -B<=s.hi/\s.hi<=B)-> -B-2<=lo/\lo<=B+2->rU (B+2) k out->r.length+1+out.length<=k->aW (rE next prev hi r lo out) (rU (B+2) k)
 |[],lo,out,_,hlo,ho,hl=>by
  unfold rE
  refine ar (fun h0=>qX ii ⟨by simp;simp at hl;omega,fun z hz=> ?_⟩) fun _=>aj ho
  rcases V8.1 hz with hz|hz
  ·exact ho.eO z hz
  ·rw[V1.1 hz]
   show -(B+2)<=lo/\lo<=B+2/\ -(B+2)<=hi/\hi<=B+2
   omega
 |s::r,lo,out,hr,hlo,ho,hl=>by
  rw[V5] at hl
  have hs:=hr s (V0 ..)
  have hr':=fun s hs=>hr s (VX _ hs)
  unfold rE
  refine aq (hp s.lo hs.1 hs.2.1) fun h hh=>ar (fun h0=>bw ii ?_) fun _=> ?_
  ·refine aq (hn s.hi hs.2.2.1 hs.2.2.2) fun l hl'=>vQ hB hn hp hhi hk hr' hl' ⟨by simp;omega,fun z hz=> ?_⟩ (by simp;omega)
   rcases V8.1 hz with hz|hz
   ·exact ho.eO z hz
   ·rw[V1.1 hz]
    show -(B+2)<=lo/\lo<=B+2/\ -(B+2)<=h/\h<=B+2
    omega
  ·exact aq (hn s.hi hs.2.2.1 hs.2.2.2) fun l hl'=>vQ hB hn hp hhi hk hr' hl' ho ii
theorem zE {next prev:Int->Option Int} {B:Int} (hB:B<=1000000000000000000) (hn:∀x,-B<=x->x<=B->aW (next x) fun m=> -B-2<=m/\m<=B+2) (hp:∀x,-B<=x->x<=B->aW (prev x) fun m=> -B-2<=m/\m<=B+2) {l:List Sv.Span} {all:Sv.Span} (ha: -B<=all.lo/\all.lo<=B/\ -B<=all.hi/\all.hi<=B) {k:Nat} (hk:k<=100) (h:rU B k l):aW (oO next prev l all) (rU (B+2) (k+1)):=by
 have hl:=h.len
 unfold oO Oj
 rw[VY]
 refine au ii (aq (vQ hB hn hp ha.2.2 (k:=k+1) ii h.eO ii ⟨Wd _,fun s hs=>by cases hs⟩ (by simp;omega)) fun r hr=>aj hr)
theorem Nw {a:cL} {k:Nat} (hk:k<=11) (h:oA k a):aW (Gk a) (NB (k+1)):=by
 unfold Gk LG DK zg
 refine aq (ey ii h) fun x hx=> ?_
 rw[VU,VU]
 refine aX (Wv _) (by simp) fun ai hai _=> ?_
 cases hai
 rw[VU]
 refine aq (zE (B:=100000000000) ii (fun x h1 h2=>(yt ii ii).mono fun m hm=>by omega) (fun x h1 h2=>(Pr ii ii).mono fun m hm=>by omega) (all:=⟨-100000000000,100000000000⟩) (by decide) ii hx.i) fun i hi=> ?_
 refine aX (Wv _) (by simp) fun af haf _=> ?_
 cases haf
 rw[VU]
 refine aq (zE (B:=1000000000000000) ii (fun x h1 h2=>(zX ii ii).mono fun m hm=>by omega) (fun x h1 h2=>(G6 ii ii).mono fun m hm=>by omega) (all:=⟨-999999999999999,999999999999999⟩) (by decide) ii hx.f) fun f hf=> ?_
 exact ey ii ⟨hi.HT ii,hf.HT ii⟩
theorem k9 {a b:cL} {k m:Nat} (hkm:k+m<=11) (ha:oA k a) (hb:oA m b):aW (ld a b) (NB (k+m+1)):=by
 unfold ld
 exact aq (Nw ii hb) fun c hc=>(Px ii ha hc.i64).mono fun r hr=>hr
theorem vi {u v:Int} (hu: -1000000000000000000<=u/\u<=1000000000000000000) (hv: -1000000000000000000<=v/\v<=1000000000000000000):aW (rk u v) fun _=>True:=by
 unfold rk
 exact au ⟨by omega,by omega⟩ (au ⟨by omega,by omega⟩ (ar (fun _=>aj trivial) fun _=>ar (fun _=>aj trivial) fun _=>aj trivial))
def LB (p:Int×Bool):Prop:= -1000000000000000<=p.1/\p.1<=1000000000000000
theorem Cp {u best:Int} {found:Bool} (hu: -1000000000000000<=u/\u<=1000000000000000) (hb: -1000000000000000<=best/\best<=1000000000000000):aW (take u best found) LB:=by
 unfold take
 exact ar (fun _=>aq (vi ii ii) fun c _=>ar (fun _=>aj hu) fun _=>aj hb) fun _=>aj hu
theorem sx {s:Sv.Span} {m B:Int} (hs: -B<=s.lo/\s.lo<=B/\ -B<=s.hi/\s.hi<=B) (hm: -B<=m/\m<=B):aW (nearest s m) fun x=> -B<=x/\x<=B:=by
 unfold nearest
 exact ar (fun _=>aj ⟨hs.1,hs.2.1⟩) fun _=>ar (fun _=>aj hs.2.2) fun _=>aj hm
theorem Dz:∀{l:List Sv.Span} {best:Int} {found:Bool},(∀s∈l,-100000000000<=s.lo/\s.lo<=100000000000/\ -100000000000<=s.hi/\s.hi<=100000000000)->LB (best,found)->aW (A4 l best found) LB
 |[],best,found,_,h=>aj h
 |y::r,best,found,hl,h=>by
  unfold A4
  refine aq (sx (B:=100000000000) (hl y (V0 ..)) ii) fun n hn=>au ⟨by omega,by omega⟩ (aq (Cp ii h) fun p hp=>Dz (fun s hs=>hl s (VX _ hs)) hp)
theorem Dx:∀{l:List Sv.Span} {best:Int} {found:Bool},(∀s∈l,-1000000000000000<=s.lo/\s.lo<=1000000000000000/\ -1000000000000000<=s.hi/\s.hi<=1000000000000000)->LB (best,found)->aW (A3 l best found) LB
 |[],best,found,_,h=>aj h
 |y::r,best,found,hl,h=>by
  unfold A3
  refine aq (sx (B:=1000000000000000) (hl y (V0 ..)) ii) fun n hn=>aq (Cp hn h) fun p hp=>Dx (fun s hs=>hl s (VX _ hs)) hp
theorem pe {s:cL} {k:Nat} (hk:k<=12) (h:oA k s):aW (lk s) LB:=by
 unfold lk
 refine aq (ey hk h) fun x hx=> ?_
 have h1:=hx.i.len
 have h2:=hx.f.len
 exact au ii (aq (Dz hx.i.eO (by unfold LB;decide)) fun p hp=>au ii (Dx hx.f.eO hp))
theorem OX {a b:cL} {k m:Nat} (hkm:k+m<=11) (ha:oA k a) (hb:oA m b):aW (OY a b) fun _=>True:=by
 unfold OY
 refine aq (k9 hkm ha hb) fun x hx=>aq (pe ii hx.i64) fun p hp=>aq (k9 ii hb ha) fun y hy=>aq (pe ii hy.i64) fun q hq=> ?_
 unfold LB at hp hq
 exact ar (fun _=>ar (fun _=>aq (vi ii ii) fun c _=>ar (fun _=>aj trivial) fun _=>aj trivial) fun _=>aj trivial) fun _=>ar (fun _=>aj trivial) fun _=>aj trivial
structure SB (k n:Nat) (s:bM):Prop where
 i:tk k s.ints
 f:tk k s.bC
 a:AB n s.strs
structure SG (k n:Nat) (s:bM):Prop where
 nb:NB k ⟨s.ints,s.bC⟩
 a:Gd n s.strs
theorem SG.sb {k n:Nat} {s:bM} (h:SG k n s):SB k n s:=⟨h.nb.i.HT ii,h.nb.f.HT ii,h.a.toAB⟩
theorem SB.mono {k n k' n':Nat} {s:bM} (h:SB k n s) (hk:k<=k') (hn:n<=n'):SB k' n' s:=⟨⟨Wq h.i.1 hk,h.i.2⟩,⟨Wq h.f.1 hk,h.f.2⟩,h.a.mono hn⟩
theorem tk.nil (k:Nat):tk k []:=⟨Wd _,fun s h=>by cases h⟩
theorem NB.nil (k:Nat):NB k ⟨[],[]⟩:=⟨⟨Wd _,fun s h=>by cases h⟩,⟨Wd _,fun s h=>by cases h⟩,Sp.nil,Sp.nil⟩
theorem jc (k n:Nat):SG k n et:=⟨NB.nil k,Gd.nil n⟩
theorem kT {k n:Nat} (hk:k<=12) (hn:n<400000000) {s:bM} (h:SB k n s):aW (je s) fun b=>b=true->SG k n s:=by
 unfold je
 refine aq (uq hk ⟨h.i,h.f⟩) fun c hc=>ar (fun h1=>(iU h.a ii).mono fun b hb e=>⟨hc h1,hb e⟩) fun _=>aj fun h=>by cases h
theorem kE {k n:Nat} (hk:k<=12) (hn:n<400000000) {s:bM} (h:SB k n s):aW (qu s) fun r=>SG k n r/\r.strs.length<=s.strs.length:=by
 unfold qu
 exact aq (kT hk hn h) fun c hc=>ar (fun h1=>aj ⟨hc h1,V2 _⟩) fun _=>aj ⟨jc k n,Wd _⟩
theorem ON {k n:Nat} (hk:k<=12) (hn:n<=18000) {s:bM} (h:SB k n s):aW (orS s et) fun r=>SB k n r:=by
 unfold orS combine
 refine aq (kE hk ii h) fun a ⟨ha,_⟩=>aq (kE (k:=0) (n:=0) ii ii (jc 0 0).sb) fun b ⟨hb,hbl⟩=> ?_
 refine aq (tD _ _) fun x _=>aq (tD _ _) fun y _=>aq (tD _ _) fun z _=> ?_
 have hb0:b.strs=[]:=Wn.1 (Yh.1 hbl)
 refine aq (Re (k:=k) (m:=0) ii ⟨ha.sb.i,ha.sb.f⟩ ⟨hb.sb.i,hb.sb.f⟩) fun m hm=> ?_
 rw[hb0]
 refine aq (AI ha.a.toAB (AB.nil n) ii) fun l ⟨hl,hll⟩=>aj ?_
 refine⟨hm.i.HT ii,hm.f.HT ii,⟨Wq (hll rfl) ha.a.len,hl.row,hl.eb⟩⟩
theorem Gm {k m n:Nat} (hkm:k+m<=11) (hn:n<=18000) {s t:bM} (hs:SB k n s) (ht:SB m n t):aW (pa s t) fun r=>SB (k+m+1) 399999999 r:=by
 unfold pa combine
 refine aq (kE ii ii hs) fun a ⟨ha,_⟩=>aq (kE ii ii ht) fun b ⟨hb,_⟩=> ?_
 refine aq (lf _ _) fun x _=>aq (lf _ _) fun y _=>aq (lf _ _) fun z _=> ?_
 refine aq (k9 hkm ⟨ha.sb.i,ha.sb.f⟩ ⟨hb.sb.i,hb.sb.f⟩) fun q hq=> ?_
 refine aq (pb ha.a.toAB hb.a.toAB ii) fun l hl=>aj ?_
 have:=mw ha.a.len hb.a.len (n:=n) ii
 exact⟨hq.i.HT ii,hq.f.HT ii,hl.toAB.mono ii⟩
structure LD (n:Nat) (d:bA):Prop where
 eq:d=jv d.c.kind d.c.num d.c.str
 num: -1000000000000000<=d.c.num/\d.c.num<=1000000000000000
 str:d.c.str.length<=n
theorem LD.of {n:Nat} {k m:Int} {s:List UInt8} (h1: -1000000000000000<=m/\m<=1000000000000000) (h2:s.length<=n):LD n (jv k m s):=⟨rfl,h1,h2⟩
theorem pd {k n:Nat} (hk:k<=12) (hn:n<400000000) {s:bM} (h:SB k n s):aW (mH s) fun r=>LD n r.1:=by
 unfold mH
 refine aq (kE hk hn h) fun a ⟨ha,_⟩=>aq (pe hk ⟨ha.sb.i,ha.sb.f⟩) fun p hp=>aq (pf ha.a.toAB hn) fun q hq=> ?_
 have z:∀k m:Int,-1000000000000000<=m/\m<=1000000000000000->LD n (jv k m []):=fun k m h=>LD.of h (Wd _)
 exact ar (fun _=>aj (z _ _ (by decide))) fun _=>ar (fun _=>aj (z _ _ (by decide))) fun _=>ar (fun _=>aj (z _ _ (by decide))) fun _=>ar (fun _=>aj (z _ _ hp)) fun _=>ar (fun _=>aj (LD.of (by decide) hq)) fun _=>aj (z _ _ (by decide))
theorem px {k n:Nat} (hk:k<=12) (hn:n<400000000) {s:bM} (h:SB k n s):aW (lA s) fun _=>True:=by
 unfold lA
 exact aq (pd hk hn h) fun p _=>aj trivial
theorem rZ {k m n:Nat} (hkm:k+m<=11) (hn:n<=18000) {s t:bM} (hs:SB k n s) (ht:SB m n t):aW (fE s t) fun _=>True:=by
 unfold fE
 exact aq (Gm hkm hn hs ht) fun r hr=>px ii ii hr
theorem zH {k m n:Nat} (hkm:k+m<=11) (hn:n<=18000) {a b:bM} (ha:SB k n a) (hb:SB m n b):aW (wy a b) fun _=>True:=by
 have tri_tot:∀{x y:Bool} {z:Option Int},aW z (fun _=>True)->aW (tri x y z) fun _=>True:=fun{x y z} h=>by
  unfold tri
  exact ar (fun _=>aj trivial) fun _=>ar (fun _=>aj trivial) fun _=>h
 unfold wy
 refine aq (kT ii ii ha) fun x _=>ar (fun _=>aq (kT ii ii hb) fun y _=>ar (fun _=> ?_) fun _=>aj trivial) fun _=>aj trivial
 exact tri_tot (tri_tot (tri_tot (aq (OX hkm ⟨ha.i,ha.f⟩ ⟨hb.i,hb.f⟩) fun c _=>ar (fun _=>wA ha.a hb.a ii) fun _=>aj trivial)))
theorem yp {s:List UInt8} (hs:s.length<1000000):∀{n i:Nat} {out:List bj},i+n=s.length->AB i out->out.length=i->aW (oD s n i out) fun o=>AB s.length o/\o.length=s.length
 |0,i,out,h,h1,h2=>aj ⟨h1.mono ii,by omega⟩
 |n+1,i,out,h,h1,h2=>by
  have e1:((i:Int)+1)=((i+1:Nat):Int):=by omega
  unfold oD
  refine aX ii ii fun b hb _=>bw ii ?_
  rw[e1]
  have hbb:=b.toNat_lt
  refine yp hs (n:=n) (i:=i+1) ii ⟨by simp;omega,fun x hx=> ?_,fun x hx=> ?_⟩ (by simp;omega)
  ·rcases V8.1 hx with hx|hx
   ·exact h1.row x hx
   ·rw[V1.1 hx];exact Ww rfl
  ·rcases V8.1 hx with hx|hx
   ·exact h1.eb x hx
   ·rw[V1.1 hx]
    intro e he
    rw[V1.1 he]
    exact⟨by show(0:Int)<=(b.toNat:Int);omega,by show(b.toNat:Int)<256;omega,by show(0:Int)<=(b.toNat:Int);omega,by show(b.toNat:Int)<256;omega⟩
theorem yo {s:List UInt8} (hs:s.length<1000000):aW (pL s) fun o=>AB (s.length+1) o:=by
 unfold pL
 refine au ii (aq (yp hs (n:=s.length) (i:=0) (out:=[]) ii (AB.nil 0) rfl) fun o ⟨h1,h2⟩=>qX ii ⟨by simp;omega,fun x hx=> ?_,fun x hx=> ?_⟩)
 ·rcases V8.1 hx with hx|hx
  ·exact h1.row x hx
  ·rw[V1.1 hx];exact Wd _
 ·rcases V8.1 hx with hx|hx
  ·exact h1.eb x hx
  ·rw[V1.1 hx]
   intro e he
   cases he
theorem Kt (d:dt bA):aW (ku d) fun _=>True:=by
 unfold ku
 exact ar (fun _=>ar (fun _=>aj trivial) fun _=>aj trivial) fun _=>aj trivial
theorem Ks {d:dt bA} (h1:d.items.length<=1000000000) (h2:d.members.length<=1000000000):aW (kt d) fun _=>True:=by
 have o:=Kt d
 unfold kt
 refine au h1 (au h2 ?_)
 repeat' (first|exact o|exact aj trivial|refine ar (fun _=> ?_) fun _=> ?_)
theorem Kn:aW (iN ([]:List (Mem bA)) 1 1) fun _=>True:=by
 unfold iN
 rw[TP (by simp)]
 exact aj trivial
theorem vV (u:Int):aW (ya u) fun b=>b=true-> -1000000000000000<=u/\u<=1000000000000000:=by
 unfold ya
 exact ar (fun h=>aj fun e=>by have:=Wp e;omega) fun _=>aj fun h=>by cases h
theorem EL (k n:Int) (s:List UInt8):aW (mR (jv k n s)) fun _=>True:=by
 unfold mR jW
 rw[TP (by decide)]
 have h0:aW (xU (jv k n s).c) fun _=>True:=by
  have o:aW (iN (jv k n s).c.members ((jv k n s).c.members.length+1) 1) fun _=>True:=Kn
  unfold xU
  refine aq (Ks (d:=(jv k n s).c) (show([]:List bA).length<=1000000000 from Wd _) (show([]:List (Mem bA)).length<=1000000000 from Wd _)) fun ok _=>ar (fun _=> ?_) fun _=>aj trivial
  have g:(jv k n s).c.members.length<=1000000000:=show([]:List (Mem bA)).length<=1000000000 from Wd _
  refine ar (fun _=>ar (fun _=>au g o) fun _=>ar (fun _=>au g o) fun _=>aj trivial) fun _=>ar (fun _=>aq (vV _) fun ok _=>ar (fun _=>au g o) fun _=>aj trivial) fun _=>au g o
 refine aq h0 fun e _=>ar (fun _=> ?_) fun _=>aj trivial
 have hc:rQ (jv k n s).c=some []:=rfl
 rw[hc,VU]
 exact au (by simp) (aj trivial)
theorem Qz {a:Int} (h: -1000000000000000-1<=a/\a<=1000000000000000+1): -1000000000001<=a.tdiv 10000/\a.tdiv 10000<=1000000000001:=by
 rcases Int.le_total 0 a with h0|h0
 ·rw[Int.tdiv_eq_ediv_of_nonneg h0]
  omega
 ·have e:a= -(-a):=by omega
  rw[e,Int.neg_tdiv,Int.tdiv_eq_ediv_of_nonneg ii]
  omega
theorem pk {u:Int} (h: -1000000000000000-1<=u/\u<=1000000000000000+1):aW (lr u) fun m=> -1000000000002<=m/\m<=1000000000001:=by
 have:=Qz h
 unfold lr
 exact au ⟨by omega,by omega⟩ (ar (fun _=>au ⟨by omega,by omega⟩ (aj ii)) fun _=>aj ii)
theorem y9 {v:List UInt8}:∀{l:List (List UInt8)} {i:Int},aW (vJ v l i) fun _=>True
 |[],i=>aj trivial
 |x::r,i=>by
  unfold vJ
  exact ar (fun _=>aj trivial) fun _=>y9
theorem OO {l:List (List UInt8)} {v:List UInt8} (h:l.length<=1000000000):aW (K6 l v) fun _=>True:=by
 unfold K6 RO
 rw[VY]
 exact au h (aq y9 fun _ _=>aj trivial)
theorem nH {a b:Int} (ha: -1000000000000000000<=a/\a<=1000000000000000000) (hb: -1000000000000000000<=b/\b<=1000000000000000000):tk 1 [⟨a,b⟩]:=⟨V2 _,fun s hs=>by
 rw[V1.1 hs]
 show _<=a/\a<_/\_<=b/\b<_
 omega⟩
theorem wT (u:Int):aW (pD u) fun p=>NB 1 p.1:=by
 unfold pD
 refine aq (OO (Ww rfl)) fun c _=>ar (fun _=>aq (vV u) fun ok hok=>ar (fun h1=> ?_) fun _=>aj (NB.nil 1)) fun _=>aj (NB.nil 1)
 obtain⟨u1,u2⟩:=hok h1
 refine au ⟨by omega,by omega⟩ (aq (pk ii) fun f1 hf1=>aq (ey (k:=1) ii ⟨nH ii ii,nH ii ii⟩) fun less _=> ?_)
 refine au ⟨by omega,by omega⟩ (aq (pk ii) fun g hg=>au ⟨by omega,by omega⟩ (aq (pk ii) fun h hh=> ?_))
 exact aq (ey (k:=1) ii ⟨nH ii ii,nH ii ii⟩) fun one hone=>aj hone
theorem sg0 (a b c:Bool):SB 1 0 ⟨a,b,c,[],[],[]⟩:=⟨tk.nil 1,tk.nil 1,AB.nil 0⟩
theorem Nv {n:Nat} (hn:n<900000) {d:bA} (h:LD n d):aW (Gj d) fun p=>SB 1 (n+1) p.1:=by
 have hc:aW (mR d) fun _=>True:=by rw[h.eq];exact EL _ _ _
 have z:∀a b c,SB 1 (n+1) ⟨a,b,c,[],[],[]⟩:=fun a b c=>(sg0 a b c).mono (V2 _) ii
 have hr:aW (jA d.c) fun p=>SB 1 (n+1) p.1:=by
  unfold jA wU
  refine ar (fun _=>aq (wT _) fun p hp=>aj ⟨hp.i.HT ii,hp.f.HT ii,AB.nil _⟩) fun _=> ?_
  rw[VY]
  have:=h.str
  exact aq (yo ii) fun l hl=>aj ⟨tk.nil 1,tk.nil 1,hl.mono ii⟩
 unfold Gj
 refine aq hc fun e _=>ar (fun _=> ?_) fun _=>aj (z _ _ _)
 exact ar (fun _=>aj (z _ _ _)) fun _=>ar (fun _=>aj (z _ _ _)) fun _=>ar (fun _=>hr) fun _=>ar (fun _=>hr) fun _=>aj (z _ _ _)
theorem Cw {k n:Nat} (hk:k<=10) (hn:n<18000) {s:bM} (h:SB k n s):aW (kY s) fun r=>LD n r.1:=by
 have z:LD n (jv 0 0 []):=LD.of (by decide) (Wd _)
 unfold kY
 refine aq (pd ii ii h) fun p hp=>ar (fun _=>aq (Nv ii hp) fun q hq=>aq (rZ (k:=k) (m:=1) (n:=n+1) ii ii (h.mono (V2 _) ii) hq) fun c _=>ar (fun _=>aj hp) fun _=>aj z) fun _=>aj z
def enc:List Nat->List Nat->Nat
 |r::R,d::D=>d+r*enc R D
 |_,_=>0
inductive rW:List Nat->List Nat->Prop
 |nil:rW [] []
 |cons {r d:Nat} {R D:List Nat}:d<r->rW R D->rW (r::R) (d::D)
theorem Oy:∀{R D:List Nat},rW R D->enc R D<R.prod
 |_,_,.nil=>by simp[enc]
 |_,_,.cons (r:=r) (d:=d) (R:=R) (D:=D) h1 h2=>by
  have ih:=Oy h2
  show d+r*enc R D<(r::R).prod
  rw[Xi]
  have:r*(enc R D+1)<=r*R.prod:=Xp _ ih
  rw[XB,XH] at this
  omega
theorem IV:∀{R D E:List Nat},rW R D->rW R E->enc R D=enc R E->D=E
 |_,_,_,.nil,.nil,_=>rfl
 |_,_,_,.cons (r:=r) (d:=d) (R:=R) (D:=D) h1 h2,.cons (d:=e) (D:=E) g1 g2,h=>by
  have h:d+r*enc R D=e+r*enc R E:=h
  have hd:d=e:=by
   have m1:(d+r*enc R D) % r=d:=by rw[Nat.add_mul_mod_self_left,Nat.mod_eq_of_lt h1]
   have m2:(e+r*enc R E) % r=e:=by rw[Nat.add_mul_mod_self_left,Nat.mod_eq_of_lt g1]
   rw[h,m2] at m1
   exact m1.symm
  subst hd
  have he:r*enc R D=r*enc R E:=by omega
  have:=Nat.eq_of_mul_eq_mul_left ii he
  rw[IV h2 g2 this]
theorem rW.app {R D S E:List Nat} (h:rW R D) (g:rW S E):rW (R++S) (D++E):=by
 induction h with
 |nil=>exact g
 |cons h1 _ ih=>exact .cons h1 ih
inductive VK:List (cW Va)->List Int->Prop
 |nil:VK [] []
 |cons {k:cW Va} {ks:List (cW Va)} {s:Int} {v:List Int}: -1<=s->s<k.set.length->VK ks v->VK (k::ks) (s::v)
inductive VF (L:Nat):List (dy Va)->List Int->Prop
 |nil:VF L [] []
 |cons {f:dy Va} {fs:List (dy Va)} {s:Int} {v:List Int}:(s= -1\/s=L/\L<=f.label.length)->VF L fs v->VF L (f::fs) (s::v)
def yj (c:aF Va) (v:List Int):Prop:=∃a b L,v=a++b/\VK c.aw a/\L<=61/\VF L c.fields b
theorem VK.len {ks:List (cW Va)} {v:List Int} (h:VK ks v):v.length=ks.length:=by
 induction h with
 |nil=>rfl
 |cons _ _ _ ih=>simp[ih]
theorem VF.len {L:Nat} {fs:List (dy Va)} {v:List Int} (h:VF L fs v):v.length=fs.length:=by
 induction h with
 |nil=>rfl
 |cons _ _ ih=>simp[ih]
def Ek (a:List Int):List Nat:=a.map fun s=>(s+1).toNat
def OH (b:List Int):List Nat:=b.map fun s=>if s= -1 then 0 else 1
theorem VK.GK {ks:List (cW Va)} {v:List Int} (h:VK ks v):rW (ks.map fun k=>k.set.length+1) (Ek v):=by
 induction h with
 |nil=>exact .nil
 |cons h1 h2 _ ih=>exact .cons (by show(_+1:Int).toNat<_+1;omega) ih
theorem VF.GK {L:Nat} {fs:List (dy Va)} {v:List Int} (h:VF L fs v):rW (fs.map fun _=>2) (OH v):=by
 induction h with
 |nil=>exact .nil
 |cons h1 _ ih=>exact .cons (by show(if _ then 0 else 1)<2;split<;>omega) ih
theorem VK.inj {ks:List (cW Va)} {v w:List Int} (h:VK ks v) (g:VK ks w) (e:Ek v=Ek w):v=w:=by
 induction h generalizing w with
 |nil=>cases g;rfl
 |cons h1 h2 _ ih=>
  cases g with
  |cons g1 g2 g3=>
   unfold Ek at e
   rw[WM,WM] at e
   injection e with e1 e2
   rw[ih g3 e2]
   congr 1
   omega
theorem VF.inj {L:Nat} {fs:List (dy Va)} {v w:List Int} (h:VF L fs v) (g:VF L fs w) (e:OH v=OH w):v=w:=by
 induction h generalizing w with
 |nil=>cases g;rfl
 |cons h1 _ ih=>
  cases g with
  |cons g1 g3=>
   unfold OH at e
   rw[WM,WM] at e
   injection e with e1 e2
   rw[ih g3 e2]
   congr 1
   split at e1<;>split at e1<;>omega
def Q7 (c:aF Va):List Nat:=(c.aw.map fun(k:cW Va)=>k.set.length+1)++(62::c.fields.map fun(_:dy Va)=>2)
def xq (c:aF Va):Nat:=(Q7 c).prod
def Fl (c:aF Va) (v:List Int) (D:List Nat):Prop:=∃a b L,v=a++b/\VK c.aw a/\L<=61/\VF L c.fields b/\D=Ek a++(L::OH b)
theorem Fl.GK {c:aF Va} {v:List Int} {D:List Nat} (h:Fl c v D):rW (Q7 c) D:=by
 obtain⟨a,b,L,_,h1,h2,h3,rfl⟩:=h
 exact h1.GK.app (.cons ii h3.GK)
theorem Fl.inj {c:aF Va} {v w:List Int} {D:List Nat} (h:Fl c v D) (g:Fl c w D):v=w:=by
 obtain⟨a,b,L,rfl,h1,h2,h3,rfl⟩:=h
 obtain⟨a',b',L',rfl,g1,g2,g3,e⟩:=g
 have hl:(Ek a).length=(Ek a').length:=by simp[Ek,h1.len,g1.len]
 obtain⟨q1,q2⟩:=List.append_inj e hl
 injection q2 with q2 q3
 subst q2
 rw[h1.inj g1 q1,h3.inj g3 q3]
theorem FM {c:aF Va} {vs:List (List Int)} (hv:∀v∈vs,yj c v) (hn:vs.Nodup):vs.length<=xq c:=by
 have hex:∃f:List Int->List Nat,∀v,yj c v->Fl c v (f v):=⟨fun v=>open Classical in if h:∃D,Fl c v D then h.choose else[],fun v ⟨a,b,L,e,h1,h2,h3⟩=>by
  have h:∃D,Fl c v D:=⟨_,a,b,L,e,h1,h2,h3,rfl⟩
  simp only[h,dif_pos]
  exact h.choose_spec⟩
 obtain⟨f,hf⟩:=hex
 have:=iX (n:=xq c) (l:=vs.map fun v=>enc (Q7 c) (f v)) ?_ fun x hx=> ?_
 ·rwa [V4] at this
 ·rw[Xk,Yb]
  refine(Xk.1 hn).imp_of_mem fun{v w} h1 h2 hne e=>hne ?_
  have d1:=hf v (hv v h1)
  have d2:=hf w (hv w h2)
  have:=IV d1.GK d2.GK e
  rw[<-this] at d2
  exact d1.inj d2
 ·obtain⟨v,h1,rfl⟩:=WQ.1 hx
  exact Oy (hf v (hv v h1)).GK
theorem kV {α β:Type} {p q:List α} {s:α} {i:Int} {f:α->Option β} {Q:β->Prop} (hi:i=p.length) (k:aW (f s) Q):aW ((cJ (p++s::q) i).bind f) Q:=by
 refine aX ii (by simp;omega) fun x hx _=> ?_
 rw[show i.toNat=p.length by omega,Wh (V2 _),Xh] at hx
 cases hx
 exact k
theorem T3 {α:Type} (p q:List α) (s t:α):(p++s::q).set p.length t=p++t::q:=by
 rw[Yf _ _ (V2 _),Xh]
 rfl
theorem Ck {α β:Type} {p q:List α} {s t:α} {i:Int} {f:List α->Option β} {Q:β->Prop} (hi:i=p.length) (k:aW (f (p++t::q)) Q):aW ((kZ (p++s::q) i t).bind f) Q:=by
 refine fh ii (by simp;omega) ?_
 rw[show i.toNat=p.length by omega,T3]
 exact k
theorem DH:∀{r:List Int} {out:List UInt8},(∀n∈r,-1<=n/\n<1000000000)->out.length+22*r.length<=1000000->aW (A8 r out) fun _=>True
 |[],out,_,_=>aj trivial
 |n::r,out,h,hl=>by
  rw[V5] at hl
  have hn:=h n (V0 ..)
  have h4:(eE n).length<=21:=Go.Lib.itoa_length_le n ii ii
  unfold A8
  exact au ⟨by omega,by omega⟩ (au ii (DH (fun m hm=>h m (VX _ hm)) (by simp;omega)))
theorem NZ {v:List Int} (h:∀n∈v,-1<=n/\n<1000000000) (hl:v.length<=1000):aW (rv v) fun _=>True:=by
 unfold rv
 exact au ii (DH h (by simp;omega))
def KG (n:Nat) (ks:List (cW Va)):Prop:=∀k∈ks,Gd n k.set
theorem VK.eO {n:Nat} {ks:List (cW Va)} {v:List Int} (h:VK ks v) (hk:KG n ks):∀x∈v,-1<=x/\x<n:=by
 induction h with
 |nil=>intro x hx;cases hx
 |cons h1 h2 _ ih=>
  intro x hx
  rcases V9.1 hx with rfl|hx
  ·have:=(hk _ (V0 ..)).len
   omega
  ·exact ih (fun k hk'=>hk k (VX _ hk')) x hx
theorem VF.eO {L:Nat} {fs:List (dy Va)} {v:List Int} (h:VF L fs v):∀x∈v,x= -1\/x=L:=by
 induction h with
 |nil=>intro x hx;cases hx
 |cons h1 _ ih=>
  intro x hx
  rcases V9.1 hx with rfl|hx
  ·rcases h1 with h1|h1
   ·exact .inl h1
   ·exact .inr h1.1
  ·exact ih x hx
theorem BQ:∀{n i:Nat} {out:List Int},i+n=out.length->aW (Vz n i out) fun o=>o=out.take i++List.replicate n (-1)
 |0,i,out,h=>aj (by simp at h;rw[h];simp)
 |n+1,i,out,h=>by
  have hi:i<out.length:=by omega
  have e1:((i:Int)+1)=((i+1:Nat):Int):=by omega
  unfold Vz
  refine fh ii ii ?_
  rw[show((i:Int)).toNat=i by omega,e1]
  refine(BQ (n:=n) (i:=i+1) (out:=out.set i (-1)) (by rw[Wb];omega)).mono fun o ho=> ?_
  rw[ho,W6,WV]
  simp[hi,Xx,XN]
theorem tV {n:Nat} {b i:Int}:∀{es:List Sv.Edge} {p q:List Int} {s:Int},(∀e∈es,0<=e.to/\e.to<n)->i=p.length-> -1<=s->s<n->aW (E8 b i es (p++s::q)) fun o=>∃t:Int,o=p++t::q/\ -1<=t/\t<n
 |[],p,q,s,_,_,h1,h2=>aj ⟨s,rfl,h1,h2⟩
 |e::r,p,q,s,he,hi,h1,h2=>by
  have h3:=he e (V0 ..)
  have hr:=fun e' h'=>he e' (VX _ h')
  unfold E8
  exact ar (fun _=>ar (fun _=>Ck hi (tV hr hi ii h3.2)) fun _=>tV hr hi h1 h2) fun _=>tV hr hi h1 h2
theorem Jq {n:Nat} (hn:n<1000000000) {b:Int}:∀{ks:List (cW Va)} {a vp vq done rest:List Int} {i:Int},KG n ks->VK ks a->i=vp.length->i=done.length->aW (BR (vp++(a++vq)) b ks i (done++(List.replicate ks.length (-1)++rest))) fun o=>∃a',o=done++(a'++rest)/\VK ks a'
 |[],a,vp,vq,done,rest,i,_,h,_,_=>aj ⟨[],rfl,.nil⟩
 |k::ks,a,vp,vq,done,rest,i,hk,h,h1,h2=>by
  cases h with
  |cons s0 s1 h=>
   rename_i s v
   have hg:=hk k (V0 ..)
   have hks:KG n ks:=fun k' h'=>hk k' (VX _ h')
   have step:∀t:Int,-1<=t->t<k.set.length->aW (BR (vp++((s::v)++vq)) b ks (i+1) (done++t::(List.replicate ks.length (-1)++rest))) fun o=>∃a',o=done++(a'++rest)/\VK (k::ks) a':=fun t t0 t1=>by
    have e1:vp++((s::v)++vq)=(vp++[s])++(v++vq):=by simp
    have e2:done++t::(List.replicate ks.length (-1)++rest)=(done++[t])++(List.replicate ks.length (-1)++rest):=by simp
    rw[e1,e2]
    refine(Jq hn (ks:=ks) (i:=i+1) hks h (by simp;omega) (by simp;omega)).mono fun o ⟨a',q1,q2⟩=>⟨t::a',by rw[q1];simp,.cons t0 t1 q2⟩
   have e3:vp++((s::v)++vq)=vp++s::(v++vq):=by simp
   have e4:done++(List.replicate (k::ks).length (-1)++rest)=done++(-1)::(List.replicate ks.length (-1)++rest):=by simp[XN]
   rw[e4]
   unfold BR
   rw[e3]
   refine kV h1 (ar (fun _=> ?_) fun hs=> ?_)
   ·rw[<-e3]
    exact step (-1) ii ii
   ·refine aX ii s1 fun x hx hm=>au (by have:=hg.row x hm;omega) ?_
    refine aq (tV (n:=k.set.length) (fun e he=>((hg.wf x hm).one e he).2) h2 ii ii) fun o ⟨t,q1,q2,q3⟩=> ?_
    rw[q1,<-e3]
    exact step t q2 q3
theorem Js {b m:Int} {L:Nat} (hL:L<=61):∀{fs:List (dy Va)} {a vp vq done:List Int} {i:Int},(∀f∈fs,f.label.length<=60)->VF L fs a->m+i=vp.length->m+i=done.length->aW (z6 (vp++a) b m fs i (done++List.replicate fs.length (-1))) fun o=>∃a',o=done++a'/\VF (L+1) fs a'
 |[],a,vp,vq,done,i,_,h,_,_=>aj ⟨[],by simp,.nil⟩
 |f::fs,a,vp,vq,done,i,hf,h,h1,h2=>by
  cases h with
  |cons s0 h=>
   rename_i s v
   have hl:=hf f (V0 ..)
   have hfs:∀f∈fs,f.label.length<=60:=fun f' h'=>hf f' (VX _ h')
   have step:∀t:Int,(t= -1\/t=(L+1:Nat)/\L+1<=f.label.length)->aW (z6 (vp++s::v) b m fs (i+1) (done++t::List.replicate fs.length (-1))) fun o=>∃a',o=done++a'/\VF (L+1) (f::fs) a':=fun t ht=>by
    have e1:vp++s::v=(vp++[s])++v:=by simp
    have e2:done++t::List.replicate fs.length (-1)=(done++[t])++List.replicate fs.length (-1):=by simp
    rw[e1,e2]
    refine(Js hL (fs:=fs) (vq:=vq) (i:=i+1) hfs h (by simp;omega) (by simp;omega)).mono fun o ⟨a',q1,q2⟩=>⟨t::a',by rw[q1];simp,.cons ht q2⟩
   have e4:done++List.replicate (f::fs).length (-1)=done++(-1)::List.replicate fs.length (-1):=by simp[XN]
   rw[e4]
   unfold z6
   refine kV h1 (ar (fun hs=>au ii (ar (fun hlt=> ?_) fun _=>step (-1) (.inl rfl))) fun _=>step (-1) (.inl rfl))
   have hsL:s=L/\L<=f.label.length:=by
    rcases s0 with g|g
    ·omega
    ·exact g
   refine aX hs hlt fun c hc _=>ar (fun _=>au ⟨by omega,by omega⟩ (Ck h2 (step (s+1) (.inr ⟨by omega,by omega⟩)))) fun _=>step (-1) (.inl rfl)
theorem VF.zero {L:Nat} {fs:List (dy Va)} {v:List Int} (h:VF L fs v) (hf:∀f∈fs,f.label.length<=60) (hL:60<L):VF 0 fs v:=by
 induction h with
 |nil=>exact .nil
 |cons h1 _ ih=>
  have hl:=hf _ (V0 ..)
  refine .cons (.inl ?_) (ih fun f h'=>hf f (VX _ h'))
  rcases h1 with h1|h1
  ·exact h1
  ·omega
structure L0 (n:Nat) (c:aF Va):Prop where
 kl:c.aw.length<=100
 fl:c.fields.length<=100
 kg:KG n c.aw
 A6:∀f∈c.fields,f.label.length<=60
theorem E7 {n:Nat} (hn:n<1000000000) {c:aF Va} (hc:L0 n c) {v:List Int} (h:yj c v) {b:Int}:aW (rT c v b) (yj c):=by
 obtain⟨a,d,L,rfl,h1,h2,h3⟩:=h
 have l1:=h1.len
 have l2:=h3.len
 have g1:=hc.kl
 have g2:=hc.fl
 unfold rT
 refine au (by simp;omega) (aq (BQ (n:=(a++d).length) (i:=0) (out:=List.replicate (a++d).length 0) (by simp)) fun out ho=>au ii ?_)
 have ho':out=[]++(List.replicate c.aw.length (-1)++List.replicate c.fields.length (-1)):=by
  rw[ho,V7,l1,l2]
  simp[XV]
 rw[ho']
 refine aq (Jq hn (ks:=c.aw) (vp:=[]) (vq:=d) (i:=0) hc.kg h1 rfl rfl) fun o ⟨a',q1,q2⟩=>au ii ?_
 rw[q1,Xg]
 have l3:=q2.len
 refine(Js h2 (fs:=c.fields) (vp:=a) (vq:=[]) (done:=a') (i:=0) hc.A6 h3 ii ii).mono fun o ⟨d',r1,r2⟩=> ?_
 rcases WI L 61 with g|g
 ·exact⟨a',d',L+1,r1,q2,by omega,r2⟩
 ·exact⟨a',d',0,r1,q2,by omega,r2.zero hc.A6 ii⟩
theorem DU {n:Nat} (hn:n<1000000000):∀{ks:List (cW Va)} {a vp vq:List Int} {i:Int} {h:Nat},KG n ks->VK ks a->i=vp.length->h+ks.length<=1000->aW (rB (vp++(a++vq)) ks i h) fun r=>∃m:Nat,r=m/\m<=h+ks.length
 |[],a,vp,vq,i,h,_,_,_,hl=>aj ⟨h,rfl,by simp⟩
 |k::ks,a,vp,vq,i,h,hk,hv,hi,hl=>by
  rw[V5] at hl
  cases hv with
  |cons s0 s1 hv=>
   rename_i s v
   have hks:KG n ks:=fun k' h'=>hk k' (VX _ h')
   have e1:vp++((s::v)++vq)=(vp++[s])++(v++vq):=by simp
   have e3:vp++((s::v)++vq)=vp++s::(v++vq):=by simp
   have step:∀g:Nat,g<=h+1->aW (rB (vp++((s::v)++vq)) ks (i+1) g) fun r=>∃m:Nat,r=m/\m<=h+(k::ks).length:=fun g hg=>by
    rw[e1]
    exact(DU hn (ks:=ks) (i:=i+1) (h:=g) hks hv (by simp;omega) ii).mono fun r ⟨m,q1,q2⟩=>⟨m,q1,by simp;omega⟩
   unfold rB
   rw[e3]
   refine kV hi (ar (fun hs=>kV hi (aX hs s1 fun x hx hm=> ?_)) fun _=>by rw[<-e3];exact step h ii)
   rw[<-e3]
   refine ar (fun _=>au ⟨by omega,by omega⟩ ?_) fun _=>step h ii
   have:=step (h+1) (V2 _)
   simpa using this
theorem DW {m:Int}:∀{fs:List (dy Va)} {a vp:List Int} {i:Int} {h:Nat},a.length=fs.length->(∀f∈fs,f.label.length<=60)->m+i=vp.length->h+fs.length<=1000->aW (vL (vp++a) m fs i h) fun _=>True
 |[],a,vp,i,h,_,_,_,_=>aj trivial
 |f::fs,[],vp,i,h,ha,_,_,_=>by simp at ha
 |f::fs,s::v,vp,i,h,ha,hf,hi,hl=>by
  rw[V5] at hl
  have hlb:=hf f (V0 ..)
  have e1:vp++s::v=(vp++[s])++v:=by simp
  have step:∀g:Nat,g<=h+1->aW (vL (vp++s::v) m fs (i+1) g) fun _=>True:=fun g hg=>by
   rw[e1]
   exact DW (fs:=fs) (i:=i+1) (h:=g) (by simpa using ha) (fun f' h'=>hf f' (VX _ h')) (by simp;omega) ii
  unfold vL
  refine kV hi (au ii (ar (fun _=>au ⟨by omega,by omega⟩ ?_) fun _=>step h ii))
  have:=step (h+1) (V2 _)
  simpa using this
theorem Ob {n:Nat} (hn:n<1000000000) {c:aF Va} (hc:L0 n c) {v:List Int} (h:yj c v):aW (DT c v) fun _=>True:=by
 obtain⟨a,d,L,rfl,h1,h2,h3⟩:=h
 have g1:=hc.kl
 have g2:=hc.fl
 have l1:=h1.len
 unfold DT
 refine au ii (aq (DU hn (ks:=c.aw) (vp:=[]) (vq:=d) (i:=0) (h:=0) hc.kg h1 rfl ii) fun r ⟨m,q1,q2⟩=>au ii ?_)
 subst q1
 exact DW (fs:=c.fields) (a:=d) (vp:=a) (i:=0) (h:=m) h3.len hc.A6 ii ii
theorem HR:∀{es:List Sv.Edge} {a:List Bool},a.length=257->(∀e∈es,EB e)->aW (QG es a) fun r=>r.length=257
 |[],a,h,_=>aj h
 |e::r,a,h,he=>by
  obtain⟨b1,b2,b3,b4⟩:=he e (V0 ..)
  unfold QG
  exact au ⟨b3,b4⟩ (hM b1 ii h (hM ii ii (by rw[Wb];exact h) (HR (by rw[Wb,Wb];exact h) fun e' h'=>he e' (VX _ h'))))
theorem HL {n:Nat}:∀{ks:List (cW Va)} {a vp vq:List Int} {i:Int} {t:List Bool},KG n ks->VK ks a->i=vp.length->t.length=257->aW (LR (vp++(a++vq)) ks i t) fun r=>r.length=257
 |[],a,vp,vq,i,t,_,_,_,h=>aj h
 |k::ks,a,vp,vq,i,t,hk,hv,hi,ht=>by
  cases hv with
  |cons s0 s1 hv=>
   rename_i s v
   have hg:=hk k (V0 ..)
   have hks:KG n ks:=fun k' h'=>hk k' (VX _ h')
   have e1:vp++((s::v)++vq)=(vp++[s])++(v++vq):=by simp
   have e3:vp++((s::v)++vq)=vp++s::(v++vq):=by simp
   have step:∀t:List Bool,t.length=257->aW (LR (vp++((s::v)++vq)) ks (i+1) t) fun r=>r.length=257:=fun t ht=>by
    rw[e1]
    exact HL (ks:=ks) (i:=i+1) hks hv (by simp;omega) ht
   unfold LR
   rw[e3]
   refine kV hi (ar (fun _=>by rw[<-e3];exact step t ht) fun hs=>aX ii s1 fun x hx hm=>au (by have:=hg.row x hm;omega) (aq (HR ht (hg.eb x hm)) fun t' ht'=>by rw[<-e3];exact step t' ht'))
theorem HO {m:Int}:∀{fs:List (dy Va)} {a vp:List Int} {i:Int} {t:List Bool},a.length=fs.length->(∀f∈fs,f.label.length<=60)->m+i=vp.length->t.length=257->aW (JU (vp++a) m fs i t) fun r=>r.length=257
 |[],a,vp,i,t,_,_,_,h=>aj h
 |f::fs,[],vp,i,t,ha,_,_,_=>by simp at ha
 |f::fs,s::v,vp,i,t,ha,hf,hi,ht=>by
  have hlb:=hf f (V0 ..)
  have e1:vp++s::v=(vp++[s])++v:=by simp
  have step:∀t:List Bool,t.length=257->aW (JU (vp++s::v) m fs (i+1) t) fun r=>r.length=257:=fun t ht=>by
   rw[e1]
   exact HO (fs:=fs) (i:=i+1) (by simpa using ha) (fun f' h'=>hf f' (VX _ h')) (by simp;omega) ht
  unfold JU
  refine kV hi (ar (fun hs=>au ii (ar (fun hlt=>aX hs hlt fun b _ _=> ?_) fun _=>step t ht)) fun _=>step t ht)
  have hb:=b.toNat_lt
  exact hM ii ii ht (hM ii ii (by rw[Wb];exact ht) (step _ (by rw[Wb,Wb];exact ht)))
theorem Ar {a:List Bool} (ha:a.length=257):∀{n c:Nat} {out:List Int},n+c=256->out.length<=c->aW (PX a n c out) fun r=>r.length<=256
 |0,c,out,h,h1=>aj ii
 |n+1,c,out,h,h1=>by
  have e1:((c:Int)+1)=((c+1:Nat):Int):=by omega
  unfold PX
  refine An ii ii ha fun x _=> ?_
  rw[e1]
  exact ar (fun _=>au ⟨by omega,by omega⟩ (bw ii (Ar ha ii (by simp;omega)))) fun _=>Ar ha ii ii
theorem uw {n:Nat} {c:aF Va} (hc:L0 n c) {v:List Int} (h:yj c v):aW (mc c v) fun r=>r.length<=256:=by
 obtain⟨a,d,L,rfl,h1,h2,h3⟩:=h
 have g1:=hc.kl
 have g2:=hc.fl
 have l1:=h1.len
 unfold mc
 refine au ii (aq (HL (ks:=c.aw) (vp:=[]) (vq:=d) (i:=0) (t:=Jk) hc.kg h1 rfl (by unfold Jk;rw[V5,Wc])) fun t ht=>au ii (aq (HO (fs:=c.fields) (a:=d) (vp:=a) (i:=0) h3.len hc.A6 ii ht) fun t' ht'=>Ar ht' (n:=256) (c:=0) (out:=[]) rfl (V2 _)))
theorem yj.key {n:Nat} (hn:n<1000000000) {c:aF Va} (hc:L0 n c) {v:List Int} (h:yj c v):aW (rv v) fun _=>True:=by
 obtain⟨a,d,L,rfl,h1,h2,h3⟩:=h
 have g1:=hc.kl
 have g2:=hc.fl
 have l1:=h1.len
 have l2:=h3.len
 refine NZ (fun x hx=> ?_) (by simp;omega)
 rcases V8.1 hx with hx|hx
 ·have:=h1.eO hc.kg x hx
  omega
 ·have:=h3.eO x hx
  omega
structure Met (c:aF Va) (todo:List (List Int)) (seen:List (List UInt8×Unit)) (vs:List (List Int)):Prop where
 nd:vs.Nodup
 ok:∀v∈vs,yj c v
 td:∀v∈todo,yj c v
 kn:∀v∈vs,∀k,rv v=some k->cx k seen≠none
 le:todo.length<=vs.length
theorem wD {n:Nat} (hn:n<1000000000) {c:aF Va} (hc:L0 n c) (hN:xq c<500000000) {v:List Int} (hv:yj c v):∀{bs:List Int} {todo:List (List Int)} {seen:List (List UInt8×Unit)} {vs:List (List Int)},Met c todo seen vs->aW (yd c v bs todo seen) fun p=>∃vs',Met c p.1 p.2 vs'/\vs'.length+todo.length=vs.length+p.1.length
 |[],todo,seen,vs,h=>aj ⟨vs,h,rfl⟩
 |b::r,todo,seen,vs,h=>by
  unfold yd
  refine aq (E7 hn hc hv) fun w hw=> ?_
  obtain⟨k,hk,_⟩:=hw.key hn hc
  rw[hk,VU]
  split
  ·exact wD hn hc hN hv h
  ·rename_i hf
   have hle:=FM h.ok h.nd
   have htd:=h.le
   have hnew:∀x∈vs,x≠w:=fun x hx e=>h.kn x hx k (by rw[e];exact hk) hf
   have h':Met c (todo++[w]) (seen++[(k,())]) (vs++[w]):=by
    refine⟨?_,fun x hx=> ?_,fun x hx=> ?_,fun x hx k' hk'=> ?_,by simp;omega⟩
    ·rw[XT]
     exact⟨h.nd,by simp,fun x hx y hy=>by rw[V1.1 hy];exact hnew x hx⟩
    ·rcases V8.1 hx with hx|hx
     ·exact h.ok x hx
     ·rw[V1.1 hx];exact hw
    ·rcases V8.1 hx with hx|hx
     ·exact h.td x hx
     ·rw[V1.1 hx];exact hw
    ·rcases V8.1 hx with hx|hx
     ·have:=h.kn x hx k' hk'
      cases hq:cx k' seen with
      |none=>exact absurd hq this
      |some u=>rw[vW hq];exact fun e=>by cases e
     ·rw[V1.1 hx,hk] at hk'
      cases hk'
      rw[qz hf]
      exact fun e=>by cases e
   refine bw ii ((wD hn hc hN hv (bs:=r) h').mono fun p ⟨vs',q1,q2⟩=>⟨vs',q1,?_⟩)
   rw[V7,V7,Ws] at q2
   omega
theorem EG {n:Nat} (hn:n<1000000000) {c:aF Va} (hc:L0 n c) (hN:xq c<500000000):∀{f:Nat} {todo:List (List Int)} {seen:List (List UInt8×Unit)} {vs:List (List Int)},Met c todo seen vs->xq c+1+todo.length<=f+vs.length->aW (Bu c f todo seen) fun _=>True
 |0,todo,seen,vs,h,hf=>by
  have:=FM h.ok h.nd
  omega
 |f+1,todo,seen,vs,h,hf=>by
  have hle:=FM h.ok h.nd
  have htd:=h.le
  unfold Bu
  refine au ii (ar (fun h0=> ?_) fun _=>aj trivial)
  refine aX ii ii fun v _ hm=> ?_
  have hv:=h.td v hm
  refine aq (Ob hn hc hv) fun x _=>ar (fun _=> ?_) fun _=>aj trivial
  refine aq (uw hc hv) fun bs hbs=>au ii ?_
  have hl:(todo.take (todo.length-1)).length=todo.length-1:=by rw[XY];omega
  have h':Met c (todo.take (todo.length-1)) seen vs:=⟨h.nd,h.ok,fun x hx=>h.td x (List.mem_of_mem_take hx),h.kn,by omega⟩
  refine aq (wD hn hc hN hv h') fun p ⟨vs',q1,q2⟩=>EG hn hc hN q1 ii
theorem VK.zero:∀{ks:List (cW Va)},(∀k∈ks,0<k.set.length)->VK ks (List.replicate ks.length 0)
 |[],_=> .nil
 |k::ks,h=>by
  have h0:=h k (V0 ..)
  exact .cons ii ii (VK.zero fun k' h'=>h k' (VX _ h'))
theorem VF.start:∀{fs:List (dy Va)},VF 0 fs (List.replicate fs.length 0)
 |[]=> .nil
 |f::fs=> .cons (.inr ⟨rfl,Wd _⟩) VF.start
theorem O0 {n:Nat} (hn:n<1000000000) {c:aF Va} (hc:L0 n c) (hN:xq c<500000000) (hne:∀k∈c.aw,0<k.set.length):aW (La c) fun _=>True:=by
 have g1:=hc.kl
 have g2:=hc.fl
 have hv:yj c (List.replicate (c.aw.length+c.fields.length) 0):=⟨_,_,0,by rw[XV],VK.zero hne,by omega,VF.start⟩
 obtain⟨k,hk,_⟩:=hv.key hn hc
 unfold La
 refine au ii (au ii (au ii ?_))
 rw[hk,VU]
 refine EG hn hc hN (vs:=[List.replicate (c.aw.length+c.fields.length) 0]) ⟨by simp,fun x hx=>by rw[V1.1 hx];exact hv,fun x hx=>by rw[V1.1 hx];exact hv,fun x hx k' hk'=> ?_,V2 _⟩ (by unfold I6;simp only[Ws];omega)
 rw[V1.1 hx,hk] at hk'
 cases hk'
 simp[cx]
structure SCi (n:Nat) (c:aF Va):Prop where
 kl:c.aw.length<=100
 fl:c.fields.length<=100
 ab:∀k∈c.aw,AB n k.set
 A6:∀f∈c.fields,f.label.length<=60
theorem EI {n:Nat} (hn:n<400000000) {c:aF Va} (hc:SCi n c) (hN:xq c<500000000):∀{r done:List (cW Va)},c.aw=done++r->(∀k∈done,0<k.set.length/\Gd n k.set)->aW (Bv c r) fun _=>True
 |[],done,e,h=>by
  rw[Wy] at e
  exact O0 ii ⟨hc.kl,hc.fl,fun k hk=>(h k (e▸hk)).2,hc.A6⟩ hN fun k hk=>(h k (e▸hk)).1
 |k::r,done,e,h=>by
  have hk:=hc.ab k (by rw[e];simp)
  have:=hk.len
  unfold Bv
  refine au ii (ar (fun _=>aj trivial) fun h0=>aq (iU hk ii) fun ok hok=>ar (fun h1=> ?_) fun _=>aj trivial)
  refine EI hn hc hN (r:=r) (done:=done++[k]) (by rw[e];simp) fun k' hk'=> ?_
  rcases V8.1 hk' with hk'|hk'
  ·exact h k' hk'
  ·rw[V1.1 hk']
   exact⟨by omega,hok h1⟩
theorem O1 {n:Nat} (hn:n<400000000) {c:aF Va} (hc:SCi n c) (hN:xq c<500000000):aW (GS c) fun _=>True:=by
 have:=hc.kl
 unfold GS
 exact au ii (EI hn hc hN (r:=c.aw) (done:=[]) rfl fun k hk=>by cases hk)
structure lE (P:Va->Prop) (c:aV Va):Prop where
 il:c.items.length<=3
 rl:c.rest.length<=2
 i:∀x∈c.items,P x
 r:∀x∈c.rest,P x
structure iF (P:Va->Prop) (c:aF Va):Prop where
 fl:c.fields.length<=4
 kl:c.aw.length<=4
 A6:∀f∈c.fields,f.label.length<=60
 f:∀f∈c.fields,P f.val
 ab:∀k∈c.aw,AB 15000 k.set
 k:∀k∈c.aw,P k.val
 w:(c.aw.map fun(k:cW Va)=>k.set.length+3).prod<=14641
structure Jv (P:Va->Prop) (v:bt Va):Prop where
 sc:SB 5 8 v.sc
 ll:v.lists.length<=3
 sl:v.structs.length<=3
 l:∀c∈v.lists,lE P c
 s:∀c∈v.structs,iF P c
def kd:Nat->bt Va->Prop
 |0,v=>Jv (fun _=>False) v
 |d+1,v=>Jv (fun x=>kd d x.v/\kd d x.d) v
def Jw (d:Nat) (x:Va):Prop:=kd d x.v/\kd d x.d
def dv:Nat->Va->Prop
 |0,_=>False
 |d+1,x=>Jw d x
theorem kd.c {d:Nat} {v:bt Va} (h:kd d v):Jv (dv d) v:=by
 cases d<;>exact h
theorem lE.mono {P Q:Va->Prop} {c:aV Va} (h:lE P c) (k:∀x,P x->Q x):lE Q c:=⟨h.il,h.rl,fun x hx=>k x (h.i x hx),fun x hx=>k x (h.r x hx)⟩
theorem iF.mono {P Q:Va->Prop} {c:aF Va} (h:iF P c) (k:∀x,P x->Q x):iF Q c:=⟨h.fl,h.kl,h.A6,fun x hx=>k _ (h.f x hx),h.ab,fun x hx=>k _ (h.k x hx),h.w⟩
theorem Jv.mono {P Q:Va->Prop} {v:bt Va} (h:Jv P v) (k:∀x,P x->Q x):Jv Q v:=⟨h.sc,h.ll,h.sl,fun c hc=>(h.l c hc).mono k,fun c hc=>(h.s c hc).mono k⟩
theorem kd.of {d:Nat} {v:bt Va} (h:Jv (dv d) v):kd d v:=by
 cases d<;>exact h
theorem Ie {α:Type} {f g:α->Nat} (h:∀x,f x<=g x):∀l:List α,(l.map f).prod<=(l.map g).prod
 |[]=>V2 _
 |x::r=>by
  rw[WM,WM,Xi,Xi]
  exact Xb (h x) (Ie h r)
theorem HE {α:Type}:∀l:List α,(l.map fun _=>2).prod=2^l.length
 |[]=>rfl
 |x::r=>by rw[WM,Xi,HE r,V5,Nat.pow_succ,X3]
theorem iF.vec {P:Va->Prop} {c:aF Va} (h:iF P c):xq c<500000000:=by
 have h1:(c.aw.map fun(k:cW Va)=>k.set.length+1).prod<=14641:=Wq (Ie (fun k=>by omega) _) h.w
 have h2:(c.fields.map fun(_:dy Va)=>2).prod<=16:=by
  rw[HE]
  exact Nat.pow_le_pow_right (n:=2) ii h.fl
 unfold xq Q7
 rw[List.prod_append,Xi]
 have:=Xb h1 (Xp 62 h2)
 omega
theorem iF.sci {P:Va->Prop} {c:aF Va} (h:iF P c):SCi 15000 c:=⟨by have:=h.kl;omega,by have:=h.fl;omega,h.ab,h.A6⟩
theorem yM {k n:Nat} (hk:k<=12) (hn:n<400000000) {s:bM} (h:SB k n s):aW (sw s) fun _=>True:=by
 have h1:=h.i.1
 have h2:=h.f.1
 have h3:=h.a.len
 unfold sw
 exact ar (fun _=>aj trivial) fun _=>ar (fun _=>aj trivial) fun _=>ar (fun _=>aj trivial) fun _=>au ii (au ii (au ii (aj trivial)))
theorem rA {P:Va->Prop} {v:bt Va} (h:Jv P v):aW (mI v) fun _=>True:=by
 have h1:=h.ll
 have h2:=h.sl
 unfold mI
 exact ar (fun _=>aj trivial) fun _=>au ii (au ii (ar (fun _=>aq (yM ii ii h.sc) fun c _=>ar (fun _=>aj trivial) fun _=>px ii ii h.sc) fun _=>aj trivial))
theorem HG:∀{ks:List (cW Va)} {out:List Va},ks.length+out.length<=1000->aW (QB ks out) fun r=>r=out++ks.map (·.val)
 |[],out,_=>aj (by simp)
 |k::ks,out,h=>by
  rw[V5] at h
  unfold QB
  exact bw ii ((HG (by simp;omega)).mono fun r hr=>by rw[hr];simp)
theorem HI {ks:List (cW Va)}:∀{fs:List (dy Va)} {out:List Va},fs.length+ks.length+out.length<=1000->aW (Mn ks fs out) fun r=>r=out++fs.map (·.val)++ks.map (·.val)
 |[],out,h=>by
  unfold Mn
  exact au (by simp at h;omega) ((HG (by simp at h;omega)).mono fun r hr=>by rw[hr];simp)
 |f::fs,out,h=>by
  rw[V5] at h
  unfold Mn
  exact bw ii ((HI (ks:=ks) (fs:=fs) (by simp;omega)).mono fun r hr=>by rw[hr];simp)
theorem uv {P:Va->Prop} {c:aF Va} (h:iF P c):aW (gF c) fun r=>r.length<=8/\∀x∈r,P x:=by
 have h1:=h.fl
 have h2:=h.kl
 unfold gF
 refine au ii ((HI (by simp;omega)).mono fun r hr=> ?_)
 rw[hr]
 refine⟨by simp;omega,fun x hx=> ?_⟩
 rcases V8.1 hx with hx|hx
 ·rw[Xg] at hx
  obtain⟨f,hf,rfl⟩:=WQ.1 hx
  exact h.f f hf
 ·obtain⟨k,hk,rfl⟩:=WQ.1 hx
  exact h.k k hk
theorem ga {P:Va->Prop} {c:aV Va} (h:lE P c):aW (fb c) fun r=>r.length<=5/\∀x∈r,P x:=by
 have h1:=h.il
 have h2:=h.rl
 unfold fb
 refine(rM ii).mono fun r hr=> ?_
 rw[hr]
 refine⟨by simp;omega,fun x hx=> ?_⟩
 rcases V8.1 hx with hx|hx
 ·exact h.i x hx
 ·exact h.r x hx
theorem Jc {P:Va->Prop}:∀{ss:List (aF Va)} {out:List Va},(∀c∈ss,iF P c)->(∀x∈out,P x)->out.length+8*ss.length<=1000->aW (SF ss out) fun r=>r.length<=out.length+8*ss.length/\∀x∈r,P x
 |[],out,_,h,_=>aj ⟨by simp,h⟩
 |c::ss,out,hs,h,hl=>by
  rw[V5] at hl
  unfold SF
  refine aq (uv (hs c (V0 ..))) fun l ⟨l1,l2⟩=>nj ii ((Jc (fun c hc=>hs c (VX _ hc)) (fun x hx=> ?_) (by simp;omega)).mono fun r ⟨r1,r2⟩=>⟨by simp at r1;rw[V5];omega,r2⟩)
  rcases V8.1 hx with hx|hx
  ·exact h x hx
  ·exact l2 x hx
theorem Je {P:Va->Prop} {ss:List (aF Va)} (hss:∀c∈ss,iF P c) (hsl:ss.length<=3):∀{ls:List (aV Va)} {out:List Va},(∀c∈ls,lE P c)->(∀x∈out,P x)->out.length+5*ls.length<=100->aW (O6 ss ls out) fun r=>r.length<=out.length+5*ls.length+24/\∀x∈r,P x
 |[],out,_,h,hl=>by
  unfold O6
  exact au ii ((Jc hss h (by simp at hl;omega)).mono fun r ⟨r1,r2⟩=>⟨by simp;omega,r2⟩)
 |c::ls,out,hs,h,hl=>by
  rw[V5] at hl
  unfold O6
  refine aq (ga (hs c (V0 ..))) fun l ⟨l1,l2⟩=>nj ii ((Je hss hsl (fun c hc=>hs c (VX _ hc)) (fun x hx=> ?_) (by simp;omega)).mono fun r ⟨r1,r2⟩=>⟨by simp at r1;rw[V5];omega,r2⟩)
  rcases V8.1 hx with hx|hx
  ·exact h x hx
  ·exact l2 x hx
theorem GZ {P:Va->Prop} {v:bt Va} (h:Jv P v):aW (py v) fun r=>r.length<=39/\∀x∈r,P x:=by
 have h1:=h.ll
 unfold py
 exact au ii ((Je h.s h.sl h.l (fun x hx=>by cases hx) (by simp;omega)).mono fun r ⟨r1,r2⟩=>⟨by simp at r1;omega,r2⟩)
theorem D8 {l:List (dy Va)} (hl:l.length<=1000):∀{r:List (dy Va)} {i:Nat},i+r.length=l.length->aW (te l r i) fun _=>True
 |[],i,_=>aj trivial
 |f::r,i,h=>by
  rw[V5] at h
  have e1:((i:Int)+1)=((i+1:Nat):Int):=by omega
  have ih:aW (te l r ((i+1:Nat):Int)) fun _=>True:=D8 hl ii
  have h1:aW (Ea l f i) fun _=>True:=by
   unfold Ea
   exact ar (fun h0=>au ⟨by omega,by omega⟩ (aX ii ii fun p _ _=>aj trivial)) fun _=>aj trivial
  unfold te
  rw[e1]
  exact ar (fun _=>aq h1 fun c _=>ar (fun _=>ih) fun _=>aj trivial) fun _=>ar (fun _=>aq h1 fun c _=>ar (fun _=>ih) fun _=>aj trivial) fun _=>aj trivial
theorem IJ {P:Va->Prop} {sc:bM} (hs:SB 5 8 sc):∀{ss:List (aF Va)},(∀c∈ss,iF P c)->aW (P0 sc ss) fun _=>True
 |[],_=>(kT ii ii hs).mono fun _ _=>trivial
 |c::r,h=>by
  have hc:=h c (V0 ..)
  have hf:=hc.fl
  have h1:aW (n5 c.fields) fun _=>True:=by
   unfold n5
   exact au ii (D8 ii (i:=0) ii)
  unfold P0
  exact aq h1 fun ok _=>ar (fun _=>aq (O1 ii hc.sci hc.vec) fun ok _=>ar (fun _=>IJ hs fun c hc=>h c (VX _ hc)) fun _=>aj trivial) fun _=>aj trivial
theorem KU {P:Va->Prop} {v:bt Va} (h:Jv P v):aW (sC v) fun _=>True:=by
 have h1:=h.ll
 have h2:=h.sl
 have key:∀{ls:List (aV Va)},(∀c∈ls,lE P c)->aW (RX v.sc v.structs ls) fun _=>True:=fun{ls}=>by
  induction ls with
  |nil=>intro _;exact au ii (IJ h.sc h.s)
  |cons c r ih=>
   intro hl
   have:=(hl c (V0 ..)).rl
   exact au ii (ar (fun _=>aj trivial) fun _=>ih fun c hc=>hl c (VX _ hc))
 unfold sC
 exact ar (fun _=>aq (yM ii ii h.sc) fun c _=>ar (fun _=>au ii (au ii (aj trivial))) fun _=>aj trivial) fun _=>au ii (key h.l)
def jM:Nat->Nat
 |0=>1
 |d+1=>1+80*jM d
def LZ (B:Nat) (w:Wk):Prop:=0<=w.l9/\w.l9<=B
theorem Ce {rec:Wk->bt Va->Int->Option Wk} {level:Int} (hl:0<=level/\level<=100) {C:Nat} {P:Va->Prop} (hr:∀(w:Wk) (x:Va) (B:Nat),P x->B+C<=1000000000000000->LZ B w->aW (rec w x.v (level+1)) (LZ (B+C))/\aW (rec w x.d (level+1)) (LZ (B+C))):∀{l:List Va} {w:Wk} {B:Nat},(∀x∈l,P x)->LZ B w->B+2*C*l.length<=1000000000000000->aW (Ai rec level l w) (LZ (B+2*C*l.length))
 |[],w,B,_,h,_=>aj (by simpa using h)
 |x::r,w,B,hp,h,hB=>by
  have hx:=hp x (V0 ..)
  have e:2*C*(x::r).length=2*C*r.length+2*C:=by rw[V5,XB,XH]
  rw[e] at hB⊢
  unfold Ai
  refine au ⟨by omega,by omega⟩ (aq (hr w x B hx ii h).1 fun w1 h1=>aq (hr w1 x (B+C) hx ii h1).2 fun w2 h2=> ?_)
  refine(Ce hl hr (l:=r) (B:=B+C+C) (fun y hy=>hp y (VX _ hy)) h2 ii).mono fun w3 h3=> ?_
  unfold LZ at*
  omega
theorem uk:∀(n d:Nat) (w:Wk) (v:bt Va) (level:Nat) (B:Nat),kd d v->1<=level->level<=17->19<=n+level->LZ B w->B+jM d<=1000000000000000->aW (sY n w v level) (LZ (B+jM d))
 |0,d,w,v,level,B,_,_,_,h,_,_=>by omega
 |n+1,d,w,v,level,B,hv,h1,h17,hn,hw,hB=>by
  have hb:∀d,1<=jM d:=fun d=>by cases d<;>simp[jM]<;>omega
  have hbd:=hb d
  have hc:=hv.c
  unfold sY wb
  rw[VY]
  unfold LZ at hw
  refine au ⟨by omega,by omega⟩ ?_
  rw[VU]
  have hw':LZ (B+1) ⟨w.l9+1,mx w.deep level,w.bad⟩:=⟨by show(0:Int)<=w.l9+1;omega,by show w.l9+1<=((B+1:Nat):Int);omega⟩
  have hend:∀b,LZ (B+jM d) ⟨w.l9+1,mx w.deep level,b⟩:=fun b=>⟨by show(0:Int)<=w.l9+1;omega,by show w.l9+1<=((B+jM d:Nat):Int);omega⟩
  refine ar (fun _=>aj (hend _)) fun hlev=>aq (KU hc) fun ok _=>ar (fun _=> ?_) fun _=>aj (hend _)
  refine aq (GZ hc) fun l ⟨l1,l2⟩=>au ii ?_
  cases d with
  |zero=>
   have:l=[]:=by
    cases l with
    |nil=>rfl
    |cons x r=>exact(l2 x (V0 ..)).elim
   subst this
   exact aj (hend _)
  |succ d=>
   have e2:jM (d+1)=1+80*jM d:=rfl
   have hlen:2*jM d*l.length<=80*jM d:=by
    have:=Xp (2*jM d) l1
    omega
   refine(Ce (P:=Jw d) (C:=jM d) ⟨by omega,by omega⟩ (fun w x B' hx hB' hw=> ?_) l2 hw' ii).mono fun w2 h2=> ?_
   ·have e3:((level:Int)+1)=((level+1:Nat):Int):=by omega
    rw[e3]
    exact⟨uk n d w x.v (level+1) B' hx.1 ii ii ii hw hB',uk n d w x.d (level+1) B' hx.2 ii ii ii hw hB'⟩
   ·unfold LZ at*
    omega
end Go.Proofs.YtcejopopgcglpaaGreatDoor
