/- For ConcreteOnly and ConcreteBack: canonical forms, languages. -/
import Derived.Test.YtaagahmkmcnhaaaGreatDoorNb
set_option linter.unusedVariables false
set_option linter.unusedSimpArgs false
set_option linter.unusedSectionVars false
namespace Go.Proofs.YtaagahmkmcnhaaaGreatDoor
open Sv
theorem CI {α:Type} {g:α->α->Option Bool} {b:List α}:∀{r:List α} {i:Nat},(∀x∈r,∀y∈b,bu (g x y) fun _=>True)->i+r.length=b.length->bu (jE g b r i) fun _=>True
 |[],i,_,_=>aj trivial
 |x::r,i,hg,h=>by
  rw[Tu] at h
  have e1:((i:Int)+1)=((i+1:Nat):Int):=by omega
  unfold jE
  rw[e1]
  exact a7 ii ii fun y hy hm=>au (hg x (Tn ..) y hm) fun t _=>ak (fun _=>CI (fun x hx=>hg x (Tm _ hx)) ii) fun _=>aj trivial
theorem vk {α:Type} {g:α->α->Option Bool} {a b:List α} (hg:∀x∈a,∀y∈b,bu (g x y) fun _=>True) (ha:a.length<=1000000000):bu (kH g a b) fun _=>True:=by
 unfold kH
 refine ak (fun h=>ar ha ?_) fun _=>aj trivial
 exact CI (r:=a) (i:=0) hg ii
theorem xx {k n:Nat} (hn:n<=1000000000) (hk:k<=1000) {a b:bX} (ha:SB k n a):bu (fQ a b) fun _=>True:=by
 have h1:=ha.i.1
 have h2:=ha.f.1
 unfold fQ
 repeat' first|exact aj trivial|exact(mY ha.a hn).mono fun _ _=>trivial|refine au (mG ii) fun _ _=> ?_|refine ak (fun _=> ?_) fun _=> ?_
section
variable {P:Va->Prop} {rec:bG Va->bG Va->Option Bool}
end
section
variable {α:Type}
theorem yd {g:α->Option Bool}:∀{l:List α} {i:Nat},(∀x∈l,bu (g x) fun _=>True)->bu (fg g l i) fun k=>k= -1\/(i:Int)<=k/\k<i+l.length
 |[],i,_=>aj (.inl rfl)
 |x::r,i,h=>by
  have e1:((i:Int)+1)=((i+1:Nat):Int):=by omega
  unfold fg
  rw[e1]
  refine au (h x (Tn ..)) fun c _=>ak (fun _=>aj (.inr (by rw[Tu];omega))) fun _=>(yd fun x hx=>h x (Tm _ hx)).mono fun k hk=> ?_
  rw[Tu]
  omega
theorem Lz {g:α->Option Bool} {l:List α} (h:∀x∈l,bu (g x) fun _=>True) (hl:l.length<=1000000000):bu (oV g l) fun k=>k= -1\/0<=k/\k<l.length:=by
 unfold oV
 exact ar hl ((yd (i:=0) h).mono fun k hk=>by omega)
end
section
variable {d:Nat} {rec:bG Va->bG Va->Option Bool}
end
section
variable {α:Type} {g:α->α->Option Int}
end
section
variable {P:Va->Prop} {rec:bG Va->bG Va->Option Int}
end
section
variable {α:Type} {A:α->Prop} {is:α->α->Option Bool}
end
section
variable {d:Nat} {cv:Va->Option (Va×Bool)}
end
section
variable {d:Nat} {cv:Va->Option (Va×Bool)}
end
section
variable {d:Nat}
variable {cv:Va->Option (Va×Bool)}
end
section
variable {α β:Type}
theorem aP {c:Prop} [Decidable c] (h:c) (f:Unit->Option β):(yf c).bind f=f ():=by
 unfold yf
 rw[Th h]
 rfl
theorem cz {l:List α} {i:Nat} {x:α} (h:l[i]? =some x) (f:α->Option β):(cN l (i:Int)).bind f=f x:=by
 unfold cN
 rw[Th ii,show((i:Int)).toNat=i by omega,h]
 rfl
theorem dI {l:List α} (h:l.length<1000000000) (x:α) (f:List α->Option β):(push l x).bind f=f (l++[x]):=by
 unfold push
 rw[Th h]
 rfl
end
theorem oA {α β:Type} {l:List α} {x:α} (h:l[0]? =some x) (f:α->Option β):(cN l 0).bind f=f x:=cz (i:=0) h f
theorem nf:¬(false=true):=by decide
def dl (l:List ba) (s:Nat) (b:Int):Nat:=match l[s]? with
 |some x=>(fZ b x.aF l.length).toNat
 |none=>l.length
def ac (l:List ba):Nat->List UInt8->Bool
 |s,[]=>match l[s]? with
  |some x=>x.acc
  |none=>false
 |s,b::w=>ac l (dl l s b.toNat) w
theorem gw {l:List ba} {s:Nat} (h:l.length<=s):∀w:List UInt8,ac l s w=false
 |[]=>by
  unfold ac
  rw[T2 h]
 |b::w=>by
  have e:dl l s b.toNat=l.length:=by
   unfold dl
   rw[T2 h]
  unfold ac
  rw[e]
  exact gw (Tp _) w
theorem EW.tail {n:Nat} {e:Sv.Edge} {r:List Sv.Edge} (h:EW n (e::r)):EW n r:=⟨fun x hx=>h.one x (Tm _ hx),fun i x y hx hy=>h.adj (i+1) x y (by simpa using hx) (by simpa using hy)⟩
theorem EW.beyond {n:Nat}:∀{r:List Sv.Edge} {e:Sv.Edge},EW n (e::r)->∀x∈r,e.hi<x.lo
 |[],_,_,x,hx=>by cases hx
 |y::r,e,h,x,hx=>by
  have h1:=h.adj 0 e y rfl rfl
  rcases Tv.1 hx with rfl|hx
  ·exact h1
  ·have h2:=h.tail.beyond x hx
   have h3:=(h.tail.one y (Tn ..)).1
   omega
theorem u3 {c:Int}:∀{es:List Sv.Edge} {t:Int},(∀e∈es,¬(e.lo<=c/\c<=e.hi))->fZ c es t=t
 |[],t,_=>rfl
 |e::r,t,h=>by
  unfold fZ
  rw[Uh,Ti (h e (Tn ..))]
  exact u3 (es:=r) fun x hx=>h x (Tm _ hx)
theorem qh {n:Nat} {c:Int}:∀{es:List Sv.Edge} {t:Int},EW n es->∀e∈es,e.lo<=c/\c<=e.hi->fZ c es t=e.to
 |[],t,_,e,he,_=>by cases he
 |x::r,t,h,e,he,hc=>by
  unfold fZ
  rw[Uh]
  rcases Tv.1 he with rfl|he
  ·rw[Th hc]
   exact u3 (es:=r) fun y hy=>by have:=h.beyond y hy;omega
  ·have:=h.beyond e he
   rw[Ti ii]
   exact qh (es:=r) h.tail e he hc
theorem Dt {w:List UInt8} {i:Nat} {b:UInt8} (hb:w[i]? =some b) {n:Nat}:∀{es:List Sv.Edge},EW n es->AJ w i es=some (if fZ b.toNat es n<n then some (fZ b.toNat es n) else none)
 |[],_=>by
  unfold AJ
  rw[show fZ (b.toNat:Int) [] n=n from rfl,Ti ii]
 |e::r,h=>by
  have ih:=Dt hb h.tail
  unfold AJ
  rw[cz hb]
  by_cases h1:e.lo<=(b.toNat:Int)
  ·by_cases h2:(b.toNat:Int)<=e.hi
   ·have h3:=h.one e (Tn ..)
    rw[Th h1,Th h2,qh h e (Tn ..) ⟨h1,h2⟩,Th ii]
   ·have e1:fZ (b.toNat:Int) (e::r) n=fZ (b.toNat:Int) r n:=by
     unfold fZ
     rw[Uh,Ti ii]
    rw[Th h1,Ti h2,ih,e1]
  ·have e1:fZ (b.toNat:Int) (e::r) n=fZ (b.toNat:Int) r n:=by
    unfold fZ
    rw[Uh,Ti ii]
   rw[Ti h1,ih,e1]
theorem Ds {l:List ba} {m:Nat} (h:AB m l) (hw:WF l) {w:List UInt8}:∀{n i s:Nat},i+n=w.length->s<l.length->AI l w n i s=some (ac l s (w.drop i))
 |0,i,s,h0,hs=>by
  obtain⟨x,hx⟩:∃x,l[s]? =some x:=⟨_,Tj hs⟩
  unfold AI
  rw[cz hx,TV ii]
  unfold ac
  rw[hx]
 |n+1,i,s,h0,hs=>by
  obtain⟨x,hx⟩:∃x,l[s]? =some x:=⟨_,Tj hs⟩
  obtain⟨b,hb⟩:∃b,w[i]? =some b:=⟨_,Tj ii⟩
  have hxm:=Ts hx
  have hrow:=h.row x hxm
  have he:w.drop i=b::w.drop (i+1):=by
   rw[TN ii]
   rw[Tj ii] at hb
   cases hb
   rfl
  have e1:((i:Int)+1)=((i+1:Nat):Int):=by omega
  have hdl:dl l s b.toNat=(fZ b.toNat x.aF l.length).toNat:=by
   unfold dl
   rw[hx]
  have hrng:=nH (c:=b.toNat) (n:=l.length) (es:=x.aF) (t:=l.length) (fun e he=>((hw x hxm).one e he).2) ii (TM _)
  unfold AI
  rw[cz hx,aP ii,Dt hb (hw x hxm),HP,he]
  show _=some (ac l (dl l s b.toNat) (w.drop (i+1)))
  rw[hdl]
  by_cases hg:fZ (b.toNat:Int) x.aF l.length<l.length
  ·rw[Th hg]
   show AI l w n ((i:Int)+1) (fZ b.toNat x.aF l.length)=_
   rw[e1]
   have ih:=Ds h hw (w:=w) (n:=n) (i:=i+1) (s:=(fZ b.toNat x.aF l.length).toNat) ii ii
   rw[show(((fZ b.toNat x.aF l.length).toNat:Nat):Int)=fZ b.toNat x.aF l.length by omega] at ih
   exact ih
  ·rw[Ti hg,gw ii]
theorem MY {l:List ba} {m:Nat} (h:AB m l) (hm:m<=1000000000) (hw:WF l) (hf:DR l=some true) {w:List UInt8} (hl:w.length<=1000000000):MZ l w=some (ac l 0 w):=by
 have h1:=h.len
 unfold MZ
 rw[aP ii]
 by_cases h0:(l.length:Int)=0
 ·rw[Th h0,gw ii]
 ·rw[Ti h0,hf,HP,Th rfl,aP hl]
  have:=Ds h hw (w:=w) (n:=w.length) (i:=0) (s:=0) ii ii
  rw[Uu] at this
  exact this
theorem rm {c b:Int}:∀{es:List Sv.Edge} {t:Int},(∀e∈es,(e.lo<=c/\c<=e.hi)↔(e.lo<=b/\b<=e.hi))->fZ c es t=fZ b es t
 |[],t,_=>rfl
 |e::r,t,h=>by
  have h0:=h e (Tn ..)
  unfold fZ
  rw[Uh,Uh]
  by_cases hb:e.lo<=b/\b<=e.hi
  ·rw[Th (h0.2 hb),Th hb]
   exact rm (es:=r) fun x hx=>h x (Tm _ hx)
  ·rw[Ti fun hc=>hb (h0.1 hc),Ti hb]
   exact rm (es:=r) fun x hx=>h x (Tm _ hx)
def Dx (a8:List Int) (b:Int) (i:Nat) (c:Int):Prop:=a8[i]? =some c/\c<=b/\∀x∈a8,x<=b->x<=c
theorem Ce {l:List ba} {a8:List Int} (h:qG l a8) {b:Int} (hb:0<=b):∃i c,Dx a8 b i c:=by
 have key:∀r:List Int,r.Pairwise (· <·)->(∃x∈r,x<=b)->∃i c,Dx r b i c:=by
  intro r
  induction r with
  |nil=>intro _ ⟨x,hx,_⟩;cases hx
  |cons y r ih=>
   intro hp ⟨x,hx,hxb⟩
   have hp':=TW.1 hp
   by_cases hr:∃x∈r,x<=b
   ·obtain⟨i,c,h1,h2,h3⟩:=ih hp'.2 hr
    refine⟨i+1,c,by simpa using h1,h2,fun z hz hzb=> ?_⟩
    rcases Tv.1 hz with rfl|hz
    ·have:=hp'.1 c (Ts h1);omega
    ·exact h3 z hz hzb
   ·refine⟨0,y,rfl,?_,fun z hz hzb=> ?_⟩
    ·rcases Tv.1 hx with rfl|hx
     ·exact hxb
     ·exact absurd ⟨x,hx,hxb⟩ hr
    ·rcases Tv.1 hz with rfl|hz
     ·omega
     ·exact absurd ⟨z,hz,hzb⟩ hr
 exact key a8 h.inc ⟨0,Ts h.pos,hb⟩
theorem O7 {l:List ba} {a8:List Int} (h:qG l a8) {s:ba} (hs:s∈l) {b:Int} (hb:b<256) {i:Nat} {c:Int} (hc:Dx a8 b i c) (t:Int):fZ c s.aF t=fZ b s.aF t:=by
 refine rm fun e he=>⟨fun⟨h1,h2⟩=>⟨by have:=hc.2.1;omega,?_⟩,fun⟨h1,h2⟩=>⟨hc.2.2 e.lo (h.lo s hs e he) h1,by have:=hc.2.1;omega⟩⟩
 by_cases hge:b<=e.hi
 ·exact hge
 ·have:=hc.2.2 (e.hi+1) (h.hi s hs e he ii) ii
  omega
theorem pW {l:List ba} {p:List Int×List (List Int)×List Bool} (h:sK l p) (hw:WF l) {s:Nat} (hs:s<=l.length) {b:Int} (h0:0<=b) (hb:b<256) {i:Nat} {c:Int} (hc:Dx p.1 b i c):(p.2.1.getD s [])[i]? =some (dl l s b:Int):=by
 have hi:i<p.1.length:=(Tk.1 hc.1).1
 rw[h.next]
 unfold dl
 by_cases hlt:s<l.length
 ·obtain⟨x,hx⟩:∃x,l[s]? =some x:=⟨_,Tj hlt⟩
  have hxm:=Ts hx
  have hrng:=nH (c:=b) (n:=l.length) (es:=x.aF) (t:=l.length) (fun e he=>((hw x hxm).one e he).2) ii (TM _)
  have e1:(lF p.1 l l.length++[List.replicate p.1.length (l.length:Int)]).getD s []=p.1.map fun c=>fZ c x.aF l.length:=by
   rw[TB,TE (by simp[lF,hlt])]
   unfold lF
   rw[TO,hx]
   rfl
  rw[e1,TO,hc.1,hx]
  show some (fZ c x.aF l.length)=_
  rw[O7 h.a8 hxm hb hc]
  show _=some (((fZ b x.aF l.length).toNat:Nat):Int)
  rw[Int.toNat_of_nonneg hrng.1]
 ·have hsl:s=l.length:=by omega
  subst hsl
  have e1:(lF p.1 l l.length++[List.replicate p.1.length (l.length:Int)]).getD l.length []=List.replicate p.1.length (l.length:Int):=by
   rw[TB,TG (by simp[lF])]
   simp[lF]
  rw[e1,T2 (Tp _),Uk,Th hi]
theorem RI.RF {cls:List Nat} {next:List (List Int)} {n:Nat} {seen:List (List UInt8×Int)} {c:List Nat} (h:RI cls next n n seen c) {s t:Nat} (hs:s<n) (ht:t<n) (e:nU cls next s=nU cls next t):c.getD s 0=c.getD t 0:=by
 have h1:=h.O9 s hs
 rw[e,h.O9 t ht] at h1
 have:=TD h1
 omega
theorem tI {cls:List Nat}:∀{r q:List Int},r.length=q.length->(∀(i:Nat) (x y:Int),r[i]? =some x->q[i]? =some y->cls.getD x.toNat 0=cls.getD y.toNat 0)->sC cls r=sC cls q
 |[],[],_,_=>rfl
 |[],_::_,h,_=>by simp at h
 |_::_,[],h,_=>by simp at h
 |x::r,y::q,h,k=>by
  have h0:=k 0 x y rfl rfl
  have ih:=tI (cls:=cls) (r:=r) (q:=q) (by simpa using h) fun i a b ha hb=>k (i+1) a b (by simpa using ha) (by simpa using hb)
  unfold sC
  rw[h0,ih]
theorem M4:∀{a b:List Nat},NI a=NI b->a=b
 |[],[],_=>rfl
 |[],_::_,h=>by cases h
 |_::_,[],h=>by cases h
 |x::a,y::b,h=>by
  have h1:((x:Int)::NI a)=((y:Int)::NI b):=h
  have h2:=VA h1
  rw[M4 h2.2,show x=y from by have:=h2.1;omega]
def Bis (n:Nat) (next:List (List Int)) (B:Nat->Nat->Prop):Prop:=∀s t,s<n->t<n->B s t->∀(i:Nat) (x y:Int),(next.getD s [])[i]? =some x->(next.getD t [])[i]? =some y->B x.toNat y.toNat
theorem F7 {n w:Nat} {next:List (List Int)} (hT:Tb n w next) (hn0:0<n) (hn:n<1000000000) (hw:w<=256) {B:Nat->Nat->Prop} (hB:Bis n next B):
  ∀{f:Nat} {cls:List Nat} {many:Int},cls.length=n->(∀c∈cls,c<1000000000)->(∀s t,s<n->t<n->B s t->cls.getD s 0=cls.getD t 0)->∀{c:List Nat},zC next f (NI cls) many=some (NI c)->∀s t,s<n->t<n->B s t->c.getD s 0=c.getD t 0
 |0,cls,many,_,_,_,c,h=>by cases h
 |f+1,cls,many,hl,hc,hA,c,h=>by
  have h0:RI cls next n 0 [] (List.replicate n 0):=⟨by simp,⟨by simp,fun j p h=>by cases h⟩,Tp _,fun t ht=>by omega,fun p hp=>by cases hp⟩
  have e0:List.replicate next.length (0:Int)=NI (List.replicate n 0):=by rw[hT.len];simp[NI]
  obtain⟨⟨seen,nx⟩,e,c',hc',hR⟩:=pR hT ii hl hc hw (r:=next) (k:=0) rfl (TC _) h0
  simp only at hc' hR
  subst hc'
  have hsame:∀s t,s<n->t<n->B s t->c'.getD s 0=c'.getD t 0:=fun s t hs ht hb=>by
   refine hR.RF hs ht ?_
   have r1:=hT.at_ hs
   have r2:=hT.at_ ht
   have hrng:∀s,s<n->∀(i:Nat) (x:Int),(next.getD s [])[i]? =some x->x.toNat<n:=fun s hs i x hx=>by
    have:=hT.eG _ (hT.at_ hs).1 x (Ts hx)
    omega
   unfold nU
   rw[hA s t hs ht hb]
   congr 1
   refine tI (by rw[r1.2,r2.2]) fun i x y hx hy=>hA _ _ (hrng s hs i x hx) (hrng t ht i y hy) (hB s t hs ht hb i x y hx hy)
  unfold zC at h
  rw[aP (by rw[hT.len];exact hn),aP (by rw[hT.len];omega),e0] at h
  have e':zB (NI cls) next next ((0:Nat):Int) [] (NI (List.replicate n 0))=some (seen,NI c'):=e
  rw[show((0:Nat):Int)=0 from rfl] at e'
  rw[e',HP] at h
  split at h
  ·have hcc:NI c'=NI c:=TD h
   have:c'=c:=by
    exact M4 hcc
   subst this
   exact hsame
  ·exact F7 hT hn0 hn hw hB (f:=f) (cls:=c') hR.len (fun x hx=>by
    obtain⟨i,hi⟩:=TJ.1 hx
    have h1:=(Tk.1 hi).1
    have:=hR.pt.lt i (by rw[<-hR.len];exact h1)
    rw[b9 hi] at this
    have:=hR.le
    omega) hsame h
def Eqv (l:List ba) (s t:Nat):Prop:=∀w:List UInt8,ac l s w=ac l t w
theorem qZ {l:List ba} {p:List Int×List (List Int)×List Bool} (h:sK l p) (hw:WF l) {s:Nat} (hs:s<=l.length) {i:Nat} {x:Int} (hx:(p.2.1.getD s [])[i]? =some x):∃b:UInt8,p.1[i]? =some (b.toNat:Int)/\x=(dl l s b.toNat:Int):=by
 have hT:=h.tb hw
 have hr:=hT.at_ (s:=s) ii
 have hi:i<p.1.length:=by
  have:=(Tk.1 hx).1
  omega
 have hc:p.1[i]? =some p.1[i]:=Tj hi
 have hrng:=h.a8.eG _ (TT hi)
 have hb:((UInt8.ofNat (p.1[i]).toNat).toNat:Int)=p.1[i]:=by
  rw[UQ]
  omega
 refine⟨UInt8.ofNat (p.1[i]).toNat,by rw[hb];exact hc,?_⟩
 rw[hb]
 have:=pW h hw hs (b:=p.1[i]) hrng.1 hrng.2 (i:=i) (c:=p.1[i]) ⟨hc,TM _,fun y _ hy=>hy⟩
 rw[hx] at this
 exact TD this
theorem Pf {l:List ba} {p:List Int×List (List Int)×List Bool} (h:sK l p) (hw:WF l):Bis (l.length+1) p.2.1 (Eqv l):=by
 intro s t hs ht hst i x y hx hy w
 obtain⟨b,hb,rfl⟩:=qZ h hw ii hx
 obtain⟨b',hb',rfl⟩:=qZ h hw ii hy
 rw[hb] at hb'
 have hbb:b.toNat=b'.toNat:=by have:=TD hb';omega
 rw[show(((dl l s b.toNat:Nat):Int)).toNat=dl l s b.toNat by omega,show(((dl l t b'.toNat:Nat):Int)).toNat=dl l t b'.toNat by omega,<-hbb]
 exact hst (b::w)
theorem jT {l:List ba} (hw:WF l) {s:Nat} {b:Int}:dl l s b<=l.length:=by
 unfold dl
 split
 ·rename_i x hx
  have:=nH (c:=b) (n:=l.length) (es:=x.aF) (t:=l.length) (fun e he=>((hw x (Ts hx)).one e he).2) ii (TM _)
  omega
 ·exact Tp _
theorem LS {l:List ba} {p:List Int×List (List Int)×List Bool} (h:sK l p) (hw:WF l) {c:List Nat} (hS:Dv (l.length+1) p.2.1 c) (hA:∀s t,s<l.length+1->t<l.length+1->c.getD s 0=c.getD t 0->p.2.2.getD s false=p.2.2.getD t false):
  ∀(w:List UInt8) (s t:Nat),s<=l.length->t<=l.length->c.getD s 0=c.getD t 0->ac l s w=ac l t w
 |[],s,t,hs,ht,e=>by
  have h1:=hA s t ii ii e
  have key:∀s,s<=l.length->ac l s []=p.2.2.getD s false:=fun s hs=>by
   unfold ac
   rw[h.acc,TB]
   rcases TX s l.length with hlt|hge
   ·rw[TE (by simpa using hlt),TO,Tj hlt]
    rfl
   ·rw[T2 hge,TG (by simpa using hge),show s-(l.map (·.acc)).length=0 by rw[Tr];omega]
    rfl
  rw[key s hs,key t ht,h1]
 |b::w,s,t,hs,ht,e=>by
  have hb:(0:Int)<=b.toNat/\(b.toNat:Int)<256:=⟨by omega,by have:=TA b;omega⟩
  obtain⟨i,cc,hc⟩:=Ce h.a8 hb.1
  have h1:=pW h hw hs hb.1 hb.2 hc
  have h2:=pW h hw ht hb.1 hb.2 hc
  have h3:=hS s t ii ii e i _ _ h1 h2
  rw[show(((dl l s b.toNat:Nat):Int)).toNat=dl l s b.toNat by omega,show(((dl l t b.toNat:Nat):Int)).toNat=dl l t b.toNat by omega] at h3
  show ac l (dl l s b.toNat) w=ac l (dl l t b.toNat) w
  exact LS h hw hS hA w _ _ (jT hw) (jT hw) h3
theorem Oj {n w:Nat} {next:List (List Int)} {acc:List Bool} (hT:Tb n w next) (hn0:0<n) (hn:n<1000000000) (hw:w<=256) (ha:acc.length=n) {B:Nat->Nat->Prop} (hB:Bis n next B) (hBA:∀s t,s<n->t<n->B s t->acc.getD s false=acc.getD t false) {c:List Nat} (h:Ib next acc=some (NI c)):∀s t,s<n->t<n->B s t->c.getD s 0=c.getD t 0:=by
 have e0:List.replicate next.length (0:Int)=NI (List.replicate n 0):=by rw[hT.len];simp[NI]
 obtain⟨o,e,ho⟩:=qt (n:=n) (acc:=acc) (s:=0) (c:=List.replicate n 0) (by simp) ii
 unfold Ib at h
 rw[aP (by rw[hT.len];exact hn),aP ii,e0] at h
 rw[show((0:Nat):Int)=0 from rfl] at e
 rw[e,HP] at h
 subst ho
 rw[List.take_zero,UC,Uu] at h
 have hg:∀s,s<n->(List.zipWith (fun(a:Bool) (x:Nat)=>if a then 1 else x) acc (List.replicate n 0)).getD s 0=if acc.getD s false=true then 1 else 0:=fun s hs=>by
  rw[TB,TB,List.getElem?_zipWith,Uk,Th hs,Tj ii]
  rfl
 refine F7 hT hn0 hn hw hB (by simp[ha]) (fun x hx=> ?_) (fun s t hs ht hb=> ?_) h
 ·obtain⟨i,hi⟩:=TJ.1 hx
  have h1:=(Tk.1 hi).1
  rw[List.length_zipWith,Ty,ha,Nat.min_self] at h1
  have:=hg i h1
  rw[b9 hi] at this
  rw[this]
  split<;>omega
 ·rw[hg s hs,hg t ht,hBA s t hs ht hb]
def ld (e:List Sv.Edge) (lo hi v:Int):List Sv.Edge:=match e.getLast? with
 |some p=>if p.to=v/\p.hi+1=lo then e.dropLast++[⟨p.lo,hi,v⟩] else e++[⟨lo,hi,v⟩]
 |none=>[⟨lo,hi,v⟩]
theorem CC (e:List Sv.Edge) (lo hi h2 v:Int):ld (ld e lo hi v) (hi+1) h2 v=ld e lo h2 v:=by
 unfold ld
 cases he:e.getLast? with
 |none=>simp
 |some p=>
  simp only
  by_cases hp:p.to=v/\p.hi+1=lo
  ·rw[Th hp,Th hp]
   simp
  ·rw[Ti hp,Ti hp]
   simp
section
variable {κ:Type} [DecidableEq κ]
def iB (st:List κ×List Sv.Edge) (lo hi:Int):Option κ->List κ×List Sv.Edge
 |none=>st
 |some k=>if k∈st.1 then(st.1,ld st.2 lo hi (st.1.idxOf k)) else(st.1++[k],ld st.2 lo hi st.1.length)
theorem Od (st:List κ×List Sv.Edge) (lo hi h2:Int) (k:Option κ):iB (iB st lo hi k) (hi+1) h2 k=iB st lo h2 k:=by
 cases k with
 |none=>rfl
 |some k=>
  unfold iB
  by_cases hk:k∈st.1
  ·simp only[Th hk,CC]
  ·have h1:k∈st.1++[k]:=by simp
   have h2:(st.1++[k]).idxOf k=st.1.length:=by
    rw[Vb,Ti hk]
    simp
   simp only[Ti hk,Th h1,h2,CC]
def fh (key:Int->Option κ):Nat->Int->List κ×List Sv.Edge->List κ×List Sv.Edge
 |0,_,st=>st
 |n+1,b,st=>fh key n (b+1) (iB st b b (key b))
theorem pM (key:Int->Option κ):∀(n m:Nat) (b:Int) (st:List κ×List Sv.Edge),fh key (n+m) b st=fh key m (b+n) (fh key n b st)
 |0,m,b,st=>by
  rw[Ue,show b+((0:Nat):Int)=b by omega]
  rfl
 |n+1,m,b,st=>by
  rw[show n+1+m=(n+m)+1 by omega]
  show fh key (n+m) (b+1) (iB st b b (key b))=fh key m (b+((n+1:Nat):Int)) (fh key n (b+1) (iB st b b (key b)))
  rw[pM key n m (b+1),show b+1+(n:Int)=b+((n+1:Nat):Int) by omega]
theorem tT {key:Int->Option κ} {k:Option κ}:∀(n:Nat) (lo b:Int) (st:List κ×List Sv.Edge),(∀x,b<=x->x<b+n->key x=k)->fh key n b (iB st lo (b-1) k)=iB st lo (b+n-1) k
 |0,lo,b,st,_=>by
  rw[show b+((0:Nat):Int)-1=b-1 by omega]
  rfl
 |n+1,lo,b,st,h=>by
  unfold fh
  rw[h b ii ii]
  have e:=Od st lo (b-1) b k
  rw[show b-1+1=b by omega] at e
  rw[e]
  have ih:=tT (key:=key) n lo (b+1) st fun x h1 h2=>h x ii ii
  rw[show b+1-1=b by omega] at ih
  rw[ih,show b+1+(n:Int)-1=b+((n+1:Nat):Int)-1 by omega]
theorem Kn {key:Int->Option κ} {k:Option κ} (n:Nat) (b:Int) (st:List κ×List Sv.Edge) (h:∀x,b<=x->x<b+(n+1:Nat)->key x=k):fh key (n+1) b st=iB st b (b+n) k:=by
 unfold fh
 rw[h b ii ii]
 have e:=tT (key:=key) (k:=k) n b (b+1) st fun x h1 h2=>h x ii ii
 rw[show b+1-1=b by omega] at e
 rw[e,show b+1+(n:Int)-1=b+(n:Int) by omega]
end
theorem Bo {α:Type}:∀{l:List α} {x:α},l≠[]->l.set (l.length-1) x=l.dropLast++[x]
 |[],_,h=>absurd rfl h
 |[a],x,_=>rfl
 |a::b::r,x,_=>by
  have ih:=Bo (l:=b::r) (x:=x) (by simp)
  rw[show(a::b::r).length-1=((b::r).length-1)+1 by simp,List.set_cons_succ,ih]
  rfl
theorem PS {a8:List Int} {i:Nat} {c v lo h:Int} {m:List (Int×Int)} {e:List Sv.Edge} (hv:cH c m=some v) (hlo:a8[i]? =some lo) (hb:0<=lo/\lo<256) (hh:nX a8 i=some h) (hl:e.length<1000000000):rC a8 i c m e=some (e++[⟨lo,h,v⟩]):=by
 unfold rC
 rw[cz hlo,aP hb,hh,HP,hv]
 show push e ⟨lo,h,v⟩=_
 unfold push
 rw[Th hl]
theorem G8 {a8:List Int} {i:Nat} {c v lo h:Int} {m:List (Int×Int)} {e:List Sv.Edge} (hv:cH c m=some v) (hlo:a8[i]? =some lo) (hb:0<=lo/\lo<256) (hh:nX a8 i=some h) (he:∀y∈e,EB y) (hl:e.length<1000000000):w9 a8 i c m e=some (ld e lo h v):=by
 have hB:=PS hv hlo hb hh hl
 unfold w9 ld
 by_cases h0:e=[]
 ·subst h0
  rw[Ti (by simp),hB]
  rfl
 ·have hpos:0<e.length:=Up.2 h0
  obtain⟨p,hp⟩:∃p,e[e.length-1]? =some p:=⟨_,Tj ii⟩
  have hp2:e.getLast? =some p:=by rw[List.getLast?_eq_getElem?,hp]
  have e1:((e.length:Int)-1)=((e.length-1:Nat):Int):=by omega
  have hpb:=he p (Ts hp)
  rw[Th ii,e1,cz hp,hv,hp2]
  show(if p.to=v then _ else _)=_
  by_cases g1:p.to=v
  ·rw[Th g1,cz hp,aP ⟨hpb.2.2.1,hpb.2.2.2⟩,cz hlo]
   by_cases g2:p.hi+1=lo
   ·rw[Th g2,hh,HP]
    show(nV e _ _)=some (if p.to=v/\p.hi+1=lo then _ else _)
    rw[Th ⟨g1,g2⟩]
    unfold nV
    rw[cz hp,show(((e.length-1:Nat):Int)).toNat=e.length-1 by omega,Bo h0]
    show some (e.dropLast++[(⟨p.lo,h,p.to⟩:Sv.Edge)])=_
    rw[g1]
   ·rw[Ti g2,hB]
    show _=some (if p.to=v/\p.hi+1=lo then _ else _)
    rw[Ti fun h=>g2 h.2]
  ·rw[Ti g1,hB]
   show _=some (if p.to=v/\p.hi+1=lo then _ else _)
   rw[Ti fun h=>g1 h.1]
theorem yk (c:List Nat):∀(o:List Int) (n x:Nat),cH (x:Int) ((o.zipIdx n).map fun p=>((aZ c p.1:Int),(p.2:Int)))=if x∈o.map (aZ c) then some ((n+(o.map (aZ c)).idxOf x:Nat):Int) else none
 |[],n,x=>by simp[cH]
 |s::o,n,x=>by
  rw[List.zipIdx_cons,Uo,Uo]
  unfold cH
  by_cases h:aZ c s=x
  ·rw[Th (show((aZ c s:Nat):Int)=x by omega),Th (by simp[h]),Vh,h]
   simp
  ·rw[Ti (show¬((aZ c s:Nat):Int)=x by omega),yk c o (n+1) x]
   have h':¬x=aZ c s:=fun e=>h e.symm
   by_cases hm:x∈o.map (aZ c)
   ·have hb:(aZ c s==x)=false:=by simpa using h
    rw[Th hm,Th (Tm _ hm),Vh,hb]
    show some _=some ((n+((o.map (aZ c)).idxOf x+1):Nat):Int)
    congr 1
    omega
   ·rw[Ti hm,Ti (by rw[Tv];exact fun e=>e.elim h' hm)]
theorem ve (c:List Nat) (o:List Int) (x:Nat):cH (x:Int) (mF c o)=if x∈o.map (aZ c) then some (((o.map (aZ c)).idxOf x:Nat):Int) else none:=by
 have:=yk c o 0 x
 rw[Ue] at this
 exact this
theorem GK {e:List Sv.Edge} (he:∀y∈e,EB y) {lo hi v:Int} (h1:0<=lo/\lo<256) (h2:0<=hi/\hi<256):∀y∈ld e lo hi v,EB y:=by
 unfold ld
 cases hl:e.getLast? with
 |none=>
  intro y hy
  rw[To.1 hy]
  exact⟨h1.1,h1.2,h2.1,h2.2⟩
 |some p=>
  have hp:=he p (List.mem_of_getLast? hl)
  intro y hy
  simp only at hy
  split at hy
  ·rcases Tz.1 hy with hy|hy
   ·exact he y (List.dropLast_subset _ hy)
   ·rw[To.1 hy]
    exact⟨hp.1,hp.2.1,h2.1,h2.2⟩
  ·rcases Tz.1 hy with hy|hy
   ·exact he y hy
   ·rw[To.1 hy]
    exact⟨h1.1,h1.2,h2.1,h2.2⟩
theorem CB (e:List Sv.Edge) (lo hi v:Int):(ld e lo hi v).length<=e.length+1:=by
 unfold ld
 cases hl:e.getLast? with
 |none=>simp
 |some p=>
  simp only
  split
  ·simp
  ·simp
def ia (a8:List Int) (i:Nat):Int:=if i+1<a8.length then a8.getD (i+1) 0-1 else 255
theorem GM {l:List ba} {a8:List Int} (h:qG l a8) (i:Nat):nX a8 i=some (ia a8 i)/\0<=ia a8 i/\ia a8 i<256:=by
 unfold nX ia
 have e1:((i:Int)+1)=((i+1:Nat):Int):=by omega
 rw[e1]
 by_cases hi:i+1<a8.length
 ·obtain⟨x,hx⟩:∃x,a8[i+1]? =some x:=⟨_,Tj hi⟩
  have:=yv h hx
  rw[Th ii,Th hi,cz hx,aP ⟨by omega,by omega⟩,b9 hx]
  exact⟨rfl,by omega,by omega⟩
 ·rw[Ti ii,Ti hi]
  exact⟨rfl,by omega,by omega⟩
def Ec (c:List Nat) (live:List Bool) (a8:List Int):List Int->Nat->List Nat×List Sv.Edge->List Nat×List Sv.Edge
 |[],_,st=>st
 |to::r,i,st=>Ec c live a8 r (i+1) (iB st (a8.getD i 0) (ia a8 i) (if live.getD (aZ c to) false=true then some (aZ c to) else none))
theorem te {l:List ba} {a8:List Int} (h:qG l a8) {n:Nat} (hn:n<1000000000) {c:List Nat} {live:List Bool} (hc:c.length=n) (hlt:∀s,s<n->c.getD s 0<n) (hl:live.length=n):
  ∀{r:List Int} {i:Nat} {o:List Int} {e:List Sv.Edge},i+r.length=a8.length->(∀t∈r,0<=t/\t<n)->(∀y∈e,EB y)->e.length<=i->o.length+r.length<=900000000->
   ∃o',qw a8 (NI c) live r i o (mF c o) e=some (o',mF c o',(Ec c live a8 r i (o.map (aZ c),e)).2)/\o'.map (aZ c)=(Ec c live a8 r i (o.map (aZ c),e)).1/\∀x∈o',x∈o\/x∈r
 |[],i,o,e,_,_,_,_,_=>⟨o,rfl,rfl,fun x hx=> .inl hx⟩
 |to::r,i,o,e,hi,ht,he,hel,ho=>by
  rw[Tu] at hi ho
  have h0:=ht to (Tn ..)
  have h256:=h.len
  have htr:∀t∈r,0<=t/\t<n:=fun t hx=>ht t (Tm _ hx)
  have e1:((i:Int)+1)=((i+1:Nat):Int):=by omega
  have hcl:=hlt to.toNat ii
  obtain⟨lo,hlo⟩:∃x,a8[i]? =some x:=⟨_,Tj ii⟩
  have hlob:=h.eG lo (Ts hlo)
  obtain⟨hen,hen1,hen2⟩:=GM h i
  have hat1:∀{β:Type} (f:Int->Option β),(cN (NI c) to).bind f=f (aZ c to:Int):=fun f=>by
   have e2:to=((to.toNat:Nat):Int):=by omega
   have:(NI c)[to.toNat]? =some (aZ c to:Int):=by
    unfold NI aZ
    rw[TO,Tj ii,TB,Tj ii]
    rfl
   rw[e2,cz this,<-e2]
  have hat2:∀{β:Type} (f:Bool->Option β),(cN live (aZ c to:Int)).bind f=f (live.getD (aZ c to) false):=fun f=>by
   have hcl':aZ c to<live.length:=by rw[hl];exact hcl
   have:live[aZ c to]? =some (live.getD (aZ c to) false):=by
    rw[TB,Tj hcl']
    rfl
   rw[cz this]
  unfold qw Ec
  rw[hat1,hat2,b9 hlo,e1]
  by_cases hlv:live.getD (aZ c to) false=true
  ·rw[Th hlv,Th hlv,ve]
   by_cases hm:aZ c to∈o.map (aZ c)
   ·rw[Th hm]
    have hv:=ve c o (aZ c to)
    rw[Th hm] at hv
    have hx:=G8 hv hlo hlob hen he ii
    obtain⟨o',h1,h2,h3⟩:=te h hn hc hlt hl (r:=r) (i:=i+1) (o:=o) (e:=ld e lo (ia a8 i) (((o.map (aZ c)).idxOf (aZ c to):Nat):Int)) ii htr (GK he hlob ⟨hen1,hen2⟩) (by have:=CB e lo (ia a8 i) (((o.map (aZ c)).idxOf (aZ c to):Nat):Int);omega) ii
    refine⟨o',?_,?_,fun x hx=>(h3 x hx).imp id (Tm _)⟩
    ·show((aN e).bind fun _=>(w9 a8 i (aZ c to:Int) (mF c o) e).bind fun e=>qw a8 (NI c) live r ((i+1:Nat):Int) o (mF c o) e)=_
     rw[aP ii,hx,HP,h1]
     unfold iB
     simp only[Th hm]
    ·rw[h2]
     unfold iB
     simp only[Th hm]
   ·rw[Ti hm]
    have hv:=ve c (o++[to]) (aZ c to)
    have hm':aZ c to∈(o++[to]).map (aZ c):=by simp
    rw[Th hm'] at hv
    have hidx:((o++[to]).map (aZ c)).idxOf (aZ c to)=o.length:=by
     rw[Un,Vb,Ti hm]
     simp
    rw[hidx,zT] at hv
    have hx:=G8 hv hlo hlob hen he ii
    obtain⟨o',h1,h2,h3⟩:=te h hn hc hlt hl (r:=r) (i:=i+1) (o:=o++[to]) (e:=ld e lo (ia a8 i) (o.length:Int)) ii htr (GK he hlob ⟨hen1,hen2⟩) (by have:=CB e lo (ia a8 i) (o.length:Int);omega) (by simp;omega)
    refine⟨o',?_,?_,fun x hx=> ?_⟩
    ·show((push o to).bind fun o'=>(aN e).bind fun _=>(w9 a8 i (aZ c to:Int) (mF c o++[((aZ c to:Int),(o.length:Int))]) e).bind fun e=>qw a8 (NI c) live r ((i+1:Nat):Int) o' (mF c o++[((aZ c to:Int),(o.length:Int))]) e)=_
     rw[dI ii,aP ii,hx,HP,<-zT,h1]
     unfold iB
     simp only[Ti hm,Un,Uo,U9,Tr]
    ·rw[h2]
     unfold iB
     simp only[Ti hm,Un,Uo,U9,Tr]
    ·rcases h3 x hx with g|g
     ·rcases Tz.1 g with g|g
      ·exact .inl g
      ·exact .inr (by rw[To.1 g];exact Tn ..)
     ·exact .inr (Tm _ g)
  ·rw[Ti hlv,Ti hlv]
   obtain⟨o',h1,h2,h3⟩:=te h hn hc hlt hl (r:=r) (i:=i+1) (o:=o) (e:=e) ii htr he ii ii
   exact⟨o',h1,h2,fun x hx=>(h3 x hx).imp id (Tm _)⟩
def iD (l:List ba) (c:List Nat) (live:List Bool) (s:Nat) (b:Int):Option Nat:=if live.getD (c.getD (dl l s b) 0) false=true then some (c.getD (dl l s b) 0) else none
theorem Ll {l:List ba} {a8:List Int} (h:qG l a8) {i:Nat} {lo:Int} (hlo:a8[i]? =some lo) {b:Int} (h1:lo<=b) (h2:b<=ia a8 i):Dx a8 b i lo:=by
 refine⟨hlo,h1,fun x hx hxb=> ?_⟩
 obtain⟨j,hj⟩:=TJ.1 hx
 have hjl:=(Tk.1 hj).1
 have hil:=(Tk.1 hlo).1
 have hinc:=T5.1 h.inc
 rw[Tj hjl] at hj
 rw[Tj hil] at hlo
 cases hj
 cases hlo
 rcases U0 j i with g|g|g
 ·have:=hinc j i hjl hil g
  omega
 ·subst g
  exact TM _
 ·exfalso
  have hi1:i+1<a8.length:=by omega
  have e:ia a8 i=a8[i+1]-1:=by
   unfold ia
   rw[Th hi1,TB,Tj hi1]
   rfl
  rw[e] at h2
  rcases Vm (show i+1<=j by omega) with g2|g2
  ·subst g2
   omega
  ·have:=hinc (i+1) j hi1 hjl g2
   omega
theorem tS {l:List ba} {p:List Int×List (List Int)×List Bool} (h:sK l p) (hw:WF l) {s:Nat} (hs:s<=l.length) {c:List Nat} {live:List Bool}:
  ∀{r:List Int} {i:Nat} {st:List Nat×List Sv.Edge},(p.2.1.getD s []).drop i=r->i+r.length=p.1.length->Ec c live p.1 r i st=fh (iD l c live s) (256-p.1.getD i 256).toNat (p.1.getD i 256) st
 |[],i,st,_,hi=>by
  have e:p.1.getD i 256=256:=by
   rw[TB,T2 (by simp at hi;omega)]
   rfl
  rw[e]
  rfl
 |to::r,i,st,hr,hi=>by
  rw[Tu] at hi
  have hil:i<p.1.length:=by omega
  obtain⟨lo,hlo⟩:∃x,p.1[i]? =some x:=⟨_,Tj hil⟩
  have hlob:=h.a8.eG lo (Ts hlo)
  obtain⟨_,hen1,hen2⟩:=GM h.a8 i
  have hle:lo<=ia p.1 i:=by
   unfold ia
   split
   ·rename_i h1
    have hinc:=T5.1 h.a8.inc i (i+1) hil h1 ii
    rw[Tj hil] at hlo
    cases hlo
    rw[TB,Tj h1]
    show p.1[i]<=p.1[i+1]-1
    omega
   ·omega
  have hr':(p.2.1.getD s []).drop (i+1)=r:=by
   rw[<-Vd,hr]
   rfl
  have hto:∀b,lo<=b->b<=ia p.1 i->to=((dl l s b:Nat):Int):=fun b h1 h2=>by
   have hL:=Ll h.a8 hlo h1 h2
   have h3:=pW h hw hs (b:=b) ii ii hL
   have h4:((p.2.1.getD s []).drop i)[0]? =some to:=by rw[hr];rfl
   rw[Uw,Ur,h3] at h4
   exact(TD h4).symm
  have hkey:∀b,lo<=b->b<=ia p.1 i->iD l c live s b=if live.getD (aZ c to) false=true then some (aZ c to) else none:=fun b h1 h2=>by
   unfold iD aZ
   rw[hto b h1 h2,show(((dl l s b:Nat):Int)).toNat=dl l s b by omega]
  have e0:p.1.getD i 0=lo:=b9 hlo
  have e1:p.1.getD i 256=lo:=b9 hlo
  have e2:p.1.getD (i+1) 256=ia p.1 i+1:=by
   unfold ia
   split
   ·rename_i h1
    rw[TB,TB,Tj h1]
    show p.1[i+1]=p.1[i+1]-1+1
    omega
   ·rw[TB,T2 ii]
    rfl
  have ih:=tS h hw hs (c:=c) (live:=live) (r:=r) (i:=i+1) (st:=iB st lo (ia p.1 i) (if live.getD (aZ c to) false=true then some (aZ c to) else none)) hr' ii
  unfold Ec
  rw[e0,ih,e1,e2]
  have hone:=Kn (key:=iD l c live s) (k:=if live.getD (aZ c to) false=true then some (aZ c to) else none) (ia p.1 i-lo).toNat lo st fun x h1 h2=>hkey x h1 ii
  rw[show lo+(((ia p.1 i-lo).toNat:Nat):Int)=ia p.1 i by omega] at hone
  rw[show(256-lo).toNat=((ia p.1 i-lo).toNat+1)+(256-(ia p.1 i+1)).toNat by omega,pM,hone]
  rw[show lo+(((ia p.1 i-lo).toNat+1:Nat):Int)=ia p.1 i+1 by omega]
section
variable {κ κ':Type} [DecidableEq κ] [DecidableEq κ'] {R:κ->κ'->Prop}
def F2 (R:κ->κ'->Prop):List κ->List κ'->Prop
 |[],[]=>True
 |a::r,b::q=>R a b/\F2 R r q
 |_,_=>False
def One (R:κ->κ'->Prop):Prop:=∀a a' b b',R a a'->R b b'->(a=b↔a'=b')
theorem F2.len:∀{K:List κ} {K':List κ'},F2 R K K'->K.length=K'.length
 |[],[],_=>rfl
 |[],_::_,h=>h.elim
 |_::_,[],h=>h.elim
 |a::r,b::q,h=>by rw[Tu,Tu,F2.len h.2]
theorem F2.mem (hR:One R) {a:κ} {a':κ'} (ha:R a a'):∀{K:List κ} {K':List κ'},F2 R K K'->(a∈K↔a'∈K')
 |[],[],_=>by simp
 |[],_::_,h=>h.elim
 |_::_,[],h=>h.elim
 |b::r,b'::q,h=>by
  rw[Tv,Tv,F2.mem hR ha h.2,hR a a' b b' ha h.1]
theorem F2.idx (hR:One R) {a:κ} {a':κ'} (ha:R a a'):∀{K:List κ} {K':List κ'},F2 R K K'->K.idxOf a=K'.idxOf a'
 |[],[],_=>rfl
 |[],_::_,h=>h.elim
 |_::_,[],h=>h.elim
 |b::r,b'::q,h=>by
  rw[Vh,Vh,F2.idx hR ha h.2]
  have:=hR b b' a a' h.1 ha
  by_cases e:b=a
  ·have e':=this.1 e
   have h1:(b==a)=true:=by simpa using e
   have h2:(b'==a')=true:=by simpa using e'
   rw[h1,h2]
  ·have e':¬b'=a':=fun x=>e (this.2 x)
   have h1:(b==a)=false:=by simpa using e
   have h2:(b'==a')=false:=by simpa using e'
   rw[h1,h2]
theorem F2.push {a:κ} {a':κ'} (ha:R a a'):∀{K:List κ} {K':List κ'},F2 R K K'->F2 R (K++[a]) (K'++[a'])
 |[],[],_=>⟨ha,trivial⟩
 |[],_::_,h=>h.elim
 |_::_,[],h=>h.elim
 |b::r,b'::q,h=>⟨h.1,F2.push ha h.2⟩
def S7 (R:κ->κ'->Prop):Option κ->Option κ'->Prop
 |none,none=>True
 |some a,some b=>R a b
 |_,_=>False
theorem Km (hR:One R) {K:List κ} {K':List κ'} {e:List Sv.Edge} (h:F2 R K K') {lo hi:Int}:∀{k:Option κ} {k':Option κ'},S7 R k k'->F2 R (iB (K,e) lo hi k).1 (iB (K',e) lo hi k').1/\(iB (K,e) lo hi k).2=(iB (K',e) lo hi k').2
 |none,none,_=>⟨h,rfl⟩
 |none,some _,hk=>hk.elim
 |some _,none,hk=>hk.elim
 |some a,some a',hk=>by
  have hk':R a a':=hk
  have hm:=h.mem hR hk'
  have hi:=h.idx hR hk'
  have hl:=h.len
  unfold iB
  by_cases g:a∈K
  ·simp only[Th g,Th (hm.1 g)]
   exact⟨h,by rw[hi]⟩
  ·simp only[Ti g,Ti fun x=>g (hm.2 x)]
   exact⟨F2.push (R:=R) hk' h,by rw[hl]⟩
theorem xr (hR:One R) {key:Int->Option κ} {key':Int->Option κ'}:∀(n:Nat) (b:Int) {K:List κ} {K':List κ'} {e:List Sv.Edge},(∀x,b<=x->x<b+n->S7 R (key x) (key' x))->F2 R K K'->F2 R (fh key n b (K,e)).1 (fh key' n b (K',e)).1/\(fh key n b (K,e)).2=(fh key' n b (K',e)).2
 |0,b,K,K',e,_,h=>⟨h,rfl⟩
 |n+1,b,K,K',e,hk,h=>by
  have h1:=Km hR (e:=e) h (lo:=b) (hi:=b) (hk b ii ii)
  have ih:=xr hR (key:=key) (key':=key') n (b+1) (K:=(iB (K,e) b b (key b)).1) (K':=(iB (K',e) b b (key' b)).1) (e:=(iB (K,e) b b (key b)).2) (fun x h2 h3=>hk x ii ii) h1.1
  show F2 R (fh key n (b+1) (iB (K,e) b b (key b))).1 (fh key' n (b+1) (iB (K',e) b b (key' b))).1/\(fh key n (b+1) (iB (K,e) b b (key b))).2=(fh key' n (b+1) (iB (K',e) b b (key' b))).2
  have e1:iB (K',e) b b (key' b)=((iB (K',e) b b (key' b)).1,(iB (K,e) b b (key b)).2):=by rw[h1.2]
  rw[e1]
  exact ih
end
structure AQ (l:List ba) (p:List Int×List (List Int)×List Bool) (c:List Nat) (live:List Bool):Prop where
 comp:sK l p
 wf:WF l
 len:c.length=l.length+1
 lt:∀s,s<l.length+1->c.getD s 0<l.length+1
 iff:∀s t,s<=l.length->t<=l.length->(c.getD s 0=c.getD t 0↔Eqv l s t)
 live:Live (l.length+1) p.2.1 p.2.2 c live
theorem qD {l:List ba} {p:List Int×List (List Int)×List Bool} (h:sK l p) {s:Nat} (hs:s<=l.length):p.2.2.getD s false=ac l s []:=by
 unfold ac
 rw[h.acc,TB]
 rcases TX s l.length with hlt|hge
 ·rw[TE (by simpa using hlt),TO,Tj hlt]
  rfl
 ·rw[T2 hge,TG (by simpa using hge),show s-(l.map (·.acc)).length=0 by rw[Tr];omega]
  rfl
theorem B4 {l:List ba} {p:List Int×List (List Int)×List Bool} (h:sK l p) (hw:WF l):∀(j s:Nat),s<=l.length->QL p.2.1 p.2.2 j s->∃w:List UInt8,ac l s w=true
 |0,s,hs,h1=>⟨[],by rw[<-qD h hs];exact h1⟩
 |j+1,s,hs,⟨to,h1,h2⟩=>by
  obtain⟨i,hi⟩:=TJ.1 h1
  obtain⟨b,_,rfl⟩:=qZ h hw hs hi
  rw[show(((dl l s b.toNat:Nat):Int)).toNat=dl l s b.toNat by omega] at h2
  obtain⟨w,hw'⟩:=B4 h hw j _ (jT hw) h2
  exact⟨b::w,hw'⟩
theorem AW {l:List ba} {p:List Int×List (List Int)×List Bool} (h:sK l p) (hw:WF l):∀(w:List UInt8) (s:Nat),s<=l.length->ac l s w=true->QL p.2.1 p.2.2 w.length s
 |[],s,hs,h1=>by
  show p.2.2.getD s false=true
  rw[qD h hs]
  exact h1
 |b::w,s,hs,h1=>by
  have hb:(0:Int)<=b.toNat/\(b.toNat:Int)<256:=⟨by omega,by have:=TA b;omega⟩
  obtain⟨i,cc,hc⟩:=Ce h.a8 hb.1
  have h2:=pW h hw hs hb.1 hb.2 hc
  refine⟨_,Ts h2,?_⟩
  rw[show(((dl l s b.toNat:Nat):Int)).toNat=dl l s b.toNat by omega]
  exact AW h hw w _ (jT hw) h1
theorem AQ.lv {l:List ba} {p:List Int×List (List Int)×List Bool} {c:List Nat} {live:List Bool} (h:AQ l p c live) {s:Nat} (hs:s<=l.length):live.getD (c.getD s 0) false=true↔∃w:List UInt8,ac l s w=true:=by
 constructor
 ·intro h1
  obtain⟨t,k,h2,h3,h4⟩:=h.live.snd _ h1
  obtain⟨w,hw⟩:=B4 h.comp h.wf k t ii h4
  exact⟨w,by rw[<-hw];exact((h.iff s t hs ii).1 h3.symm) w⟩
 ·rintro⟨w,hw⟩
  exact h.live.all (h.comp.tb h.wf) w.length s ii (AW h.comp h.wf w s hs hw)
def Rc (l l':List ba) (c c':List Nat) (a a':Nat):Prop:=∃s s',s<=l.length/\s'<=l'.length/\c.getD s 0=a/\c'.getD s' 0=a'/\∀w:List UInt8,ac l s w=ac l' s' w
section
variable {l l':List ba} {p p':List Int×List (List Int)×List Bool} {c c':List Nat} {live live':List Bool}
theorem Rc.one (h:AQ l p c live) (h':AQ l' p' c' live'):One (Rc l l' c c'):=by
 rintro a a' b b' ⟨s,s',h1,h2,rfl,rfl,h3⟩ ⟨t,t',g1,g2,rfl,rfl,g3⟩
 rw[h.iff s t h1 g1,h'.iff s' t' h2 g2]
 exact⟨fun e w=>by rw[<-h3,<-g3];exact e w,fun e w=>by rw[h3,g3];exact e w⟩
theorem Ln (h:AQ l p c live) (h':AQ l' p' c' live') {s s':Nat} (hs:s<=l.length) (hs':s'<=l'.length) (e:∀w:List UInt8,ac l s w=ac l' s' w) {x:Int} (h0:0<=x) (h1:x<256):S7 (Rc l l' c c') (iD l c live s x) (iD l' c' live' s' x):=by
 have hb:((UInt8.ofNat x.toNat).toNat:Int)=x:=by
  rw[UQ]
  omega
 have e2:∀w:List UInt8,ac l (dl l s x) w=ac l' (dl l' s' x) w:=fun w=>by
  have:=e (UInt8.ofNat x.toNat::w)
  unfold ac at this
  rw[hb] at this
  exact this
 have hl:=h.lv (s:=dl l s x) (jT h.wf)
 have hl':=h'.lv (s:=dl l' s' x) (jT h'.wf)
 have hiff:live.getD (c.getD (dl l s x) 0) false=true↔live'.getD (c'.getD (dl l' s' x) 0) false=true:=by
  rw[hl,hl']
  exact⟨fun⟨w,hw⟩=>⟨w,by rw[<-e2];exact hw⟩,fun⟨w,hw⟩=>⟨w,by rw[e2];exact hw⟩⟩
 unfold iD
 by_cases g:live.getD (c.getD (dl l s x) 0) false=true
 ·rw[Th g,Th (hiff.1 g)]
  exact⟨dl l s x,dl l' s' x,jT h.wf,jT h'.wf,rfl,rfl,e2⟩
 ·rw[Ti g,Ti fun y=>g (hiff.2 y)]
  trivial
end
section
variable {κ:Type} [DecidableEq κ]
theorem Rk {K:List κ} {e:List Sv.Edge} (h:K.Nodup) {lo hi:Int}:∀{k:Option κ},(iB (K,e) lo hi k).1.Nodup
 |none=>h
 |some k=>by
  unfold iB
  by_cases g:k∈K
  ·simp only[Th g];exact h
  ·simp only[Ti g]
   rw[U8]
   exact⟨h,by simp,fun a ha b hb e=>g (by rw[To.1 hb] at e;rw[<-e];exact ha)⟩
theorem FW {key:Int->Option κ}:∀(n:Nat) (b:Int) {K:List κ} {e:List Sv.Edge},K.Nodup->(fh key n b (K,e)).1.Nodup
 |0,b,K,e,h=>h
 |n+1,b,K,e,h=>by
  have h1:=Rk (e:=e) h (lo:=b) (hi:=b) (k:=key b)
  show(fh key n (b+1) (iB (K,e) b b (key b))).1.Nodup
  have e1:iB (K,e) b b (key b)=((iB (K,e) b b (key b)).1,(iB (K,e) b b (key b)).2):=rfl
  rw[e1]
  exact FW n (b+1) h1
end
theorem I9 {l:List ba} {p:List Int×List (List Int)×List Bool} {c:List Nat} {live:List Bool} (h:AQ l p c live) (hn:l.length<800000000) {s:Nat} (hs:s<=l.length) {row:List Int} (hrow:p.2.1[s]? =some row) {o:List Int} (hnd:(o.map (aZ c)).Nodup) (hor:∀t∈o,0<=t/\t<(l.length+1:Nat)):
  ∃o1 e1,qw p.1 (NI c) live row 0 o (mF c o) []=some (o1,mF c o1,e1)/\(o1.map (aZ c)).Nodup/\(∀t∈o1,0<=t/\t<(l.length+1:Nat))/\(o1.map (aZ c),e1)=fh (iD l c live s) 256 0 (o.map (aZ c),[]):=by
 have hT:=h.comp.tb h.wf
 have hr:=hT.at_ (s:=s) ii
 have hrow':p.2.1.getD s []=row:=b9 hrow
 rw[hrow'] at hr
 have h256:=h.comp.a8.len
 have hol:o.length<=l.length+1:=by
  have:=kA (n:=l.length+1) hnd fun x hx=>by
   obtain⟨t,ht,rfl⟩:=T4.1 hx
   have:=hor t ht
   exact h.lt t.toNat ii
  rwa [Tr] at this
 obtain⟨o1,h1,h2,h3⟩:=te h.comp.a8 (n:=l.length+1) ii h.len h.lt h.live.len (r:=row) (i:=0) (o:=o) (e:=[]) (by rw[hr.2];omega) (fun t ht=>hT.eG row hr.1 t ht) (fun y hy=>by cases hy) (Tp _) (by rw[hr.2];omega)
 have h4:=tS h.comp h.wf hs (c:=c) (live:=live) (r:=row) (i:=0) (st:=(o.map (aZ c),[])) (by rw[hrow'];rfl) (by rw[hr.2];omega)
 have e0:p.1.getD 0 256=0:=b9 h.comp.a8.pos
 rw[e0,show((256:Int)-0).toNat=256 by decide] at h4
 refine⟨o1,(Ec c live p.1 row 0 (o.map (aZ c),[])).2,h1,?_,fun t ht=> ?_,?_⟩
 ·rw[h2,h4]
  exact FW 256 0 hnd
 ·rcases h3 t ht with g|g
  ·exact hor t g
  ·exact hT.eG row hr.1 t g
 ·rw[h2,<-h4]
def Sst (l l':List ba) (s s':Int):Prop:=∀w:List UInt8,ac l s.toNat w=ac l' s'.toNat w
section
variable {l l':List ba} {p p':List Int×List (List Int)×List Bool} {c c':List Nat} {live live':List Bool}
theorem LQ:∀{o o':List Int},(∀t∈o,0<=t/\t<(l.length+1:Nat))->(∀t∈o',0<=t/\t<(l'.length+1:Nat))->F2 (Sst l l') o o'->F2 (Rc l l' c c') (o.map (aZ c)) (o'.map (aZ c'))
 |[],[],_,_,_=>trivial
 |[],_::_,_,_,h=>h.elim
 |_::_,[],_,_,h=>h.elim
 |s::o,s'::o',h1,h2,h=>by
  have g1:=h1 s (Tn ..)
  have g2:=h2 s' (Tn ..)
  exact⟨⟨s.toNat,s'.toNat,by omega,by omega,rfl,rfl,h.1⟩,LQ (fun t ht=>h1 t (Tm _ ht)) (fun t ht=>h2 t (Tm _ ht)) h.2⟩
theorem LP (h:AQ l p c live) (h':AQ l' p' c' live'):∀{o o':List Int},(∀t∈o,0<=t/\t<(l.length+1:Nat))->(∀t∈o',0<=t/\t<(l'.length+1:Nat))->F2 (Rc l l' c c') (o.map (aZ c)) (o'.map (aZ c'))->F2 (Sst l l') o o'
 |[],[],_,_,_=>trivial
 |[],_::_,_,_,h=>h.elim
 |_::_,[],_,_,h=>h.elim
 |s::o,s'::o',h1,h2,hf=>by
  have g1:=h1 s (Tn ..)
  have g2:=h2 s' (Tn ..)
  obtain⟨⟨t,t',t1,t2,t3,t4,t5⟩,hr⟩:=hf
  refine⟨fun w=> ?_,LP h h' (fun t ht=>h1 t (Tm _ ht)) (fun t ht=>h2 t (Tm _ ht)) hr⟩
  have e1:=(h.iff t s.toNat t1 ii).1 t3 w
  have e2:=(h'.iff t' s'.toNat t2 ii).1 t4 w
  rw[<-e1,t5,e2]
end
section
variable {l l':List ba} {p p':List Int×List (List Int)×List Bool} {c c':List Nat} {live live':List Bool}
theorem jc (h:AQ l p c live) (hn:l.length<800000000) {f k:Nat} {o:List Int} {out r:List ba} (hnd:(o.map (aZ c)).Nodup) (hor:∀t∈o,0<=t/\t<(l.length+1:Nat)) (hr:nZ p.1 p.2.1 p.2.2 (NI c) live (f+1) k o (mF c o) out=some r):
  (o.length<=k/\out=r)\/∃(s:Int) (o1:List Int) (e1:List Sv.Edge),o[k]? =some s/\(o1.map (aZ c)).Nodup/\(∀t∈o1,0<=t/\t<(l.length+1:Nat))/\(o1.map (aZ c),e1)=fh (iD l c live s.toNat) 256 0 (o.map (aZ c),[])/\nZ p.1 p.2.1 p.2.2 (NI c) live f (k+1:Nat) o1 (mF c o1) (out++[⟨ac l s.toNat [],e1⟩])=some r:=by
 unfold nZ at hr
 obtain⟨_,hr⟩:=ah hr
 by_cases hk:k<o.length
 ·rw[Th ii] at hr
  obtain⟨s,hs⟩:∃s,o[k]? =some s:=⟨_,Tj hk⟩
  have hsr:=hor s (Ts hs)
  have es:s=((s.toNat:Nat):Int):=by omega
  have hT:=h.comp.tb h.wf
  obtain⟨row,hrow⟩:∃row,p.2.1[s.toNat]? =some row:=⟨_,Tj (by rw[hT.len];omega)⟩
  have hacc:p.2.2[s.toNat]? =some (ac l s.toNat []):=by
   have h1:=qD h.comp (s:=s.toNat) ii
   have hl:s.toNat<p.2.2.length:=by rw[h.comp.acc];simp;omega
   rw[TB,Tj hl] at h1
   rw[Tj hl,<-h1]
   rfl
  rw[cz hs,es,cz hacc,cz hs,es,cz hrow] at hr
  obtain⟨_,hr⟩:=ah hr
  obtain⟨o1,e1,h1,h2,h3,h4⟩:=I9 h hn (s:=s.toNat) ii hrow hnd hor
  rw[h1,HP] at hr
  obtain⟨_,hr⟩:=ay hr
  refine .inr ⟨s,o1,e1,hs,h2,h3,h4,?_⟩
  have ek:((k:Int)+1)=((k+1:Nat):Int):=by omega
  rw[ek] at hr
  exact hr
 ·rw[Ti ii] at hr
  exact .inl ⟨by omega,TD hr⟩
theorem QG:∀{o o':List Int} {k:Nat} {s s':Int},F2 (Sst l l') o o'->o[k]? =some s->o'[k]? =some s'->Sst l l' s s'
 |[],[],k,s,s',_,h,_=>by simp at h
 |[],_::_,_,_,_,h,_,_=>h.elim
 |_::_,[],_,_,_,h,_,_=>h.elim
 |a::o,b::o',0,s,s',h,h1,h2=>by
  simp at h1 h2
  subst h1 h2
  exact h.1
 |a::o,b::o',k+1,s,s',h,h1,h2=>QG h.2 (by simpa using h1) (by simpa using h2)
theorem yI (h:AQ l p c live) (h':AQ l' p' c' live') (hn:l.length<800000000) (hn':l'.length<800000000):
  ∀{f f' k:Nat} {o o':List Int} {out r r':List ba},(o.map (aZ c)).Nodup->(o'.map (aZ c')).Nodup->(∀t∈o,0<=t/\t<(l.length+1:Nat))->(∀t∈o',0<=t/\t<(l'.length+1:Nat))->F2 (Sst l l') o o'->
   nZ p.1 p.2.1 p.2.2 (NI c) live f k o (mF c o) out=some r->nZ p'.1 p'.2.1 p'.2.2 (NI c') live' f' k o' (mF c' o') out=some r'->r=r'
 |0,_,_,_,_,_,_,_,_,_,_,_,_,hr,_=>by cases hr
 |_+1,0,_,_,_,_,_,_,_,_,_,_,_,_,hr'=>by cases hr'
 |f+1,f'+1,k,o,o',out,r,r',g1,g2,g3,g4,hf,hr,hr'=>by
  have hlen:=hf.len
  rcases jc h hn g1 g3 hr with⟨a1,a2⟩|⟨s,o1,e1,a1,a2,a3,a4,a5⟩
  ·rcases jc h' hn' g2 g4 hr' with⟨b1,b2⟩|⟨s',o1',e1',b1,b2,b3,b4,b5⟩
   ·rw[<-a2,b2]
   ·have:=(Tk.1 b1).1
    omega
  ·rcases jc h' hn' g2 g4 hr' with⟨b1,b2⟩|⟨s',o1',e1',b1,b2,b3,b4,b5⟩
   ·have:=(Tk.1 a1).1
    omega
   ·have hs:=QG hf a1 b1
    have r1:=g3 s (Ts a1)
    have r2:=g4 s' (Ts b1)
    have hl:=xr (Rc.one h h') (key:=iD l c live s.toNat) (key':=iD l' c' live' s'.toNat) 256 0 (e:=[]) (fun x x1 x2=>Ln h h' ii ii hs x1 ii) (LQ (c:=c) (c':=c') g3 g4 hf)
    rw[<-a4,<-b4] at hl
    have he:e1=e1':=hl.2
    subst he
    have ha:ac l s.toNat []=ac l' s'.toNat []:=hs []
    rw[ha] at a5
    exact yI h h' hn hn' a2 b2 a3 b3 (LP h h' a3 b3 hl.1) a5 b5
end
theorem jl {l:List ba} {n:Nat} (h:AB n l) (hn:n<800000000) (hw:DR l=some true) (hW:WF l) (h0:l≠[]):∃(p:List Int×List (List Int)×List Bool) (c:List Nat) (live:List Bool),AQ l p c live/\∀r,mu l=some (r,0)->
  (live.getD (c.getD 0 0) false=true/\nZ p.1 p.2.1 p.2.2 (NI c) live (p.2.1.length+1) 0 [0] (mF c [0]) []=some r)\/(¬live.getD (c.getD 0 0) false=true/\r=[]):=by
 have hln:=h.len
 have hpos:0<l.length:=Up.2 h0
 obtain⟨p,hp,hC⟩:=CU h ii
 have hT:=hC.tb hW
 have h256:=hC.a8.len
 have hal:p.2.2.length=l.length+1:=by rw[hC.acc];simp
 obtain⟨_,hc,c,m,rfl,hP,hS,hA⟩:=BJ hT ii ii h256 hal
 have hlt:∀s,s<l.length+1->c.getD s 0<l.length+1:=fun s hs=>Us (hP.lt s hs) hP.le
 obtain⟨live,hlv,hL⟩:=xS hT ii h256 hal hP.len hlt hS hA
 have hK:AQ l p c live:={comp:=hC,wf:=hW,len:=hP.len,lt:=hlt,live:=hL,iff:=fun s t hs ht=>⟨fun e w=>LS hC hW hS hA w s t hs ht e,fun e=>Oj hT ii ii h256 hal (Pf hC hW) (fun s t hs ht e=>by rw[qD hC ii,qD hC ii];exact e []) hc s t ii ii e⟩}
 refine⟨p,c,live,hK,fun r hr=> ?_⟩
 unfold mu at hr
 rw[hw,HP,Th rfl,Ti ii,hp,HP,hc,HP] at hr
 obtain⟨r1,h1,h2⟩:=aa hr
 have h3:r1=r:=Ub Prod.fst (TD h2)
 subst h3
 have hcl:(NI c)[0]? =some ((c.getD 0 0:Nat):Int):=by
  unfold NI
  have:=hP.len
  rw[TO,Tj ii,TB,Tj ii]
  rfl
 have hlv0:live[c.getD 0 0]? =some (live.getD (c.getD 0 0) false):=by
  have h4:=hL.len
  have h5:=hlt 0 ii
  rw[TB (l:=live),Tj ii]
  rfl
 unfold Mx at h1
 rw[hlv,HP,oA hcl,cz hlv0] at h1
 by_cases g:live.getD (c.getD 0 0) false=true
 ·rw[Th g,oA hcl] at h1
  exact .inl ⟨g,h1⟩
 ·rw[Ti g] at h1
  exact .inr ⟨g,(TD h1).symm⟩
theorem eI (w:List UInt8):ac [] 0 w=false:=gw (Tp _) w
theorem mr {r:List ba} (h:mu []=some (r,0)):r=[]:=by
 unfold mu at h
 obtain⟨ok,_,h⟩:=aa h
 cases ok with
 |false=>cases h
 |true=>
  have h:some (([]:List ba),(0:Int))=some (r,0):=h
  exact(Ub Prod.fst (TD h)).symm
theorem Iy {l l':List ba} {n n':Nat} (h:AB n l) (h':AB n' l') (hn:n<800000000) (hn':n'<800000000) (hw:DR l=some true) (hw':DR l'=some true) (hW:WF l) (hW':WF l') (e:∀w:List UInt8,ac l 0 w=ac l' 0 w) {r r':List ba} (hr:mu l=some (r,0)) (hr':mu l'=some (r',0)):r=r':=by
 by_cases h0:l=[]
 ·subst h0
  rw[mr hr]
  by_cases h1:l'=[]
  ·subst h1
   rw[mr hr']
  ·obtain⟨p',c',live',hK',hR'⟩:=jl h' hn' hw' hW' h1
   rcases hR' r' hr' with⟨g,_⟩|⟨_,g⟩
   ·obtain⟨w,hw⟩:=(hK'.lv (s:=0) (TC _)).1 g
    rw[<-e,eI] at hw
    cases hw
   ·exact g.symm
 ·obtain⟨p,c,live,hK,hR⟩:=jl h hn hw hW h0
  by_cases h1:l'=[]
  ·subst h1
   rw[mr hr']
   rcases hR r hr with⟨g,_⟩|⟨_,g⟩
   ·obtain⟨w,hw⟩:=(hK.lv (s:=0) (TC _)).1 g
    rw[e,eI] at hw
    cases hw
   ·exact g
  ·obtain⟨p',c',live',hK',hR'⟩:=jl h' hn' hw' hW' h1
   have hiff:live.getD (c.getD 0 0) false=true↔live'.getD (c'.getD 0 0) false=true:=by
    rw[hK.lv (TC _),hK'.lv (TC _)]
    exact⟨fun⟨w,hw⟩=>⟨w,by rw[<-e];exact hw⟩,fun⟨w,hw⟩=>⟨w,by rw[e];exact hw⟩⟩
   rcases hR r hr with⟨g,g1⟩|⟨g,g1⟩
   ·rcases hR' r' hr' with⟨g',g2⟩|⟨g',g2⟩
    ·have hl:=h.len
     have hl':=h'.len
     exact yI hK hK' ii ii (k:=0) (o:=[0]) (o':=[0]) (by simp) (by simp) (fun t ht=>by rw[To.1 ht];omega) (fun t ht=>by rw[To.1 ht];omega) ⟨fun w=>e w,trivial⟩ g1 g2
    ·exact absurd (hiff.1 g) g'
   ·rcases hR' r' hr' with⟨g',g2⟩|⟨g',g2⟩
    ·exact absurd (hiff.2 g') g
    ·rw[g1,g2]
structure JD (e:List Sv.Edge) (n:Nat) (b:Int):Prop where
 one:∀y∈e,0<=y.lo/\y.lo<=y.hi/\y.hi<b/\0<=y.to/\y.to<n
 pw:e.Pairwise fun x y=>x.hi<y.lo
def Na (e:List Sv.Edge) (x t:Int):Prop:=∃y∈e,y.lo<=x/\x<=y.hi/\y.to=t
theorem JD.ext {e:List Sv.Edge} {n m:Nat} {b v:Int} (h:JD e n b) (hb:0<=b) (hnm:n<=m) (h0:0<=v) (hv:v<m):JD (ld e b b v) m (b+1)/\∀x t,Na (ld e b b v) x t↔Na e x t\/(x=b/\t=v):=by
 unfold ld
 rcases List.eq_nil_or_concat e with rfl|⟨q,p,rfl⟩
 ·refine⟨⟨fun y hy=> ?_,T7 _ _⟩,fun x t=>⟨fun⟨y,hy,h1,h2,h3⟩=> ?_,fun g=> ?_⟩⟩
  ·rw[To.1 hy]
   exact⟨hb,TM _,by show b<b+1;omega,h0,hv⟩
  ·rw[To.1 hy] at h1 h2 h3
   exact .inr ⟨by have h1:b<=x:=h1;have h2:x<=b:=h2;omega,h3.symm⟩
  ·rcases g with⟨y,hy,_⟩|⟨rfl,rfl⟩
   ·cases hy
   ·exact⟨_,To.2 rfl,TM _,TM _,rfl⟩
 ·have hp:=h.one p (by simp)
  have hq:=T1.1 (UJ▸h.pw)
  have hq1:∀y∈q,y.hi<p.lo:=fun y hy=>hq.2.2 y hy p (by simp)
  have hq2:∀y∈q,0<=y.lo/\y.lo<=y.hi/\y.hi<b/\0<=y.to/\y.to<n:=fun y hy=>h.one y (by simp[hy])
  rw[UJ,List.getLast?_append,List.getLast?_singleton]
  simp only[Option.some_or,List.dropLast_concat]
  by_cases g:p.to=v/\p.hi+1=b
  ·rw[Th g]
   refine⟨⟨fun y hy=> ?_,T1.2 ⟨hq.1,T7 _ _,fun y hy z hz=> ?_⟩⟩,fun x t=>⟨fun⟨y,hy,h1,h2,h3⟩=> ?_,fun g=> ?_⟩⟩
   ·rcases Tz.1 hy with hy|hy
    ·have:=hq2 y hy;omega
    ·rw[To.1 hy]
     exact⟨hp.1,by show p.lo<=b;omega,by show b<b+1;omega,h0,hv⟩
   ·rw[To.1 hz]
    exact hq1 y hy
   ·rcases Tz.1 hy with hy|hy
    ·exact .inl ⟨y,Ua _ hy,h1,h2,h3⟩
    ·rw[To.1 hy] at h1 h2 h3
     have h1:p.lo<=x:=h1
     have h2:x<=b:=h2
     have h3:v=t:=h3
     by_cases hx:x=b
     ·exact .inr ⟨hx,h3.symm⟩
     ·exact .inl ⟨p,by simp,h1,by omega,by omega⟩
   ·rcases g with⟨y,hy,h1,h2,h3⟩|⟨h1,h2⟩
    ·rcases Tz.1 hy with hy|hy
     ·exact⟨y,Ua _ hy,h1,h2,h3⟩
     ·rw[To.1 hy] at h1 h2 h3
      exact⟨⟨p.lo,b,v⟩,by simp,h1,by show x<=b;omega,by show v=t;omega⟩
    ·exact⟨⟨p.lo,b,v⟩,by simp,by show p.lo<=x;omega,by show x<=b;omega,h2.symm⟩
  ·rw[Ti g]
   refine⟨⟨fun y hy=> ?_,T1.2 ⟨UJ▸h.pw,T7 _ _,fun y hy z hz=> ?_⟩⟩,fun x t=>⟨fun⟨y,hy,h1,h2,h3⟩=> ?_,fun g=> ?_⟩⟩
   ·rcases Tz.1 hy with hy|hy
    ·have:=h.one y (by rw[UJ];exact hy);omega
    ·rw[To.1 hy]
     exact⟨hb,TM _,by show b<b+1;omega,h0,hv⟩
   ·rw[To.1 hz]
    have:=h.one y (by rw[UJ];exact hy)
    show y.hi<b
    omega
   ·rcases Tz.1 hy with hy|hy
    ·exact .inl ⟨y,hy,h1,h2,h3⟩
    ·rw[To.1 hy] at h1 h2 h3
     exact .inr ⟨by have h1:b<=x:=h1;have h2:x<=b:=h2;omega,h3.symm⟩
   ·rcases g with⟨y,hy,h1⟩|⟨rfl,rfl⟩
    ·exact⟨y,Ua _ hy,h1⟩
    ·exact⟨_,Uq _ (To.2 rfl),TM _,TM _,rfl⟩
section
variable {κ:Type} [DecidableEq κ]
structure lW (key:Int->Option κ) (K:List κ) (e:List Sv.Edge) (b:Int):Prop where
 ed:JD e K.length b
 kn:∀x,0<=x->x<b->∀a,key x=some a->a∈K
 br:∀x t,0<=x->x<b->(Na e x t↔∃a,key x=some a/\t=(K.idxOf a:Int))
theorem nE {K ext:List κ} {a:κ} (h:a∈K):(K++ext).idxOf a=K.idxOf a:=by
 rw[Vb,Th h]
theorem JD.none {e:List Sv.Edge} {n:Nat} {b:Int} (h:JD e n b) {t:Int}:¬Na e b t:=fun⟨y,hy,h1,h2,_⟩=>by
 have:=h.one y hy
 omega
theorem H5 {key:Int->Option κ} {K:List κ} {e:List Sv.Edge} {b:Int} (h:lW key K e b) (hb:0<=b):lW key (iB (K,e) b b (key b)).1 (iB (K,e) b b (key b)).2 (b+1)/\∃ext,(iB (K,e) b b (key b)).1=K++ext:=by
 cases hk:key b with
 |none=>
  refine⟨⟨⟨fun y hy=> ?_,h.ed.pw⟩,fun x h0 h1 a ha=> ?_,fun x t h0 h1=> ?_⟩,[],(TK _).symm⟩
  ·have:=h.ed.one y hy
   exact⟨this.1,this.2.1,by omega,this.2.2.2⟩
  ·by_cases hx:x=b
   ·subst hx;rw[hk] at ha;cases ha
   ·exact h.kn x h0 ii a ha
  ·by_cases hx:x=b
   ·subst hx
    rw[hk]
    exact⟨fun g=>(h.ed.none g).elim,fun⟨a,g,_⟩=>by cases g⟩
   ·exact h.br x t h0 ii
 |some k=>
  unfold iB
  by_cases g:k∈K
  ·simp only[Th g]
   have hi:K.idxOf k<K.length:=TY.2 g
   obtain⟨e1,e2⟩:=h.ed.ext hb (Tp _) (v:=(K.idxOf k:Int)) ii ii
   refine⟨⟨e1,fun x h0 h1 a ha=> ?_,fun x t h0 h1=> ?_⟩,[],(TK _).symm⟩
   ·by_cases hx:x=b
    ·subst hx;rw[hk] at ha;cases ha;exact g
    ·exact h.kn x h0 ii a ha
   ·rw[e2]
    by_cases hx:x=b
    ·subst hx
     rw[hk]
     exact⟨fun g=>g.elim (fun g=>(h.ed.none g).elim) fun g=>⟨k,rfl,g.2⟩,fun⟨a,g1,g2⟩=>by cases g1;exact .inr ⟨rfl,g2⟩⟩
    ·rw[h.br x t h0 ii]
     exact⟨fun g=>g.elim id fun g=>(hx g.1).elim,.inl⟩
  ·simp only[Ti g]
   obtain⟨e1,e2⟩:=h.ed.ext hb (m:=(K++[k]).length) (by simp) (v:=(K.length:Int)) ii (by simp;omega)
   have hnew:(K++[k]).idxOf k=K.length:=by
    rw[Vb,Ti g]
    simp
   refine⟨⟨e1,fun x h0 h1 a ha=> ?_,fun x t h0 h1=> ?_⟩,[k],rfl⟩
   ·by_cases hx:x=b
    ·subst hx;rw[hk] at ha;cases ha;simp
    ·exact Ua _ (h.kn x h0 ii a ha)
   ·rw[e2]
    by_cases hx:x=b
    ·subst hx
     rw[hk]
     exact⟨fun g=>g.elim (fun g=>(h.ed.none g).elim) fun g=>⟨k,rfl,by rw[hnew];exact g.2⟩,fun⟨a,g1,g2⟩=>by cases g1;rw[hnew] at g2;exact .inr ⟨rfl,g2⟩⟩
    ·rw[h.br x t h0 ii]
     constructor
     ·rintro(⟨a,g1,g2⟩|g)
      ·exact⟨a,g1,by rw[nE (h.kn x h0 ii a g1)];exact g2⟩
      ·exact(hx g.1).elim
     ·rintro⟨a,g1,g2⟩
      rw[nE (h.kn x h0 ii a g1)] at g2
      exact .inl ⟨a,g1,g2⟩
theorem Ed {key:Int->Option κ}:∀(n:Nat) (b:Int) {K:List κ} {e:List Sv.Edge},lW key K e b->0<=b->lW key (fh key n b (K,e)).1 (fh key n b (K,e)).2 (b+n)/\∃ext,(fh key n b (K,e)).1=K++ext
 |0,b,K,e,h,_=>by
  rw[show b+((0:Nat):Int)=b by omega]
  exact⟨h,[],(TK _).symm⟩
 |n+1,b,K,e,h,hb=>by
  obtain⟨h1,x1,h2⟩:=H5 h hb
  obtain⟨h3,x2,h4⟩:=Ed n (b+1) h1 ii
  rw[show b+((n+1:Nat):Int)=b+1+(n:Int) by omega]
  refine⟨h3,x1++x2,?_⟩
  show(fh key n (b+1) (iB (K,e) b b (key b))).1=_
  have e1:iB (K,e) b b (key b)=((iB (K,e) b b (key b)).1,(iB (K,e) b b (key b)).2):=rfl
  rw[e1,h4,h2,TP]
theorem lW.start (key:Int->Option κ) (K:List κ):lW key K [] 0:=⟨⟨fun y hy=>(by cases hy),List.Pairwise.nil⟩,fun x h0 h1=>by omega,fun x t h0 h1=>by omega⟩
end
theorem JD.ew {e:List Sv.Edge} {n:Nat} {b:Int} (h:JD e n b):EW n e:=⟨fun y hy=>by have:=h.one y hy;omega,fun i x y hx hy=>by
 obtain⟨h1,h2⟩:=Tk.1 hx
 obtain⟨h3,h4⟩:=Tk.1 hy
 have:=T5.1 h.pw i (i+1) h1 h3 ii
 rwa [h2,h4] at this⟩
structure Dz (l:List ba) (c:List Nat) (live:List Bool) (K:List Nat) (j:Nat) (x:ba):Prop where
 ex:∃s,s<=l.length/\K[j]? =some (c.getD s 0)/\x.acc=ac l s []/\lW (iD l c live s) K x.aF 256
theorem lW.pre {κ:Type} [DecidableEq κ] {key:Int->Option κ} {K ext:List κ} {e:List Sv.Edge} {b:Int} (h:lW key K e b):lW key (K++ext) e b:=⟨⟨fun y hy=>by have:=h.ed.one y hy;rw[Tt];omega,h.ed.pw⟩,fun x h0 h1 a ha=>Ua _ (h.kn x h0 h1 a ha),fun x t h0 h1=>by
 rw[h.br x t h0 h1]
 exact⟨fun⟨a,g1,g2⟩=>⟨a,g1,by rw[nE (h.kn x h0 h1 a g1)];exact g2⟩,fun⟨a,g1,g2⟩=>⟨a,g1,by rw[nE (h.kn x h0 h1 a g1)] at g2;exact g2⟩⟩⟩
theorem Dz.pre {l:List ba} {c:List Nat} {live:List Bool} {K ext:List Nat} {j:Nat} {x:ba} (h:Dz l c live K j x):Dz l c live (K++ext) j x:=by
 obtain⟨s,h1,h2,h3,h4⟩:=h.ex
 refine⟨s,h1,?_,h3,h4.pre⟩
 rw[TE (Tk.1 h2).1,h2]
theorem Da {l:List ba} {p:List Int×List (List Int)×List Bool} {c:List Nat} {live:List Bool} (h:AQ l p c live) (hn:l.length<800000000):
  ∀{f k:Nat} {o:List Int} {out r:List ba},(o.map (aZ c)).Nodup->(∀t∈o,0<=t/\t<(l.length+1:Nat))->out.length=k->k<=o.length->(∀j x,out[j]? =some x->Dz l c live (o.map (aZ c)) j x)->
   nZ p.1 p.2.1 p.2.2 (NI c) live f k o (mF c o) out=some r->∃K ext,K=o.map (aZ c)++ext/\K.Nodup/\r.length=K.length/\∀j x,r[j]? =some x->Dz l c live K j x
 |0,_,_,_,_,_,_,_,_,_,hr=>by cases hr
 |f+1,k,o,out,r,g1,g2,g3,g4,g5,hr=>by
  rcases jc h hn g1 g2 hr with⟨a1,a2⟩|⟨s,o1,e1,a1,a2,a3,a4,a5⟩
  ·subst a2
   exact⟨_,[],(TK _).symm,g1,by rw[Tr];omega,g5⟩
  ·have hs:=g2 s (Ts a1)
   obtain⟨b1,ext,b2⟩:=Ed 256 0 (lW.start (iD l c live s.toNat) (o.map (aZ c))) (TM _)
   rw[<-a4] at b1 b2
   have b2:o1.map (aZ c)=o.map (aZ c)++ext:=b2
   have hlen:o.length<=o1.length:=by
    have:=Ub List.length b2
    rw[Tr,Tt,Tr] at this
    omega
   have hk:k<o.length:=(Tk.1 a1).1
   obtain⟨K,x2,c1,c2,c3,c4⟩:=Da h hn (k:=k+1) a2 a3 (by rw[Tt,g3];rfl) ii (fun j x hx=>by
    rcases TX j out.length with hj|hj
    ·rw[TE hj] at hx
     rw[b2]
     exact(g5 j x hx).pre
    ·rw[TG hj] at hx
     obtain⟨h1,h2⟩:=Tk.1 hx
     have hj':j=k:=by
      simp at h1
      omega
     subst hj'
     simp[g3] at h2
     subst h2
     refine⟨s.toNat,by omega,?_,rfl,b1⟩
     rw[b2,TE (by rw[Tr];exact hk),TO,a1]
     rfl) a5
   exact⟨K,ext++x2,by rw[c1,b2,TP],c2,c3,c4⟩
theorem s8 {n:Nat} {es:List Sv.Edge} (h:EW n es) {x t d:Int} (hb:Na es x t):fZ x es d=t:=by
 obtain⟨y,hy,h1,h2,h3⟩:=hb
 rw[qh h y hy ⟨h1,h2⟩,h3]
theorem uZ {es:List Sv.Edge} {x d:Int} (hb:∀t,¬Na es x t):fZ x es d=d:=u3 fun e he hc=>hb e.to ⟨e,he,hc.1,hc.2,rfl⟩
theorem qx (b:UInt8):(0:Int)<=b.toNat/\(b.toNat:Int)<256:=⟨by omega,by have:=TA b;omega⟩
theorem E3 {l:List ba} {p:List Int×List (List Int)×List Bool} {c:List Nat} {live:List Bool} (h:AQ l p c live) {r:List ba} {K:List Nat} (hK:K.Nodup) (hl:r.length=K.length) (hr:∀j x,r[j]? =some x->Dz l c live K j x):
  ∀(w:List UInt8) (j s:Nat),s<=l.length->K[j]? =some (c.getD s 0)->ac r j w=ac l s w
 |w,j,s,hs,hj=>by
  have hjl:j<r.length:=by
   have:=(Tk.1 hj).1
   omega
  obtain⟨x,hx⟩:∃x,r[j]? =some x:=⟨_,Tj hjl⟩
  obtain⟨s',h1,h2,h3,h4⟩:=(hr j x hx).ex
  rw[h2] at hj
  have he:=(h.iff s' s h1 hs).1 (TD hj)
  cases w with
  |nil=>
   rw[<-he []]
   unfold ac at h3⊢
   rw[hx]
   exact h3
  |cons b w=>
   rw[<-he (b::w)]
   show ac r (dl r j b.toNat) w=ac l (dl l s' b.toNat) w
   have hb:=qx b
   have hd:dl r j b.toNat=(fZ b.toNat x.aF r.length).toNat:=by
    unfold dl
    rw[hx]
   rw[hd]
   have hlv:=h.lv (s:=dl l s' b.toNat) (jT h.wf)
   by_cases g:live.getD (c.getD (dl l s' b.toNat) 0) false=true
   ·have hk:iD l c live s' b.toNat=some (c.getD (dl l s' b.toNat) 0):=by
     unfold iD
     rw[Th g]
    have hm:=h4.kn _ hb.1 hb.2 _ hk
    have hbr:=(h4.br b.toNat (K.idxOf (c.getD (dl l s' b.toNat) 0):Int) hb.1 hb.2).2 ⟨_,hk,rfl⟩
    rw[s8 h4.ed.ew hbr,T9]
    refine E3 h hK hl hr w _ _ (jT h.wf) ?_
    rw[Tj (TY.2 hm),US]
   ·have hk:iD l c live s' b.toNat=none:=by
     unfold iD
     rw[Ti g]
    rw[uZ fun t ht=> ?_,T9,gw (Tp _)]
    ·cases hc:ac l (dl l s' b.toNat) w with
     |false=>rfl
     |true=>exact(g (hlv.2 ⟨w,hc⟩)).elim
    ·obtain⟨a,g1,_⟩:=(h4.br b.toNat t hb.1 hb.2).1 ht
     rw[hk] at g1
     cases g1
theorem Iz {l:List ba} {n:Nat} (h:AB n l) (hn:n<800000000) (hw:DR l=some true) (hW:WF l) {r:List ba} (hr:mu l=some (r,0)):(∀w:List UInt8,ac r 0 w=ac l 0 w)/\WF r:=by
 by_cases h0:l=[]
 ·subst h0
  rw[mr hr]
  exact⟨fun w=>rfl,fun s hs=>by cases hs⟩
 ·obtain⟨p,c,live,hK,hR⟩:=jl h hn hw hW h0
  have hln:=h.len
  rcases hR r hr with⟨g,g1⟩|⟨g,rfl⟩
  ·obtain⟨K,ext,c1,c2,c3,c4⟩:=Da hK ii (k:=0) (o:=[0]) (out:=[]) (by simp) (fun t ht=>by rw[To.1 ht];omega) rfl (by simp) (fun j x hx=>by simp at hx) g1
   refine⟨fun w=>E3 hK c2 c3 c4 w 0 0 (TC _) ?_,fun s hs=> ?_⟩
   ·rw[c1]
    rfl
   ·obtain⟨j,hj⟩:=TJ.1 hs
    obtain⟨s',h1,h2,h3,h4⟩:=(c4 j s hj).ex
    rw[c3]
    exact h4.ed.ew
  ·refine⟨fun w=> ?_,fun s hs=>by cases hs⟩
   rw[eI]
   cases hc:ac l 0 w with
   |false=>rfl
   |true=>exact(g ((hK.lv (TC _)).2 ⟨w,hc⟩)).elim
theorem AZ {n:Nat} {all:List Sv.Edge} (h:EW n all):∀{r pre:List Sv.Edge},all=pre++r->JO n all r pre.length=some (.Nj ())
 |[],_,_=>rfl
 |e::r,pre,ha=>by
  have h1:=h.one e (by rw[ha];simp)
  have ih:=AZ h (r:=r) (pre:=pre++[e]) (by rw[ha];simp)
  rw[Tt] at ih
  have e1:((pre.length:Int)+1)=((pre.length+[e].length:Nat):Int):=by simp
  unfold JO
  rw[Ti ii,Ti ii,Ti ii,e1]
  by_cases hp:0<pre.length
  ·rw[Th ii]
   obtain⟨x,hx⟩:∃x,all[pre.length-1]? =some x:=⟨_,Tj (by rw[ha];simp;omega)⟩
   have h2:=h.adj (pre.length-1) x e hx (by rw[show pre.length-1+1=pre.length by omega,ha];simp)
   rw[show(pre.length:Int)-1=((pre.length-1:Nat):Int) by omega,cz hx,Ti ii]
   exact ih
  ·rw[Ti ii]
   exact ih
theorem AY {n:Nat}:∀{l:List ba},(∀s∈l,s.aF.length<=256)->(∀s∈l,EW n s.aF)->Nx n l=some true
 |[],_,_=>rfl
 |s::r,h1,h2=>by
  have:=h1 s (Tn ..)
  have e:JO n s.aF s.aF 0=some (.Nj ()):=AZ (h2 s (Tn ..)) (pre:=[]) rfl
  unfold Nx
  rw[aP ii,e]
  exact AY (fun x hx=>h1 x (Tm _ hx)) fun x hx=>h2 x (Tm _ hx)
theorem pA {n:Nat} {l:List ba} (h:AB n l) (hn:n<=1000000000) (hw:WF l):DR l=some true:=by
 have:=h.len
 unfold DR
 rw[aP ii]
 exact AY h.row hw
theorem GP {α:Type} {a r:List α} {i:Nat} {x:α} (h:a.drop i=x::r):a[i]? =some x/\a.drop (i+1)=r:=by
 constructor
 ·have:=Ub (·[0]?) h
  simpa using this
 ·have:=Ub List.tail h
  rwa [List.tail_drop] at this
theorem yp {α:Type} {g:α->α->Option Bool} {a:List α} (hg:∀x∈a,g x x=some true):∀{r:List α} {i:Nat},a.drop i=r->jE g a r i=some true
 |[],_,_=>rfl
 |x::r,i,h=>by
  obtain⟨h1,h2⟩:=GP h
  have e1:((i:Int)+1)=((i+1:Nat):Int):=by omega
  unfold jE
  rw[cz h1,hg x (Ts h1),HP,Th rfl,e1]
  exact yp hg h2
theorem nO {α:Type} {g:α->α->Option Bool} {a:List α} (hg:∀x∈a,g x x=some true) (hl:a.length<=1000000000):kH g a a=some true:=by
 unfold kH
 rw[Th rfl,aP hl]
 exact yp hg (i:=0) rfl
theorem qn {a:List Sv.Edge}:∀{r:List Sv.Edge} {i:Nat},a.drop i=r->iV a r i=some true
 |[],_,_=>rfl
 |x::r,i,h=>by
  obtain⟨h1,h2⟩:=GP h
  have e1:((i:Int)+1)=((i+1:Nat):Int):=by omega
  unfold iV
  rw[cz h1,Th (by simp[Ad]),e1]
  exact qn h2
theorem kU {n:Nat} {l:List ba} (h:AB n l) (hn:n<=1000000000):rO l l=some true:=by
 unfold rO
 refine nO (fun x hx=> ?_) (by have:=h.len;omega)
 have:=h.row x hx
 unfold xv qm
 rw[Th (by simp),Th rfl,aP ii]
 exact qn (i:=0) rfl
theorem zQ {l:List ba} {n:Nat} (h:AB n l) (hn:n<800000000) (hw:DR l=some true):∃r,mu l=some (r,0)/\Canon (l.length+1) r:=by
 obtain⟨⟨r,q⟩,hp,hc,_⟩:=Gn h ii
 have hq:q=0:=by
  unfold mu at hp
  rw[hw,HP,Th rfl] at hp
  split at hp
  ·exact(Ub Prod.snd (TD hp)).symm
  ·obtain⟨_,_,hp⟩:=aa hp
   obtain⟨_,_,hp⟩:=aa hp
   obtain⟨_,_,hp⟩:=aa hp
   exact(Ub Prod.snd (TD hp)).symm
 subst hq
 exact⟨r,hp,hc⟩
structure VL (n:Nat) (l:List ba):Prop where
 gd:Gd n l
 ok:gC l=some true
theorem VL.of {n:Nat} {l:List ba} (h:AB n l) (hn:n<900000000) (e:gC l=some true):VL n l:=by
 obtain⟨b,h1,h2⟩:=mS h hn
 rw[e] at h1
 cases h1
 exact⟨h2 rfl,e⟩
theorem VL.mono {n m:Nat} {l:List ba} (h:VL n l) (hn:n<=m):VL m l:=⟨h.gd.mono hn,h.ok⟩
theorem VL.self {n:Nat} {l:List ba} (h:VL n l):VL l.length l:=⟨⟨⟨Tp _,h.gd.row,h.gd.eb⟩,h.gd.wf,h.gd.live⟩,h.ok⟩
theorem VL.wfm {n:Nat} {l:List ba} (h:VL n l) (hn:n<=1000000000):DR l=some true:=pA h.gd.toAB hn h.gd.wf
theorem VL.fix {n:Nat} {l:List ba} (h:VL n l) (hn:n<800000000):mu l=some (l,0):=by
 obtain⟨r,h1,h2⟩:=zQ h.gd.toAB hn (h.wfm ii)
 have h3:=h.ok
 unfold gC at h3
 rw[h1,HP,Th rfl] at h3
 obtain⟨b,h4,h5⟩:=mY (b:=r) h.gd.toAB ii
 rw[h3] at h4
 cases h4
 rw[h1,<-h5 rfl]
theorem VL.min {n:Nat} {l:List ba} (h:AB n l) (hn:n<700000000) (hW:WF l):∃r,mu l=some (r,0)/\VL (l.length+1) r/\∀w:List UInt8,ac r 0 w=ac l 0 w:=by
 have hl:=h.len
 have hw:=pA h ii hW
 obtain⟨r,h1,h2⟩:=zQ h ii hw
 obtain⟨h3,h4⟩:=Iz h ii hw hW h1
 refine⟨r,h1,VL.of h2.toAB ii ?_,h3⟩
 have hw2:=pA h2.toAB ii h4
 obtain⟨r2,h5,h6⟩:=zQ h2.toAB ii hw2
 have h7:r2=r:=Iy h2.toAB h ii ii hw2 hw h4 hW h3 h5 h1
 subst h7
 unfold gC
 rw[h5,HP,Th rfl]
 exact kU h2.toAB ii
theorem VL.ne {n:Nat} {l:List ba} (h:VL n l) (hn:n<800000000) (h0:l≠[]):∃w:List UInt8,ac l 0 w=true:=by
 obtain⟨p,c,live,hK,hR⟩:=jl h.gd.toAB hn (h.wfm ii) h.gd.wf h0
 rcases hR l (h.fix hn) with⟨g,_⟩|⟨_,g⟩
 ·exact(hK.lv (TC _)).1 g
 ·exact(h0 g).elim
theorem VL.nil (n:Nat):VL n []:=by
 refine(VL.of (AB.nil 0) ii ?_).mono (TC _)
 obtain⟨r,h1,h2⟩:=zQ (AB.nil 0) ii (pA (AB.nil 0) ii fun s hs=>by cases hs)
 rw[gC,h1,HP,Th rfl,mr h1]
 exact kU (AB.nil 0) ii
theorem VL.lQ {n:Nat} {l:List ba} (h:VL n l):fY l=some l:=by
 unfold fY
 rw[h.ok]
 rfl
instance :DecidableEq dq:=fun x y=>decidable_of_iff (x.a=y.a/\x.b=y.b) (by cases x;cases y;simp)
theorem r8 {p:dq}:∀{r:List dq} {i:Int},fX p r i=some (if p∈r then i+r.idxOf p else -1)
 |[],i=>rfl
 |x::r,i=>by
  unfold fX
  by_cases h:p=x
  ·subst h
   rw[Th (mm.2 rfl),Th (Tn ..),List.idxOf_cons_self]
   simp
  ·rw[Ti fun e=>h (mm.1 e),r8]
   have hb:(x==p)=false:=by simpa using fun e:x=p=>h e.symm
   by_cases g:p∈r
   ·rw[Th g,Th (Tm _ g),Vh,hb]
    simp
    omega
   ·rw[Ti g,Ti fun e=>(Tv.1 e).elim h g]
def l4 (l:List ba) (s:Int) (w:List UInt8):Bool:=if s<0 then false else ac l s.toNat w
theorem Bh {n:Nat} {b:Int}:∀{es:List Sv.Edge},EW n es->iI b es=some (if fZ b es n<n then fZ b es n else -1)
 |[],_=>by
  rw[show fZ b [] n=n from rfl,Ti ii]
  rfl
 |e::r,h=>by
  have ih:=Bh (b:=b) h.tail
  have h3:=h.one e (Tn ..)
  unfold iI
  by_cases g:e.lo<=b/\b<=e.hi
  ·rw[Th g.1,Th g.2,qh h e (Tn ..) g,Th h3.2.2]
  ·have e1:fZ b (e::r) n=fZ b r n:=by
    unfold fZ
    rw[Uh,Ti g]
   by_cases g1:e.lo<=b
   ·rw[Th g1,Ti fun g2=>g ⟨g1,g2⟩,ih,e1]
   ·rw[Ti g1,ih,e1]
theorem Bg {n:Nat} {l:List ba} (h:Gd n l) {s t:Int} {b:UInt8} (e:jf l s b.toNat=some t) (w:List UInt8):l4 l s (b::w)=l4 l t w:=by
 unfold jf at e
 by_cases h1:s<0
 ·rw[Th h1] at e
  cases e
  unfold l4
  rw[Th h1,Th ii]
 ·rw[Ti h1] at e
  by_cases h2:s>=l.length
  ·rw[Th h2] at e
   cases e
   unfold l4
   rw[Ti h1,Th ii,gw ii]
  ·rw[Ti h2] at e
   obtain⟨j,x,rfl,hx,e⟩:=av e
   obtain⟨_,e⟩:=ah e
   have hw:=h.wf x (Ts hx)
   rw[Bh hw] at e
   have hr:=nH (c:=b.toNat) (n:=l.length) (es:=x.aF) (t:=l.length) (fun e he=>(hw.one e he).2) ii (TM _)
   have hd:dl l j b.toNat=(fZ b.toNat x.aF l.length).toNat:=by
    unfold dl
    rw[hx]
   have e1:l4 l j (b::w)=ac l (dl l j b.toNat) w:=by
    unfold l4
    rw[Ti h1,T9]
    rfl
   rw[e1,hd]
   by_cases g:fZ b.toNat x.aF l.length<l.length
   ·rw[Th g] at e
    cases e
    unfold l4
    rw[Ti ii]
   ·rw[Ti g] at e
    cases e
    unfold l4
    rw[Th ii,gw ii]
theorem vZ {l:List ba} {s:Int}:ir l s=some (l4 l s []):=by
 unfold ir l4
 by_cases h1:s<0
 ·rw[Ti ii,Th h1]
 ·rw[Th ii,Ti h1]
  by_cases h2:s<l.length
  ·obtain⟨x,hx⟩:∃x,l[s.toNat]? =some x:=⟨_,Tj ii⟩
   have e:s=(s.toNat:Int):=by omega
   rw[Th h2,e,cz hx,T9]
   unfold ac
   rw[hx]
  ·rw[Ti h2,gw ii]
theorem rL {c b:Int}:∀{es:List Sv.Edge},(∀e∈es,(e.lo<=c/\c<=e.hi)↔(e.lo<=b/\b<=e.hi))->iI c es=iI b es
 |[],_=>rfl
 |e::r,h=>by
  have h1:=h e (Tn ..)
  have ih:=rL (es:=r) fun x hx=>h x (Tm _ hx)
  unfold iI
  rw[ih]
  by_cases g:e.lo<=c/\c<=e.hi
  ·rw[Th g.1,Th g.2,Th (h1.1 g).1,Th (h1.1 g).2]
  ·have g':¬(e.lo<=b/\b<=e.hi):=fun x=>g (h1.2 x)
   have p:∀z:Int,¬(e.lo<=z/\z<=e.hi)->(if e.lo<=z then if z<=e.hi then some e.to else iI b r else iI b r)=iI b r:=fun z hz=>by
    by_cases z1:e.lo<=z
    ·rw[Th z1,Ti fun z2=>hz ⟨z1,z2⟩]
    ·rw[Ti z1]
   rw[p c g,p b g']
theorem DZ {l:List ba} {s c b:Int} (h:∀(j:Nat) (x:ba),s=(j:Int)->l[j]? =some x->∀e∈x.aF,(e.lo<=c/\c<=e.hi)↔(e.lo<=b/\b<=e.hi)):jf l s c=jf l s b:=by
 unfold jf
 by_cases h1:s<0
 ·rw[Th h1,Th h1]
 ·by_cases h2:s>=l.length
  ·rw[Ti h1,Ti h1,Th h2,Th h2]
  ·rw[Ti h1,Ti h1,Ti h2,Ti h2]
   obtain⟨x,hx⟩:∃x,l[s.toNat]? =some x:=⟨_,Tj ii⟩
   have e:s=(s.toNat:Int):=by omega
   rw[e,cz hx,cz hx,rL (h s.toNat x e hx)]
theorem ry:∀{es:List Sv.Edge} {a r:List Bool},a.length=256->gk es a=some r->r.length=256/\(∀i:Nat,a[i]? =some true->r[i]? =some true)/\∀e∈es,∀i:Nat,((i:Int)=e.lo\/(i:Int)=e.hi+1/\e.hi<255)->r[i]? =some true
 |[],a,r,ha,h=>by
  cases h
  exact⟨ha,fun i hi=>hi,fun e he=>by cases he⟩
 |e::es,a,r,ha,h=>by
  unfold gk at h
  obtain⟨j,x,hj,hj2,hx,h⟩:=dX h
  by_cases g:e.hi<255
  ·rw[Th g] at h
   obtain⟨_,h⟩:=ah h
   obtain⟨j2,x2,hj3,hj4,hx2,h⟩:=dX h
   obtain⟨h1,h2,h3⟩:=ry (by simp[ha]) h
   have hs:∀i:Nat,(a[i]? =some true\/i=j\/i=j2)->r[i]? =some true:=fun i hi=>h2 i ((jg (by simp;omega) i).2 (by
    rcases hi with hi|hi|hi
    ·exact .inl ((jg ii i).2 (.inl hi))
    ·exact .inl ((jg ii i).2 (.inr hi))
    ·exact .inr hi))
   refine⟨h1,fun i hi=>hs i (.inl hi),fun e' he i hi=> ?_⟩
   rcases Tv.1 he with rfl|he
   ·exact hs i (.inr ii)
   ·exact h3 e' he i hi
  ·rw[Ti g] at h
   obtain⟨h1,h2,h3⟩:=ry (by simp[ha]) h
   have hs:∀i:Nat,(a[i]? =some true\/i=j)->r[i]? =some true:=fun i hi=>h2 i ((jg ii i).2 hi)
   refine⟨h1,fun i hi=>hs i (.inl hi),fun e' he i hi=> ?_⟩
   rcases Tv.1 he with rfl|he
   ·exact hs i (.inr ii)
   ·exact h3 e' he i hi
def Ctd (l:List ba) (s:Int) (a:List Bool):Prop:=∀(j:Nat) (x:ba),s=(j:Int)->l[j]? =some x->∀e∈x.aF,∀i:Nat,((i:Int)=e.lo\/(i:Int)=e.hi+1/\e.hi<255)->a[i]? =some true
theorem yx {l:List ba} {s:Int} {a r:List Bool} (ha:a.length=256) (h:vu l s a=some r):r.length=256/\(∀i:Nat,a[i]? =some true->r[i]? =some true)/\Ctd l s r:=by
 unfold vu at h
 by_cases h1:s<0
 ·rw[Th h1] at h
  cases h
  exact⟨ha,fun i hi=>hi,fun j x hj=>by omega⟩
 ·rw[Ti h1] at h
  by_cases h2:s>=l.length
  ·rw[Th h2] at h
   cases h
   exact⟨ha,fun i hi=>hi,fun j x hj hx=>by have:=(Tk.1 hx).1;omega⟩
  ·rw[Ti h2] at h
   obtain⟨j,x,hj,hx,h⟩:=av h
   obtain⟨_,h⟩:=ah h
   obtain⟨g1,g2,g3⟩:=ry ha h
   refine⟨g1,g2,fun j' x' hj' hx'=> ?_⟩
   have:j'=j:=by omega
   subst this
   rw[hx] at hx'
   cases hx'
   exact g3
theorem Ctd.step {l:List ba} {s:Int} {a:List Bool} (h:Ctd l s a) {c:Nat} (h0:0<c) (h1:c<256) (hc:a[c]? =some false):jf l s c=jf l s ((c:Int)-1):=by
 refine DZ fun j x hj hx e he=> ?_
 have g1:(c:Int)≠e.lo:=fun g=>by
  rw[h j x hj hx e he c (.inl g)] at hc
  cases hc
 have g2:(c:Int)≠e.hi+1:=fun g=>by
  rw[h j x hj hx e he c (.inr ⟨g,by omega⟩)] at hc
  cases hc
 omega
theorem JD.app {e:List Sv.Edge} {n m:Nat} {b v:Int} (h:JD e n b) (hb:0<=b) (hnm:n<=m) (h0:0<=v) (hv:v<m):JD (e++[⟨b,b,v⟩]) m (b+1)/\∀x t,Na (e++[⟨b,b,v⟩]) x t↔Na e x t\/(x=b/\t=v):=by
 refine⟨⟨fun y hy=> ?_,T1.2 ⟨h.pw,T7 _ _,fun y hy z hz=> ?_⟩⟩,fun x t=>⟨fun⟨y,hy,h1,h2,h3⟩=> ?_,fun g=> ?_⟩⟩
 ·rcases Tz.1 hy with hy|hy
  ·have:=h.one y hy;omega
  ·rw[To.1 hy]
   exact⟨hb,TM _,by show b<b+1;omega,h0,hv⟩
 ·rw[To.1 hz]
  exact(h.one y hy).2.2.1
 ·rcases Tz.1 hy with hy|hy
  ·exact .inl ⟨y,hy,h1,h2,h3⟩
  ·rw[To.1 hy] at h1 h2 h3
   exact .inr ⟨by have h1:b<=x:=h1;have h2:x<=b:=h2;omega,h3.symm⟩
 ·rcases g with⟨y,hy,h1⟩|⟨rfl,rfl⟩
  ·exact⟨y,Ua _ hy,h1⟩
  ·exact⟨_,Uq _ (To.2 rfl),TM _,TM _,rfl⟩
theorem tR {κ:Type} [DecidableEq κ] {key:Int->Option κ} {K:List κ} {e:List Sv.Edge} {b:Int} (h:lW key K e b) {a:κ} (hk:key b=some a) {e':List Sv.Edge} {K' ext:List κ} (hK:K'=K++ext) (ha:a∈K') (he:JD e' K'.length (b+1)) (hbr:∀x t,Na e' x t↔Na e x t\/(x=b/\t=(K'.idxOf a:Int))):lW key K' e' (b+1):=by
 subst hK
 refine⟨he,fun x h0 h1 y hy=> ?_,fun x t h0 h1=> ?_⟩
 ·by_cases hx:x=b
  ·subst hx;rw[hk] at hy;cases hy;exact ha
  ·exact Ua _ (h.kn x h0 ii y hy)
 ·rw[hbr]
  by_cases hx:x=b
  ·subst hx
   rw[hk]
   exact⟨fun g=>g.elim (fun g=>(h.ed.none g).elim) fun g=>⟨a,rfl,g.2⟩,fun⟨y,g1,g2⟩=>by cases g1;exact .inr ⟨rfl,g2⟩⟩
  ·rw[(h.pre (ext:=ext)).br x t h0 ii]
   exact⟨fun g=>g.elim id fun g=>(hx g.1).elim,.inl⟩
def wT (a b:List ba) (p:dq) (x:Int):Option dq:=(jf a p.a x).bind fun u=>(jf b p.b x).bind fun v=>some ⟨u,v⟩
theorem zL {e:List Sv.Edge} {y:Sv.Edge} {f:Sv.Edge->Sv.Edge} {α:Type} {k:List Sv.Edge->Option α} {r:α} (h:(nV (e++[y]) ((e++[y]).length-1:Int) f).bind k=some r):k (e++[f y])=some r:=by
 obtain⟨j,x,hj,hx,h⟩:=bV h
 have:j=e.length:=by rw[Tt,TQ] at hj;omega
 subst this
 rw[TG (Tp _),Uv] at hx
 cases hx
 rw[Vt _ _ (Tp _),Uv] at h
 exact h
theorem Ie {a b:List ba} {p:dq} {at':List Bool} (h0:at'[0]? =some true) (ha:Ctd a p.a at') (hb:Ctd b p.b at'):
  ∀{m c:Nat} {l:List dq} {e:List Sv.Edge} {q:List dq×List Sv.Edge},c<=256->256<=m+c->m+c<=256->lW (wT a b p) l e c->(0<c->∃e0 y,e=e0++[y]/\y.hi=(c:Int)-1)->dh a b p at' m c l e=some q->lW (wT a b p) q.1 q.2 256/\∃ext,q.1=l++ext:=by
 intro m
 induction m with
 |zero=>
  intro c l e q hm1 hm2 hm h _ hr
  cases hr
  have e1:(c:Int)=256:=by omega
  rw[e1] at h
  exact⟨h,[],(TK _).symm⟩
 |succ m ih=>
  intro c l e q hm1 hm2 hm h hl hr
  have e1:((c:Int)+1)=((c+1:Nat):Int):=by omega
  unfold dh at hr
  obtain⟨j,x,hj,hj2,hx,hr⟩:=gS hr
  have:j=c:=by omega
  subst this
  cases x with
  |true=>
   rw[Th rfl] at hr
   obtain⟨x1,hx1,hr⟩:=aa hr
   obtain⟨y1,hy1,hr⟩:=aa hr
   obtain⟨k,hk,hr⟩:=aa hr
   have hkey:wT a b p j=some ⟨x1,y1⟩:=by
    unfold wT
    rw[hx1,HP,hy1,HP]
   unfold nD at hk
   obtain⟨_,hk⟩:=ah hk
   rw[r8] at hk
   by_cases g:(⟨x1,y1⟩:dq)∈l
   ·rw[Th g] at hk
    have hk:0+(l.idxOf (⟨x1,y1⟩:dq):Int)=k:=TD hk
    have hi:l.idxOf (⟨x1,y1⟩:dq)<l.length:=TY.2 g
    rw[Ti ii] at hr
    obtain⟨_,hr⟩:=ay hr
    obtain⟨_,hr⟩:=ah hr
    have hr:=zL hr
    rw[e1] at hr
    obtain⟨g1,g2⟩:=h.ed.app (v:=k) ii (Tp _) ii ii
    rw[e1] at g1
    have:=tR h hkey (K':=l) (ext:=[]) (TK _).symm g (e1▸g1) (fun x t=>by rw[g2,show k=(l.idxOf (⟨x1,y1⟩:dq):Int) by omega])
    rw[e1] at this
    exact ih (c:=j+1) ii ii ii this (fun _=>⟨e,_,rfl,by show(j:Int)=_;omega⟩) hr
   ·rw[Ti g] at hk
    have hk: -1=k:=TD hk
    rw[Th ii] at hr
    obtain⟨_,hr⟩:=ay hr
    obtain⟨_,hr⟩:=ay hr
    obtain⟨_,hr⟩:=ah hr
    have hr:=zL hr
    rw[e1] at hr
    obtain⟨g1,g2⟩:=h.ed.app (v:=(l.length:Int)) (m:=(l++[(⟨x1,y1⟩:dq)]).length) ii (by simp) ii (by simp;omega)
    have hnew:(l++[(⟨x1,y1⟩:dq)]).idxOf ⟨x1,y1⟩=l.length:=by
     rw[Vb,Ti g]
     simp
    have:=tR h hkey (K':=l++[⟨x1,y1⟩]) (ext:=[⟨x1,y1⟩]) rfl (by simp) g1 (fun x t=>by rw[g2,hnew])
    rw[e1] at this
    obtain⟨r1,ext,r2⟩:=ih (c:=j+1) ii ii ii this (fun _=>⟨e,_,rfl,by show(j:Int)=_;omega⟩) hr
    exact⟨r1,⟨x1,y1⟩::ext,by rw[r2];simp⟩
  |false=>
   rw[Ti (by decide)] at hr
   have hc0:0<j:=by
    rcases Ui j with rfl|g
    ·rw[h0] at hx;cases hx
    ·exact g
   obtain⟨e0,y,rfl,hy⟩:=hl hc0
   obtain⟨_,hr⟩:=ah hr
   have hr:=zL hr
   rw[e1] at hr
   have hkey:wT a b p j=wT a b p ((j:Int)-1):=by
    unfold wT
    rw[ha.step hc0 hj2 hx,hb.step hc0 hj2 hx]
   have hym:y∈e0++[y]:=by simp
   have hyo:=h.ed.one y hym
   obtain⟨u,hu,hut⟩:=(h.br ((j:Int)-1) y.to ii ii).1 ⟨y,hym,by omega,by omega,rfl⟩
   have hmem:=h.kn _ ii ii u hu
   obtain⟨g1,g2⟩:=h.ed.ext (v:=y.to) ii (Tp _) ii ii
   have hx':ld (e0++[y]) j j y.to=e0++[⟨y.lo,j,y.to⟩]:=by
    unfold ld
    rw[List.getLast?_append,List.getLast?_singleton]
    simp only[Option.some_or,List.dropLast_concat]
    rw[Th ⟨trivial,by omega⟩]
   rw[hx'] at g1 g2
   have:=tR h (hkey.trans hu) (K':=l) (ext:=[]) (TK _).symm hmem g1 (fun x t=>by rw[g2,hut])
   rw[e1] at this
   exact ih (c:=j+1) ii ii ii this (fun _=>⟨e0,_,rfl,by show(j:Int)=_;omega⟩) hr
def PrI (a b:List ba) (op:Bool->Bool->Bool) (L:List dq) (j:Nat) (x:ba):Prop:=∃p,L[j]? =some p/\x.acc=op (l4 a p.a []) (l4 b p.b [])/\lW (wT a b p) L x.aF 256
theorem xB {a b:List ba} {is:Bool->Bool->Option Bool} {op:Bool->Bool->Bool} (hop:∀x y,is x y=some (op x y)):∀{f:Nat} {l:List dq} {out r:List ba},out.length<=l.length->(∀j x,out[j]? =some x->PrI a b op l j x)->oh a b is f out.length l out=some r->∃ext,r.length=(l++ext).length/\∀j x,r[j]? =some x->PrI a b op (l++ext) j x
 |0,_,_,_,_,_,hr=>by cases hr
 |f+1,l,out,r,h1,h2,hr=>by
  unfold oh at hr
  obtain⟨_,hr⟩:=ah hr
  by_cases hk:out.length<l.length
  ·rw[Th ii] at hr
   obtain⟨j,p,hj,hp,hr⟩:=av hr
   have:j=out.length:=by omega
   subst this
   rw[vZ,vZ,HP,HP,hop,HP] at hr
   obtain⟨a1,g1,hr⟩:=aa hr
   obtain⟨a2,g2,hr⟩:=aa hr
   obtain⟨q,g3,hr⟩:=aa hr
   obtain⟨_,hr⟩:=ay hr
   obtain⟨c1,c2,c3⟩:=yx (a:=kN) (by unfold kN;rw[Tu,Ty]) g1
   obtain⟨d1,d2,d3⟩:=yx c1 g2
   obtain⟨s1,ext,s2⟩:=Ie (m:=256) (c:=0) (d2 0 (c2 0 rfl)) (fun j x hj hx e he i hi=>d2 i (c3 j x hj hx e he i hi)) d3 ii ii ii (lW.start _ l) (fun h=>by omega) g3
   have e1:((out.length:Int)+1)=(((out++[(⟨op (l4 a p.a []) (l4 b p.b []),q.2⟩:ba)]).length:Nat):Int):=by simp
   rw[e1] at hr
   obtain⟨x2,r1,r2⟩:=xB hop (l:=q.1) (by rw[s2];simp;omega) (fun j x hx=>by
    rcases TX j out.length with hj|hj
    ·rw[TE hj] at hx
     obtain⟨p',b1,b2,b3⟩:=h2 j x hx
     rw[s2]
     exact⟨p',by rw[TE ii];exact b1,b2,b3.pre⟩
    ·rw[TG hj] at hx
     have h4:=(Tk.1 hx).1
     have hj':j=out.length:=by simp at h4;omega
     subst hj'
     rw[Uv] at hx
     cases hx
     exact⟨p,by rw[s2,TE hk];exact hp,rfl,s1⟩) hr
   rw[s2,TP] at r1 r2
   exact⟨ext++x2,r1,r2⟩
  ·rw[Ti ii] at hr
   cases hr
   exact⟨[],by rw[TK];omega,by rw[TK];exact h2⟩
theorem Gc {n:Nat} {a b:List ba} (ha:Gd n a) (hb:Gd n b) (hn:n<=1000000000) {op:Bool->Bool->Bool} {r:List ba} {L:List dq} (hl:r.length=L.length) (hr:∀j x,r[j]? =some x->PrI a b op L j x):∀(w:List UInt8) (j:Nat) (p:dq),L[j]? =some p->ac r j w=op (l4 a p.a w) (l4 b p.b w)
 |w,j,p,hj=>by
  obtain⟨x,hx⟩:∃x,r[j]? =some x:=⟨_,Tj (by have:=(Tk.1 hj).1;omega)⟩
  obtain⟨p',h1,h2,h3⟩:=hr j x hx
  rw[hj] at h1
  cases h1
  cases w with
  |nil=>
   rw[<-h2]
   unfold ac
   rw[hx]
  |cons c w=>
   show ac r (dl r j c.toNat) w=_
   have hc:=qx c
   have hd:dl r j c.toNat=(fZ c.toNat x.aF r.length).toNat:=by
    unfold dl
    rw[hx]
   obtain⟨u,hu,_⟩:=pJ ha hn (s:=p.a) (b:=c.toNat)
   obtain⟨v,hv,_⟩:=pJ hb hn (s:=p.b) (b:=c.toNat)
   have hkey:wT a b p c.toNat=some ⟨u,v⟩:=by
    unfold wT
    rw[hu,HP,hv,HP]
   have hm:=h3.kn _ hc.1 hc.2 _ hkey
   rw[hd,s8 h3.ed.ew ((h3.br c.toNat _ hc.1 hc.2).2 ⟨_,hkey,rfl⟩),T9,Bg ha hu,Bg hb hv]
   exact Gc ha hb hn hl hr w _ ⟨u,v⟩ (by rw[Tj (TY.2 hm),US])
theorem mh {n:Nat} {a b:List ba} (ha:VL n a) (hb:VL n b) (hn:n<=20000) {is:Bool->Bool->Option Bool} {op:Bool->Bool->Bool} (hop:∀x y,is x y=some (op x y)):∃r,jj is a b=some r/\VL (mi a b) r/\∀w:List UInt8,ac r 0 w=op (ac a 0 w) (ac b 0 w):=by
 have h1:=ha.gd.len
 have h2:=hb.gd.len
 have hll:(a.length+2)*(b.length+2)<=20002*20002:=UI ii ii
 have his:∀x y,bu (is x y) fun _=>True:=fun x y=>⟨_,hop x y,trivial⟩
 obtain⟨out,ho,hA⟩:=xA ha.gd hb.gd hn his (f:=(a.length+2)*(b.length+2)+1) (l:=[⟨0,0⟩]) (out:=[]) ⟨fun p hp=>by
  rw[To.1 hp]
  show(-1:Int)<=0/\(0:Int)<(a.length+1:Nat)/\(-1:Int)<=0/\(0:Int)<(b.length+1:Nat)
  omega,by simp⟩ (AB.nil 0) (by simp) (by simp)
 obtain⟨ext,g1,g2⟩:=xB hop (l:=[⟨0,0⟩]) (out:=[]) (by simp) (fun j x hx=>by simp at hx) ho
 have hac:=Gc ha.gd hb.gd ii g1 g2
 have hW:WF out:=fun s hs=>by
  obtain⟨j,hj⟩:=TJ.1 hs
  obtain⟨p,_,_,h3⟩:=g2 j s hj
  rw[g1]
  exact h3.ed.ew
 obtain⟨r,r1,r2,r3⟩:=VL.min hA ii hW
 refine⟨r,?_,r2.mono (by have:=hA.len;unfold mi;omega),fun w=> ?_⟩
 ·unfold jj
  have ho:oh a b is ((a.length+2)*(b.length+2)+1) 0 [⟨0,0⟩] []=some out:=ho
  rw[ha.lQ,HP,hb.lQ,HP,ho,HP,r1]
  rfl
 ·rw[r3,hac w 0 ⟨0,0⟩ rfl]
  rfl
theorem xK {n:Nat} {a b:List ba} (ha:VL n a) (hb:VL n b) (hn:n<=20000):∃r,mq a b=some r/\VL (mi a b) r/\∀w:List UInt8,ac r 0 w=(ac a 0 w&& !ac b 0 w):=by
 unfold mq
 by_cases h1:a=[]
 ·subst h1
  exact⟨[],rfl,VL.nil _,fun w=>by rw[eI];rfl⟩
 ·rw[Ti (by have:=Up.2 h1;omega)]
  by_cases h2:b=[]
  ·subst h2
   obtain⟨r,e1,e2⟩:=lk ha.gd.toAB ii
   subst e2
   rw[Th (show(([]:List ba).length:Int)=0 from rfl),ha.lQ,HP,e1]
   exact⟨r,rfl,ha.self.mono (by unfold mi;simp;omega),fun w=>by rw[eI];simp⟩
  ·rw[Ti (by have:=Up.2 h2;omega)]
   exact mh ha hb hn (op:=fun x y=>x&& !y) fun x y=>by cases x<;>cases y<;>rfl
def wst (b:UInt8) (i:Nat):ba:=⟨false,[⟨b.toNat,b.toNat,(i:Int)+1⟩]⟩
structure yU (s:List UInt8) (l:List ba):Prop where
 len:l.length=s.length+1
 st:∀(i:Nat) (b:UInt8),s[i]? =some b->l[i]? =some (wst b i)
 fin:l[s.length]? =some (⟨true,[]⟩:ba)
theorem xh {s:List UInt8}:∀{n i:Nat} {out o:List ba},i+n=s.length->out.length=i->(∀(j:Nat) (b:UInt8),j<i->s[j]? =some b->out[j]? =some (wst b j))->od s n i out=some o->o.length=s.length/\∀(j:Nat) (b:UInt8),s[j]? =some b->o[j]? =some (wst b j)
 |0,i,out,o,h1,h2,h3,e=>by
  cases e
  exact⟨by omega,fun j b hb=>h3 j b (by have:=(Tk.1 hb).1;omega) hb⟩
 |n+1,i,out,o,h1,h2,h3,e=>by
  unfold od at e
  obtain⟨j,b,hj,hb,e⟩:=av e
  have:j=i:=by omega
  subst this
  obtain⟨_,e⟩:=ay e
  have e1:((j:Int)+1)=((j+1:Nat):Int):=by omega
  have e:od s n ((j:Int)+1) (out++[wst b j])=some o:=e
  rw[e1] at e
  refine xh ii (by simp[h2]) (fun k x hk hx=> ?_) e
  rcases TX k j with g|g
  ·rw[TE ii]
   exact h3 k x g hx
  ·have:k=j:=by omega
   subst this
   rw[hb] at hx
   cases hx
   rw[TG ii,h2,Uv]
   rfl
theorem HA {s:List UInt8} {l:List ba} (e:oa s=some l):yU s l:=by
 unfold oa at e
 obtain⟨_,e⟩:=ah e
 obtain⟨o,h1,e⟩:=aa e
 obtain⟨h2,h3⟩:=xh (n:=s.length) (i:=0) (out:=[]) ii rfl (fun j b hj=>by omega) h1
 unfold push at e
 split at e<;>cases e
 refine⟨by simp[h2],fun i b hb=> ?_,?_⟩
 ·rw[TE (by rw[h2];exact(Tk.1 hb).1)]
  exact h3 i b hb
 ·rw[TG ii,h2,Uv]
  rfl
theorem yU.mA {s:List UInt8} {l:List ba} (h:yU s l):∀(w:List UInt8) (i:Nat),i<=s.length->ac l i w=decide (w=s.drop i)
 |[],i,hi=>by
  unfold ac
  rcases TX i s.length with g|g
  ·rw[h.st i s[i] (Tj g)]
   refine(Uf fun e=> ?_).symm
   have:=Ub List.length e
   rw[Vp] at this
   simp at this
   omega
  ·have:i=s.length:=by omega
   subst this
   rw[h.fin]
   exact(Uc (by simp)).symm
 |b::w,i,hi=>by
  show ac l (dl l i b.toNat) w=_
  rcases TX i s.length with g|g
  ·have hx:=h.st i s[i] (Tj g)
   have hd:s.drop i=s[i]::s.drop (i+1):=TN g
   by_cases hb:b=s[i]
   ·have hdl:dl l i b.toNat=i+1:=by
     unfold dl
     rw[hx,hb]
     show(if(s[i].toNat:Int)<=s[i].toNat/\(s[i].toNat:Int)<=s[i].toNat then(i:Int)+1 else _).toNat=_
     rw[Th ⟨TM _,TM _⟩]
     omega
    rw[hdl,h.mA w (i+1) ii,hd,hb]
    exact decide_eq_decide.2 ⟨fun e=>by rw[e],fun e=>(VA e).2⟩
   ·have hdl:dl l i b.toNat=l.length:=by
     unfold dl
     rw[hx]
     show(if(s[i].toNat:Int)<=b.toNat/\(b.toNat:Int)<=s[i].toNat then(i:Int)+1 else(l.length:Int)).toNat=_
     rw[Ti fun e=>hb (UInt8.toNat_inj.1 ii)]
     omega
    rw[hdl,gw (Tp _),hd]
    exact(Uf fun e=>hb (VA e).1).symm
  ·have:i=s.length:=by omega
   subst this
   have hdl:dl l s.length b.toNat=l.length:=by
    unfold dl
    rw[h.fin]
    show(l.length:Int).toNat=_
    omega
   rw[hdl,gw (Tp _)]
   simp
theorem yU.wf {s:List UInt8} {l:List ba} (h:yU s l):WF l:=fun x hx=>by
 have hlen:=h.len
 obtain⟨i,hi⟩:=TJ.1 hx
 have hil:=(Tk.1 hi).1
 rcases TX i s.length with g|g
 ·rw[h.st i s[i] (Tj g)] at hi
  cases hi
  refine⟨fun e he=> ?_,fun j a b ha hb=> ?_⟩
  ·rw[To.1 he]
   exact⟨TM _,by show(0:Int)<=(i:Int)+1;omega,by show(i:Int)+1<(l.length:Int);omega⟩
  ·have:j+1<1:=(Tk.1 hb).1
   omega
 ·have:i=s.length:=by omega
  subst this
  rw[h.fin] at hi
  cases hi
  exact⟨fun e he=>(by cases he),fun j a b ha=>by simp at ha⟩
theorem mX {κ:Type} [DecidableEq κ] {key:Int->Option κ}:∀(n:Nat) (b:Int) (st:List κ×List Sv.Edge),(∀x,b<=x->x<b+n->key x=none)->fh key n b st=st
 |0,b,st,_=>rfl
 |n+1,b,st,h=>by
  unfold fh
  rw[h b (TM _) ii]
  exact mX n (b+1) st fun x h1 h2=>h x ii ii
theorem H6 {κ:Type} [DecidableEq κ] {key:Int->Option κ} {b:Nat} {a:κ} {K:List κ} (hb:b<256) (h1:key b=some a) (h2:∀x:Int,0<=x->x<256->x≠(b:Int)->key x=none) (ha:a∉K):fh key 256 0 (K,[])=(K++[a],[⟨b,b,K.length⟩]):=by
 have e:(256:Nat)=b+(1+(255-b)):=by omega
 rw[e,pM,mX b 0 _ (fun x h3 h4=>h2 x h3 ii ii),pM,mX (255-b) _ _ (fun x h3 h4=>h2 x ii ii ii)]
 show iB (K,[]) (0+(b:Int)) (0+(b:Int)) (key (0+(b:Int)))=_
 rw[Int.zero_add,h1]
 unfold iB
 simp only[Ti ha]
 rfl
theorem qa {x:Int} (h0:0<=x) (h1:x<256):((UInt8.ofNat x.toNat).toNat:Int)=x:=by
 rw[UQ]
 omega
theorem tz {s:List UInt8} {l:List ba} (h:yU s l) {p:List Int×List (List Int)×List Bool} {c:List Nat} {live:List Bool} (hK:AQ l p c live) (hn:l.length<800000000):
  ∀{f k:Nat} {o:List Int} {r:List ba},k<=s.length+1->o.map (aZ c)=(List.range (min (k+1) (s.length+1))).map (fun i=>c.getD i 0)->(∀t∈o,0<=t/\t<(l.length+1:Nat))->nZ p.1 p.2.1 p.2.2 (NI c) live f k o (mF c o) (l.take k)=some r->r=l
 |0,_,_,_,_,_,_,hr=>by cases hr
 |f+1,k,o,r,hk,ho,hor,hr=>by
  have hlen:=h.len
  have inj:∀i j,i<=s.length->j<=s.length->c.getD i 0=c.getD j 0->i=j:=fun i j hi hj e=>by
   have h1:=(hK.iff i j ii ii).1 e (s.drop i)
   rw[h.mA _ i hi,h.mA _ j hj,Uc rfl] at h1
   have h2:=Ub List.length (TF h1.symm)
   rw[Vp,Vp] at h2
   omega
  have hnd:(o.map (aZ c)).Nodup:=by
   rw[ho]
   refine(VN.2 ?_)
   refine List.Pairwise.imp_of_mem (fun{a b} ha hb hne e=>hne ?_) VU
   exact inj a b (by have:=UO.1 ha;omega) (by have:=UO.1 hb;omega) e
  have hol:o.length=min (k+1) (s.length+1):=by
   have:=Ub List.length ho
   simpa using this
  rcases jc hK hn hnd hor hr with⟨a1,a2⟩|⟨t,o1,e1,a1,a2,a3,a4,a5⟩
  ·have:k=s.length+1:=by omega
   rw[<-a2,UD ii]
  ·have hkl:=(Tk.1 a1).1
   have hk':k<=s.length:=by omega
   have htr:=hor t (Ts a1)
   have hct:c.getD t.toNat 0=c.getD k 0:=by
    have h1:(o.map (aZ c))[k]? =some (aZ c t):=by rw[TO,a1];rfl
    rw[ho,TO,Vy ii] at h1
    exact(TD h1).symm
   have hE:=(hK.iff t.toNat k ii ii).1 hct
   have hstep:∀x:Int,0<=x->x<256->∀w,ac l (dl l t.toNat x) w=decide (UInt8.ofNat x.toNat::w=s.drop k):=fun x x0 x1 w=>by
    rw[<-h.mA _ k hk',<-hE]
    show _=ac l (dl l t.toNat (UInt8.ofNat x.toNat).toNat) w
    rw[qa x0 x1]
   have hkey:∀x:Int,0<=x->x<256->(∀w,UInt8.ofNat x.toNat::w≠s.drop k)->iD l c live t.toNat x=none:=fun x x0 x1 hx=>by
    unfold iD
    rw[Ti fun g=> ?_]
    obtain⟨w,hw⟩:=(hK.lv (jT hK.wf)).1 g
    rw[hstep x x0 x1] at hw
    exact hx w (TF hw)
   have hacc:ac l t.toNat []=ac l k []:=hE []
   rcases TX k s.length with g|g
   ·have hd:s.drop k=s[k]::s.drop (k+1):=TN g
    have hby:=qx s[k]
    have hk1:iD l c live t.toNat (s[k].toNat:Nat)=some (c.getD (k+1) 0):=by
     have hEq:Eqv l (dl l t.toNat s[k].toNat) (k+1):=fun w=>by
      rw[hstep _ hby.1 hby.2,h.mA _ (k+1) ii,hd]
      have:UInt8.ofNat ((s[k].toNat:Int)).toNat=s[k]:=by simp
      rw[this]
      exact decide_eq_decide.2 ⟨fun e=>(VA e).2,fun e=>by rw[e]⟩
     have hc:=(hK.iff _ (k+1) (jT hK.wf) ii).2 hEq
     unfold iD
     rw[Th,hc]
     exact(hK.lv (jT hK.wf)).2 ⟨s.drop (k+1),by rw[hEq,h.mA _ (k+1) ii];simp⟩
    have hnew:c.getD (k+1) 0∉o.map (aZ c):=by
     rw[ho]
     intro hm
     obtain⟨i,hi,e⟩:=T4.1 hm
     have hi:=UO.1 hi
     have:=inj i (k+1) ii ii e
     omega
    rw[H6 (b:=s[k].toNat) ii hk1 (fun x x0 x1 hx=>hkey x x0 x1 fun w e=>by
     rw[hd] at e
     injection e with e _
     exact hx (by rw[<-e,qa x0 x1])) hnew] at a4
    injection a4 with a4 a6
    subst a6
    have hst:=h.st k s[k] (Tj g)
    have e2:l.take k++[(⟨ac l t.toNat [],[⟨(s[k].toNat:Int),(s[k].toNat:Int),((o.map (aZ c)).length:Int)⟩]⟩:ba)]=l.take (k+1):=by
     have e3:ac l k []=false:=by
      unfold ac
      rw[hst]
      rfl
     rw[Ux,hst,hacc,e3,Tr,hol,show min (k+1) (s.length+1)=k+1 by omega]
     rfl
    rw[e2] at a5
    refine tz h hK hn (k:=k+1) ii ?_ a3 a5
    rw[a4,ho,show min (k+1) (s.length+1)=k+1 by omega,show min (k+1+1) (s.length+1)=k+1+1 by omega,List.range_succ (n:=k+1),Un]
    rfl
   ·have hke:k=s.length:=by omega
    subst hke
    rw[mX 256 0 _ (fun x x0 x1=>hkey x x0 ii fun w e=>by simp at e)] at a4
    injection a4 with a4 a6
    subst a6
    have e2:l.take s.length++[(⟨ac l t.toNat [],[]⟩:ba)]=l.take (s.length+1):=by
     have e3:ac l s.length []=true:=by
      unfold ac
      rw[h.fin]
     rw[Ux,h.fin,hacc,e3]
     rfl
    rw[e2] at a5
    refine tz h hK hn (k:=s.length+1) ii ?_ a3 a5
    rw[a4,ho]
    congr 2
    omega
theorem yY {s:List UInt8} (hs:s.length<1000000):∃l,oa s=some l/\VL (s.length+1) l/\∀w:List UInt8,ac l 0 w=decide (w=s):=by
 obtain⟨l,h1,h2⟩:=Hz hs
 have h:=HA h1
 have hlen:=h.len
 have hac:∀w:List UInt8,ac l 0 w=decide (w=s):=fun w=>by
  rw[h.mA w 0 (TC _),Uu]
 obtain⟨r,r1,r2,r3⟩:=VL.min h2 ii h.wf
 have hw:=pA h2 ii h.wf
 obtain⟨p,c,live,hK,hR⟩:=jl h2 ii hw h.wf (List.ne_nil_of_length_pos ii)
 have hrl:r=l:=by
  rcases hR r r1 with⟨_,g⟩|⟨g,_⟩
  ·refine tz h hK ii (k:=0) (o:=[0]) (TC _) ?_ (fun t ht=>by rw[To.1 ht];omega) g
   rw[show min (0+1) (s.length+1)=1 by omega]
   rfl
  ·exact(g ((hK.lv (TC _)).2 ⟨s,by rw[hac];simp⟩)).elim
 subst hrl
 exact⟨r,h1,⟨⟨h2,h.wf,r2.gd.live⟩,r2.ok⟩,hac⟩
theorem B7 {n:Nat} {l:List ba} (h:VL n l) (hn:n<400000000):∃q,jn l=some q/\q.1.length<=n/\(q.2=true↔∃w:List UInt8,ac l 0 w=true):=by
 obtain⟨q,h1,h2,h3⟩:=uO h.gd.toAB hn
 refine⟨q,h1,h2,?_⟩
 rw[h3,h.lQ]
 constructor
 ·intro g
  exact h.ne ii fun e=>g (by rw[e])
 ·rintro⟨w,hw⟩ e
  rw[TD e,eI] at hw
  cases hw
section
variable {κ:Type} [DecidableEq κ]
theorem Oc {K:List κ} {e:List Sv.Edge} {lo hi:Int}:∀{k:Option κ},∀a∈(iB (K,e) lo hi k).1,a∈K\/k=some a
 |none,a,h=> .inl h
 |some k,a,h=>by
  unfold iB at h
  by_cases g:k∈K
  ·simp only[Th g] at h
   exact .inl h
  ·simp only[Ti g] at h
   rcases Tz.1 h with h|h
   ·exact .inl h
   ·exact .inr (by rw[To.1 h])
theorem Bv {key:Int->Option κ}:∀(n:Nat) (b:Int) {K:List κ} {e:List Sv.Edge},∀a∈(fh key n b (K,e)).1,a∈K\/∃x,b<=x/\x<b+n/\key x=some a
 |0,b,K,e,a,h=> .inl h
 |n+1,b,K,e,a,h=>by
  have h:a∈(fh key n (b+1) ((iB (K,e) b b (key b)).1,(iB (K,e) b b (key b)).2)).1:=h
  rcases Bv n (b+1) a h with h|⟨x,h1,h2,h3⟩
  ·rcases Oc a h with h|h
   ·exact .inl h
   ·exact .inr ⟨b,TM _,by omega,h⟩
  ·exact .inr ⟨x,by omega,by omega,h3⟩
end
theorem Mz {l:List ba} {p:List Int×List (List Int)×List Bool} {c:List Nat} {live:List Bool} (h:AQ l p c live) (hn:l.length<800000000) {Q:Nat->Prop} (hQ:∀s x a,s<=l.length->Q (c.getD s 0)->0<=x->x<256->iD l c live s x=some a->Q a):
  ∀{f k:Nat} {o:List Int} {out r:List ba},(o.map (aZ c)).Nodup->(∀t∈o,0<=t/\t<(l.length+1:Nat))->(∀a∈o.map (aZ c),Q a)->out.length=k->k<=o.length->(∀j x,out[j]? =some x->Dz l c live (o.map (aZ c)) j x)->
   nZ p.1 p.2.1 p.2.2 (NI c) live f k o (mF c o) out=some r->∃K ext,K=o.map (aZ c)++ext/\K.Nodup/\r.length=K.length/\(∀j x,r[j]? =some x->Dz l c live K j x)/\∀a∈K,Q a
 |0,_,_,_,_,_,_,_,_,_,_,hr=>by cases hr
 |f+1,k,o,out,r,g1,g2,gq,g3,g4,g5,hr=>by
  rcases jc h hn g1 g2 hr with⟨a1,a2⟩|⟨s,o1,e1,a1,a2,a3,a4,a5⟩
  ·subst a2
   exact⟨_,[],(TK _).symm,g1,by rw[Tr];omega,g5,gq⟩
  ·have hs:=g2 s (Ts a1)
   obtain⟨b1,ext,b2⟩:=Ed 256 0 (lW.start (iD l c live s.toNat) (o.map (aZ c))) (TM _)
   have b3:=Bv (key:=iD l c live s.toNat) 256 0 (K:=o.map (aZ c)) (e:=[])
   rw[<-a4] at b1 b2 b3
   have b2:o1.map (aZ c)=o.map (aZ c)++ext:=b2
   have hlen:o.length<=o1.length:=by
    have:=Ub List.length b2
    rw[Tr,Tt,Tr] at this
    omega
   have hk:k<o.length:=(Tk.1 a1).1
   have hsQ:Q (c.getD s.toNat 0):=gq _ (T4.2 ⟨s,Ts a1,rfl⟩)
   obtain⟨K,x2,c1,c2,c3,c4⟩:=Mz h hn hQ (k:=k+1) a2 a3 (fun a ha=>by
    rcases b3 a ha with g|⟨x,x0,x1,x2⟩
    ·exact gq a g
    ·exact hQ s.toNat x a ii hsQ x0 ii x2) (by rw[Tt,g3];rfl) ii (fun j x hx=>by
    rcases TX j out.length with hj|hj
    ·rw[TE hj] at hx
     rw[b2]
     exact(g5 j x hx).pre
    ·rw[TG hj] at hx
     obtain⟨h1,h2⟩:=Tk.1 hx
     have hj':j=k:=by
      simp at h1
      omega
     subst hj'
     simp[g3] at h2
     subst h2
     refine⟨s.toNat,by omega,?_,rfl,b1⟩
     rw[b2,TE (by rw[Tr];exact hk),TO,a1]
     rfl) a5
   exact⟨K,ext++x2,by rw[c1,b2,TP],c2,c3,c4⟩
theorem VL.J4 {n:Nat} {l:List ba} (h:VL n l) (hn:n<800000000):(∀j,j<l.length->∃u:List UInt8,∀w:List UInt8,ac l j w=ac l 0 (u++w))/\∀i j,i<l.length->j<l.length->(∀w:List UInt8,ac l i w=ac l j w)->i=j:=by
 by_cases h0:l=[]
 ·subst h0
  exact⟨fun j hj=>(by cases hj),fun i j hi=>by cases hi⟩
 ·have hl:=h.gd.len
  obtain⟨p,c,live,hK,hR⟩:=jl h.gd.toAB hn (h.wfm ii) h.gd.wf h0
  rcases hR l (h.fix hn) with⟨_,g⟩|⟨_,g⟩
  ·obtain⟨K,ext,c1,c2,c3,c4,c5⟩:=Mz hK ii (Q:=fun a=>∃(u:List UInt8) (s:Nat),s<=l.length/\c.getD s 0=a/\∀w:List UInt8,ac l s w=ac l 0 (u++w)) (fun s x a hs hq x0 x1 hk=>by
    obtain⟨u,t,t1,t2,t3⟩:=hq
    unfold iD at hk
    by_cases g:live.getD (c.getD (dl l s x) 0) false=true
    ·rw[Th g] at hk
     refine⟨u++[UInt8.ofNat x.toNat],dl l s x,jT hK.wf,TD hk,fun w=> ?_⟩
     have e1:ac l s (UInt8.ofNat x.toNat::w)=ac l (dl l s x) w:=by
      show ac l (dl l s (UInt8.ofNat x.toNat).toNat) w=_
      rw[qa x0 x1]
     rw[<-e1,<-(hK.iff t s t1 hs).1 t2,t3,TP]
     rfl
    ·rw[Ti g] at hk
     cases hk) (k:=0) (o:=[0]) (out:=[]) (by simp) (fun t ht=>by rw[To.1 ht];omega) (fun a ha=>by
    rw[List.map_singleton,To] at ha
    exact⟨[],0,TC _,ha.symm,fun w=>rfl⟩) rfl (by simp) (fun j x hx=>by simp at hx) g
   have hac:=E3 hK c2 c3 c4
   have at_:∀j,j<l.length->∃s,s<=l.length/\K[j]? =some (c.getD s 0):=fun j hj=>by
    obtain⟨x,hx⟩:∃x,l[j]? =some x:=⟨_,Tj hj⟩
    obtain⟨s,s1,s2,_⟩:=(c4 j x hx).ex
    exact⟨s,s1,s2⟩
   refine⟨fun j hj=> ?_,fun i j hi hj e=> ?_⟩
   ·obtain⟨s,s1,s2⟩:=at_ j hj
    obtain⟨u,t,t1,t2,t3⟩:=c5 _ (Ts s2)
    refine⟨u,fun w=> ?_⟩
    rw[hac w j s s1 s2,<-t3,(hK.iff t s t1 s1).1 t2]
   ·obtain⟨s,s1,s2⟩:=at_ i hi
    obtain⟨t,t1,t2⟩:=at_ j hj
    have heq:c.getD s 0=c.getD t 0:=(hK.iff s t s1 t1).2 fun w=>by rw[<-hac w i s s1 s2,<-hac w j t t1 t2,e]
    obtain⟨i1,i2⟩:=Tk.1 s2
    obtain⟨j1,j2⟩:=Tk.1 t2
    rcases U0 i j with g|g|g
    ·exact absurd (by rw[i2,j2,heq]:K[i]=K[j]) (T5.1 c2 i j i1 j1 g)
    ·exact g
    ·exact absurd (by rw[i2,j2,heq]:K[j]=K[i]) (T5.1 c2 j i j1 i1 g)
  ·exact(h0 g).elim
theorem VL.count {n:Nat} {l:List ba} (h:VL n l) (hn:n<800000000) (P:List (List UInt8)) (hP:∀u v:List UInt8,u∉P->v∉P->∀w:List UInt8,ac l 0 (u++w)=ac l 0 (v++w)):l.length<=P.length+1:=by
 obtain⟨h1,h2⟩:=h.J4 hn
 have hex:∃f:Nat->List UInt8,∀j,j<l.length->∀w,ac l j w=ac l 0 (f j++w):=⟨fun j=>if g:j<l.length then(h1 j g).choose else[],fun j g=>by
  simp only[g,VH]
  exact(h1 j g).choose_spec⟩
 obtain⟨f,hf⟩:=hex
 refine uo (m:=l.length) (n:=P.length+1) (fun j=>P.idxOf (f j)) (fun j hj=> ?_) fun i j hi hj e=>h2 i j hi hj fun w=> ?_
 ·have:=List.idxOf_le_length (a:=f j) (l:=P)
  omega
 ·rw[hf i hi,hf j hj]
  have e:P.idxOf (f i)=P.idxOf (f j):=e
  by_cases g:f i∈P
  ·by_cases g':f j∈P
   ·have e1:=US (TY.2 g)
    have e2:=US (TY.2 g')
    have:f i=f j:=by
     rw[<-e1,<-e2]
     simp only[e]
    rw[this]
   ·have a1:=TY.2 g
    have a2:¬P.idxOf (f j)<P.length:=fun x=>g' (TY.1 x)
    omega
  ·by_cases g':f j∈P
   ·have a1:=TY.2 g'
    have a2:¬P.idxOf (f i)<P.length:=fun x=>g (TY.1 x)
    omega
   ·exact hP _ _ g g' w
def ph (W:List (List UInt8)):List (List UInt8):=W.flatMap fun w=>(List.range (w.length+1)).map fun k=>w.take k
theorem qA {W:List (List UInt8)} {u v:List UInt8} (h:u++v∈W):u∈ph W:=by
 refine List.mem_flatMap.2 ⟨_,h,T4.2 ⟨u.length,UO.2 (by rw[Tt];omega),?_⟩⟩
 rw[List.take_left]
theorem vS {n:Nat}:∀{W:List (List UInt8)},(∀w∈W,w.length<=n)->(ph W).length<=W.length*(n+1)
 |[],_=>TC _
 |w::W,h=>by
  have ih:=vS (W:=W) fun x hx=>h x (Tm _ hx)
  have h1:=h w (Tn ..)
  unfold ph at ih⊢
  rw[List.flatMap_cons,Tt,Tr,VO,Tu,Nat.succ_mul]
  omega
end Go.Proofs.YtaagahmkmcnhaaaGreatDoor
