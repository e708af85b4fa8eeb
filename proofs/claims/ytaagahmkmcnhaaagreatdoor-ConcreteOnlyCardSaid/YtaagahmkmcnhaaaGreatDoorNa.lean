/- For ConcreteOnly and ConcreteBack: automata. -/
import Derived.Test.YtaagahmkmcnhaaaGreatDoorMc
set_option linter.unusedVariables false
set_option linter.unusedSimpArgs false
set_option linter.unusedSectionVars false
namespace Go.Proofs.YtaagahmkmcnhaaaGreatDoor
open Sv
def bu {α:Type} (x:Option α) (P:α->Prop):Prop:=∃a,x=some a/\P a
section
variable {α β:Type} {P:α->Prop} {Q:β->Prop}
theorem bu.mono {P':α->Prop} {x:Option α} (h:bu x P) (k:∀a,P a->P' a):bu x P':=by
 obtain⟨a,e,ha⟩:=h
 exact⟨a,e,k a ha⟩
theorem aj {a:α} (h:P a):bu (some a) P:=⟨a,rfl,h⟩
theorem au {x:Option α} {f:α->Option β} (h:bu x P) (k:∀a,P a->bu (f a) Q):bu (x.bind f) Q:=by
 obtain⟨a,rfl,ha⟩:=h
 exact k a ha
theorem ar {c:Prop} [Decidable c] {f:Unit->Option β} (h:c) (k:bu (f ()) Q):bu ((yf c).bind f) Q:=by
 unfold yf
 rw[Th h]
 exact k
theorem a7 {l:List α} {i:Int} {f:α->Option β} (h0:0<=i) (h1:i<l.length) (k:∀x,l[i.toNat]? =some x->x∈l->bu (f x) Q):bu ((cN l i).bind f) Q:=by
 unfold cN
 have h2:i.toNat<l.length:=by omega
 rw[Th h0,Tj h2]
 exact k _ (Tj h2) (TT h2)
theorem eZ {l:List α} {i:Int} {x:α} {f:List α->Option β} (h0:0<=i) (h1:i<l.length) (k:bu (f (l.set i.toNat x)) Q):bu ((kS l i x).bind f) Q:=by
 unfold kS
 rw[Th ⟨h0,h1⟩]
 exact k
theorem FI {l:List α} {i:Int} {g:α->α} {f:List α->Option β} (h0:0<=i) (h1:i<l.length) (k:∀x,l[i.toNat]? =some x->x∈l->bu (f (l.set i.toNat (g x))) Q):bu ((nV l i g).bind f) Q:=by
 unfold nV
 rw[Tl]
 exact a7 h0 h1 k
theorem y9 {m:Nat} {l:List α} {i:Int} {f:α->Option β} (h0:0<=i) (hm:i<m) (hl:l.length=m) (k:∀x,l[i.toNat]? =some x->bu (f x) Q):bu ((SV m l i).bind f) Q:=by
 unfold SV
 have h2:i.toNat<l.length:=by omega
 rw[Th ⟨h0,hm⟩,Tj h2]
 exact k _ (Tj h2)
theorem gY {m:Nat} {l:List α} {i:Int} {x:α} {f:List α->Option β} (h0:0<=i) (hm:i<m) (hl:l.length=m) (k:bu (f (l.set i.toNat x)) Q):bu ((sD m l i x).bind f) Q:=by
 unfold sD
 rw[Th ⟨h0,hm,by omega⟩]
 exact k
theorem b7 {l:List α} {x:α} {f:List α->Option β} (h:l.length<1000000000) (k:bu (f (l++[x])) Q):bu ((push l x).bind f) Q:=by
 unfold push
 rw[Th h]
 exact k
theorem qM {l:List α} {x:α} {Q:List α->Prop} (h:l.length<1000000000) (k:Q (l++[x])):bu (push l x) Q:=by
 unfold push
 rw[Th h]
 exact aj k
theorem ak {c:Prop} [Decidable c] {a b:Option β} (hp:c->bu a Q) (hn:¬c->bu b Q):bu (if c then a else b) Q:=by
 split<;>rename_i h
 ·exact hp h
 ·exact hn h
end
theorem kA:∀{n:Nat} {l:List Nat},l.Nodup->(∀x∈l,x<n)->l.length<=n
 |0,[],_,_=>Tp _
 |0,x::l,_,h=>absurd (h x (Tn ..)) ii
 |n+1,l,h,hb=>by
  have h1:=kA (n:=n) (l:=l.erase n) (h.erase n) fun x hx=>by
   have:=(h.mem_erase_iff).1 hx
   have:=hb x this.2
   omega
  rw[List.length_erase] at h1
  split at h1<;>omega
theorem uo {m n:Nat} (f:Nat->Nat) (hf:∀i,i<m->f i<n) (inj:∀i j,i<m->j<m->f i=f j->i=j):m<=n:=by
 have h:=kA (n:=n) (l:=(List.range m).map f) ?_ ?_
 ·rwa [Tr,VO] at h
 ·rw[U2,VN]
  refine(U2.1 (VU (n:=m))).imp_of_mem fun{a b} ha hb hab e=>hab (inj a b (UO.1 ha) (UO.1 hb) e)
 ·intro x hx
  obtain⟨i,hi,rfl⟩:=T4.1 hx
  exact hf i (UO.1 hi)
def EB (e:Sv.Edge):Prop:=0<=e.lo/\e.lo<256/\0<=e.hi/\e.hi<256
structure AB (n:Nat) (l:List ba):Prop where
 len:l.length<=n
 row:∀s∈l,s.aF.length<=256
 eb:∀s∈l,∀e∈s.aF,EB e
theorem AB.mono {n m:Nat} {l:List ba} (h:AB n l) (hn:n<=m):AB m l:=⟨TR h.len hn,h.row,h.eb⟩
theorem AB.nil (n:Nat):AB n []:=⟨TC _,fun s h=>(by cases h),fun s h=>(by cases h)⟩
structure EW (n:Nat) (es:List Sv.Edge):Prop where
 one:∀e∈es,e.lo<=e.hi/\0<=e.to/\e.to<n
 adj:∀(i:Nat) (x y:Sv.Edge),es[i]? =some x->es[i+1]? =some y->x.hi<y.lo
def WF (l:List ba):Prop:=∀s∈l,EW l.length s.aF
theorem FA {n:Nat} {all:List Sv.Edge}:∀{r pre:List Sv.Edge},all=pre++r->bu (JO n all r pre.length) fun c=>c= .ret false\/c= .Nj ()/\(∀e∈r,e.lo<=e.hi/\0<=e.to/\e.to<n)/\∀(i:Nat) (x y:Sv.Edge),pre.length<=i+1->all[i]? =some x->all[i+1]? =some y->x.hi<y.lo
 |[],pre,h=>aj (.inr ⟨rfl,fun e h=>(by cases h),fun i x y h1 h2 h3=>by
  have h4:=(Tk.1 h3).1
  rw[h,TK] at h4
  omega⟩)
 |e::r,pre,h=>by
  unfold JO
  refine ak (fun _=>aj (.inl rfl)) fun h1=>ak (fun _=>aj (.inl rfl)) fun h2=>ak (fun _=>aj (.inl rfl)) fun h3=> ?_
  have hl:(pre++[e]).length=pre.length+1:=by simp
  have ih:=FA (n:=n) (all:=all) (r:=r) (pre:=pre++[e]) (by rw[h];simp)
  rw[hl] at ih
  have he:all[pre.length]? =some e:=by rw[h];simp
  have fin:∀c:Ctl Bool Unit,(c= .ret false\/c= .Nj ()/\(∀e∈r,e.lo<=e.hi/\0<=e.to/\e.to<n)/\∀(i:Nat) (x y:Sv.Edge),pre.length+1<=i+1->all[i]? =some x->all[i+1]? =some y->x.hi<y.lo)->(∀x y:Sv.Edge,0<pre.length->all[pre.length-1]? =some x->all[pre.length]? =some y->x.hi<y.lo)->
    c= .ret false\/c= .Nj ()/\(∀e'∈e::r,e'.lo<=e'.hi/\0<=e'.to/\e'.to<n)/\∀(i:Nat) (x y:Sv.Edge),pre.length<=i+1->all[i]? =some x->all[i+1]? =some y->x.hi<y.lo:=fun c hc hx=>by
   rcases hc with hc|⟨hc,g1,g2⟩
   ·exact .inl hc
   refine .inr ⟨hc,fun e' he'=> ?_,fun i x y g3 g4 g5=> ?_⟩
   ·rcases Tv.1 he' with rfl|h'
    ·exact⟨by omega,by omega,by omega⟩
    ·exact g1 e' h'
   ·by_cases g:pre.length=i+1
    ·exact hx x y ii (by rw[g];exact g4) (by rw[g];exact g5)
    ·exact g2 i x y ii g4 g5
  refine ak (fun h4=> ?_) fun h4=> ?_
  ·refine a7 ii (by rw[h];simp;omega) fun p hp _=>ak (fun _=>aj (.inl rfl)) fun h5=> ?_
   refine ih.mono fun c hc=>fin c hc fun x y g1 g2 g3=> ?_
   rw[show((pre.length:Int)-1).toNat=pre.length-1 by omega,g2] at hp
   rw[g3] at he
   cases hp
   cases he
   omega
  ·exact ih.mono fun c hc=>fin c hc fun x y g1=>by omega
theorem Fz {n m:Nat}:∀{l:List ba},AB m l->bu (Nx n l) fun b=>b=true->∀s∈l,EW n s.aF
 |[],_=>aj fun _ s h=>(by cases h)
 |s::r,h=>by
  unfold Nx
  have h1:=h.row s (Tn ..)
  refine ar ii (au (FA (pre:=[]) rfl) fun c hc=> ?_)
  rcases hc with rfl|⟨rfl,g1,g2⟩
  ·exact aj fun hb=>by cases hb
  ·refine(Fz (n:=n) (l:=r) ⟨TR (U1 _) h.len,fun s hs=>h.row s (Tm _ hs),fun s hs=>h.eb s (Tm _ hs)⟩).mono fun b hb e t ht=> ?_
   rcases Tv.1 ht with rfl|h'
   ·exact⟨g1,fun i x y=>g2 i x y (TC _)⟩
   ·exact hb e t h'
theorem QW {l:List ba} {n:Nat} (h:AB n l) (hn:n<=1000000000):bu (DR l) fun b=>b=true->WF l:=by
 unfold DR
 have:=h.len
 exact ar ii (Fz h)
def Po (l:List UInt8):Nat:=l.foldl (fun a b=>a*10+(b.toNat-48)) 0
theorem L8 (l:List UInt8) (b:UInt8):Po (l++[b])=Po l*10+(b.toNat-48):=by simp[Po]
theorem yr {u:Nat} (h:u<10):(UInt8.ofNat (48+u)).toNat=48+u:=by
 rw[UQ]
 omega
theorem ju (u:Nat):Po (Go.Lib.decDigits u)=u/\∀b∈Go.Lib.decDigits u,48<=b.toNat:=by
 induction u using Nat.strongRecOn with
 |ind u ih=>
  rw[Go.Lib.decDigits]
  split
  ·rename_i h
   have:=yr h
   refine⟨by show 0*10+((UInt8.ofNat (48+u)).toNat-48)=u;rw[this];omega,fun b hb=> ?_⟩
   rw[To.1 hb,this]
   omega
  ·rename_i h
   obtain⟨h1,h2⟩:=ih (u/10) ii
   have:=yr (u:=u % 10) ii
   refine⟨?_,fun b hb=> ?_⟩
   ·rw[L8,h1,this];omega
   ·rcases Tz.1 hb with hb|hb
    ·exact h2 b hb
    ·rw[To.1 hb,this];omega
theorem uW (n:Nat):fW n=Go.Lib.decDigits n:=Go.Lib.itoa_nonneg n
theorem nC (n:Nat):∀b∈fW n,b≠44:=fun b hb e=>by
 rw[uW] at hb
 have:=(ju n).2 b hb
 subst e
 exact absurd this (by decide)
theorem p9 {m n:Nat} (h:fW m=fW n):m=n:=by
 rw[uW,uW] at h
 rw[<-(ju m).1,<-(ju n).1,h]
def Com (r:List UInt8):Prop:=r=[]\/∃t,r=44::t
theorem zh:∀{a b r s:List UInt8},(∀x∈a,x≠44)->(∀x∈b,x≠44)->Com r->Com s->a++r=b++s->a=b/\r=s
 |[],[],r,s,_,_,_,_,h=>⟨rfl,h⟩
 |[],y::b,r,s,_,hb,hr,hs,h=>by
  rcases hr with rfl|⟨t,rfl⟩
  ·cases h
  ·injection h with h1 _
   exact absurd h1.symm (hb y (Tn ..))
 |x::a,[],r,s,ha,_,hr,hs,h=>by
  rcases hs with rfl|⟨t,rfl⟩
  ·cases h
  ·injection h with h1 _
   exact absurd h1 (ha x (Tn ..))
 |x::a,y::b,r,s,ha,hb,hr,hs,h=>by
  injection h with h1 h2
  obtain⟨h3,h4⟩:=zh (fun z hz=>ha z (Tm _ hz)) (fun z hz=>hb z (Tm _ hz)) hr hs h2
  exact⟨by rw[h1,h3],h4⟩
def sC (cls:List Nat):List Int->List UInt8
 |[]=>[]
 |to::r=>44::fW ((cls.getD to.toNat 0:Nat):Int)++sC cls r
theorem pL (cls:List Nat) (row:List Int):Com (sC cls row):=by
 cases row with
 |nil=>exact .inl rfl
 |cons to r=>exact .inr ⟨_,rfl⟩
theorem Bl (cls:List Nat):∀{r s:List Int},r.length=s.length->sC cls r=sC cls s->∀(i:Nat) (x y:Int),r[i]? =some x->s[i]? =some y->cls.getD x.toNat 0=cls.getD y.toNat 0
 |[],_,_,_,i,x,y,h,_=>by cases h
 |a::r,[],h,_,i,x,y,_,h2=>by cases h2
 |a::r,b::s,hl,h,i,x,y,h1,h2=>by
  unfold sC at h
  injection h with _ h
  obtain⟨h3,h4⟩:=zh (nC _) (nC _) (pL _ _) (pL _ _) h
  cases i with
  |zero=>
   cases h1
   cases h2
   exact p9 h3
  |succ i=>exact Bl cls (by simpa using hl) h4 i x y h1 h2
theorem Bm {cls:List Nat} (hc:∀c∈cls,c<1000000000):∀{row:List Int} {b:List UInt8},(∀t∈row,0<=t/\t<cls.length)->b.length+row.length*22<=1000000->bu (D7 (cls.map fun(n:Nat)=>(n:Int)) row b) fun x=>x=b++sC cls row
 |[],b,_,_=>aj (by simp[sC])
 |to::r,b,h,hb=>by
  unfold D7
  obtain⟨h0,h1⟩:=h to (Tn ..)
  refine a7 h0 (by rw[Tr];exact h1) fun c hc1 _=> ?_
  have h2:to.toNat<cls.length:=by omega
  rw[TO,Tj h2] at hc1
  simp only[UK,T8] at hc1
  have h3:=hc _ (TT h2)
  have h4:(fW c).length<=21:=Go.Lib.itoa_length_le c ii ii
  rw[Tu] at hb
  refine ar ⟨by omega,by omega⟩ (ar ii ?_)
  refine(Bm hc (row:=r) (fun t ht=>h t (Tm _ ht)) (by simp;omega)).mono fun x hx=> ?_
  rw[hx,sC,TB,Tj h2,<-hc1]
  simp
structure Tb (n w:Nat) (next:List (List Int)):Prop where
 len:next.length=n
 row:∀r∈next,r.length=w
 eG:∀r∈next,∀t∈r,0<=t/\t<n
abbrev NI (cls:List Nat):List Int:=cls.map fun(n:Nat)=>(n:Int)
def nU (cls:List Nat) (next:List (List Int)) (s:Nat):List UInt8:=fW ((cls.getD s 0:Nat):Int)++sC cls (next.getD s [])
theorem b9 {α:Type} {l:List α} {i:Nat} {d x:α} (h:l[i]? =some x):l.getD i d=x:=by rw[TB,h];rfl
theorem Kd {n w:Nat} {cls:List Nat} {next:List (List Int)} (hT:Tb n w next) (hl:cls.length=n) (hc:∀c∈cls,c<1000000000) (hw:w<=256) {s:Nat} (hs:s<n):bu (HU (NI cls) next s) fun x=>x=nU cls next s:=by
 unfold HU
 have h1:s<cls.length:=by omega
 have h2:s<next.length:=by rw[hT.len];exact hs
 refine a7 ii (by rw[Tr];omega) fun c hc1 _=> ?_
 rw[show((s:Int)).toNat=s by omega,TO,Tj h1] at hc1
 simp only[UK,T8] at hc1
 have h3:=hc _ (TT h1)
 refine ar ⟨by omega,by omega⟩ (a7 ii ii fun row hr hm=> ?_)
 have h4:=hT.row row hm
 have h5:(fW c).length<=21:=Go.Lib.itoa_length_le c ii ii
 refine ar ii ((Bm hc (fun t ht=>by rw[hl];exact hT.eG row hm t ht) ii).mono fun x hx=> ?_)
 rw[show((s:Int)).toNat=s by omega] at hr
 rw[hx,nU,b9 hr,b9 (Tj h1),hc1]
theorem Bn {n w:Nat} {cls:List Nat} {next:List (List Int)} (hT:Tb n w next) {s t:Nat} (hs:s<n) (ht:t<n) (h:nU cls next s=nU cls next t):cls.getD s 0=cls.getD t 0/\∀(i:Nat) (x y:Int),(next.getD s [])[i]? =some x->(next.getD t [])[i]? =some y->cls.getD x.toNat 0=cls.getD y.toNat 0:=by
 unfold nU at h
 obtain⟨h1,h2⟩:=zh (nC _) (nC _) (pL _ _) (pL _ _) h
 have g:∀s,s<n->(next.getD s []).length=w:=fun s hs=>by
  have h3:s<next.length:=by rw[hT.len];exact hs
  rw[b9 (Tj h3)]
  exact hT.row _ (TT h3)
 exact⟨p9 h1,Bl cls (by rw[g s hs,g t ht]) h2⟩
structure Sn (seen:List (List UInt8×Int)):Prop where
 nd:(seen.map (·.1)).Nodup
 num:∀(j:Nat) (p:List UInt8×Int),seen[j]? =some p->p.2=(j:Int)
theorem gP:∀{κ α:Type} [DecidableEq κ] {seen:List (κ×α)} {x:κ} {k:α},cH x seen=some k->(x,k)∈seen
 |_,_,_,p::r,x,k,h=>by
  unfold cH at h
  split at h
  ·rename_i e
   cases h
   rw[<-e]
   exact Tn ..
  ·exact Tm _ (gP h)
theorem rq:∀{κ α:Type} [DecidableEq κ] {seen:List (κ×α)} {x:κ},cH x seen=none->∀p∈seen,p.1≠x
 |_,_,_,q::r,x,h,p,hp=>by
  unfold cH at h
  split at h
  ·cases h
  ·rename_i e
   rcases Tv.1 hp with rfl|hp
   ·exact e
   ·exact rq h p hp
theorem vc:∀{κ α:Type} [DecidableEq κ] {seen:List (κ×α)} {x y:κ} {k v:α},cH x seen=some k->cH x (seen++[(y,v)])=some k
 |_,_,_,p::r,x,y,k,v,h=>by
  unfold cH at h
  rw[Vf]
  unfold cH
  split at h
  ·rename_i e;rw[Th e];exact h
  ·rename_i e;rw[Ti e];exact vc h
theorem qk:∀{κ α:Type} [DecidableEq κ] {seen:List (κ×α)} {x:κ} {v:α},cH x seen=none->cH x (seen++[(x,v)])=some v
 |_,_,_,[],x,v,_=>by simp[cH]
 |_,_,_,p::r,x,v,h=>by
  unfold cH at h
  rw[Vf]
  unfold cH
  split at h
  ·cases h
  ·rename_i e;rw[Ti e];exact qk h
structure RI (cls:List Nat) (next:List (List Int)) (n k:Nat) (seen:List (List UInt8×Int)) (c:List Nat):Prop where
 len:c.length=n
 sn:Sn seen
 le:seen.length<=k
 O9:∀t,t<k->cH (nU cls next t) seen=some ((c.getD t 0:Nat):Int)
 P3:∀p∈seen,∃t,t<k/\p.1=nU cls next t
theorem LL {l:List Nat} {i j v:Nat} (hi:i<l.length):(l.set i v).getD j 0=if j=i then v else l.getD j 0:=by
 rw[TB,Ud]
 by_cases h:j=i
 ·subst h;simp[hi]
 ·have:i≠j:=fun e=>h e.symm
  simp[h,this,TB]
theorem Fq (c:List Nat) (i v:Nat):(NI c).set i (v:Int)=NI (c.set i v):=by
 show(List.map _ c).set i _=List.map _ _
 rw[List.map_set]
theorem pR {n w:Nat} {cls:List Nat} {next:List (List Int)} (hT:Tb n w next) (hn:n<=1000000000) (hl:cls.length=n) (hc:∀c∈cls,c<1000000000) (hw:w<=256):
  ∀{r:List (List Int)} {k:Nat} {seen:List (List UInt8×Int)} {c:List Nat},next.drop k=r->k<=n->RI cls next n k seen c->bu (zB (NI cls) next r k seen (NI c)) fun p=>∃c',p.2=NI c'/\RI cls next n n p.1 c'
 |[],k,seen,c,hr,hk,h=>by
  have:next.length<=k:=by
   rw[Vw] at hr;exact hr
  rw[hT.len] at this
  have e:k=n:=by omega
  subst e
  exact aj ⟨c,rfl,h⟩
 |row::r,k,seen,c,hr,hk,h=>by
  have hkn:k<n:=by
   rcases TX k n with g|g
   ·exact g
   ·rw[TV (by rw[hT.len];exact g)] at hr;cases hr
  have hr':next.drop (k+1)=r:=by
   rw[<-Vd,hr];rfl
  unfold zB
  refine au (Kd hT hl hc hw hkn) fun x hx=> ?_
  subst hx
  have hlen:(k:Int)<((NI c).length:Int):=by rw[Tr,h.len];omega
  have key:∀(v:Nat) (seen':List (List UInt8×Int)),(∀t,t<k->cH (nU cls next t) seen'=cH (nU cls next t) seen)->cH (nU cls next k) seen'=some ((v:Nat):Int)->Sn seen'->seen'.length<=k+1->(∀p∈seen',∃t,t<k+1/\p.1=nU cls next t)->RI cls next n (k+1) seen' (c.set k v):=fun v seen' h1 h2 h3 h4 h5=>
   ⟨by rw[Tx,h.len],h3,h4,fun t ht=>by
    rw[LL (by rw[h.len];exact hkn)]
    by_cases e:t=k
    ·rw[Th e,e];exact h2
    ·rw[Ti e,h1 t ii];exact h.O9 t ii,h5⟩
  split
  ·rename_i v hv
   obtain⟨j,hj⟩:=TJ.1 (gP hv)
   have hvj:=h.sn.num j _ hj
   simp only at hvj
   subst hvj
   refine eZ ii hlen ?_
   rw[show((k:Int)).toNat=k by omega,Fq]
   exact pR hT hn hl hc hw hr' hkn (key j seen (fun _ _=>rfl) hv h.sn (by have:=h.le;omega) fun p hp=>by
    obtain⟨t,h1,h2⟩:=h.P3 p hp
    exact⟨t,by omega,h2⟩)
  ·rename_i hv
   refine eZ ii hlen ?_
   rw[show((k:Int)).toNat=k by omega,Fq]
   refine pR hT hn hl hc hw hr' hkn (key seen.length _ (fun t ht=> ?_) (qk hv) ⟨?_,fun j p hj=> ?_⟩ (by rw[Tt,TQ];have:=h.le;omega) fun p hp=> ?_)
   ·rw[h.O9 t ht];exact vc (h.O9 t ht)
   ·rw[Un,U8]
    refine⟨h.sn.nd,by simp,fun a ha b hb=> ?_⟩
    obtain⟨p,hp,rfl⟩:=T4.1 ha
    simp only[Uo,U9,To] at hb
    subst hb
    exact rq hv p hp
   ·rcases U0 j seen.length with g|g|g
    ·rw[TE g] at hj;exact h.sn.num j p hj
    ·subst g
     rw[TG (Tp _),Uv] at hj
     cases hj
     rfl
    ·rw[TG ii,show j-seen.length=(j-seen.length-1)+1 by omega] at hj;cases hj
   ·rcases Tz.1 hp with hp|hp
    ·obtain⟨t,h1,h2⟩:=h.P3 p hp
     exact⟨t,by omega,h2⟩
    ·rw[To.1 hp]
     exact⟨k,by omega,rfl⟩
structure Pt (n m:Nat) (c:List Nat):Prop where
 len:c.length=n
 le:m<=n
 lt:∀s,s<n->c.getD s 0<m
 P3:∀j,j<m->∃s,s<n/\c.getD s 0=j
theorem Sn.key {seen:List (List UInt8×Int)} (h:Sn seen) {x y:List UInt8} {k:Int} (h1:(x,k)∈seen) (h2:(y,k)∈seen):x=y:=by
 obtain⟨i,hi⟩:=TJ.1 h1
 obtain⟨j,hj⟩:=TJ.1 h2
 have e1:=h.num i _ hi
 have e2:=h.num j _ hj
 simp only at e1 e2
 have:i=j:=by omega
 subst this
 rw[hi] at hj
 cases hj
 rfl
theorem RI.same {cls:List Nat} {next:List (List Int)} {n:Nat} {seen:List (List UInt8×Int)} {c:List Nat} (h:RI cls next n n seen c) {s t:Nat} (hs:s<n) (ht:t<n) (e:c.getD s 0=c.getD t 0):nU cls next s=nU cls next t:=by
 have h1:=gP (h.O9 s hs)
 have h2:=gP (h.O9 t ht)
 rw[<-e] at h2
 exact h.sn.key h1 h2
theorem RI.pt {cls:List Nat} {next:List (List Int)} {n:Nat} {seen:List (List UInt8×Int)} {c:List Nat} (h:RI cls next n n seen c):Pt n seen.length c:=by
 refine⟨h.len,h.le,fun s hs=> ?_,fun j hj=> ?_⟩
 ·obtain⟨i,hi⟩:=TJ.1 (gP (h.O9 s hs))
  have e:=h.sn.num i _ hi
  have:=(Tk.1 hi).1
  simp only at e
  omega
 ·have hp:=Tj hj
  obtain⟨t,h1,h2⟩:=h.P3 _ (TT hj)
  refine⟨t,h1,?_⟩
  have h3:=gP (h.O9 t h1)
  obtain⟨i,hi⟩:=TJ.1 h3
  have e:=h.sn.num i _ hi
  simp only at e
  have hi':=(Tk.1 hi).1
  have hnd:=h.sn.nd
  have e3:(seen.map (·.1))[i]? =(seen.map (·.1))[j]? :=by
   rw[TO,TO,hi,hp]
   simp[h2]
  have:=(List.getElem?_inj (by rw[Tr];exact hi') hnd).1 e3
  omega
theorem J2 {m:Nat} {G:Nat->Nat} (surj:∀i,i<m->∃j,j<m/\G j=i) {a b:Nat} (ha:a<m) (hb:b<m) (hG:G a<m) (e:G a=G b):a=b:=by
 have hH:∃H:Nat->Nat,∀i,i<m->H i<m/\G (H i)=i:=⟨fun i=>if h:i<m then(surj i h).choose else 0,fun i h=>by
  simp only[h,VH]
  exact(surj i h).choose_spec⟩
 obtain⟨H,hH⟩:=hH
 rcases Nat.decEq a b with hne|hne
 ·exfalso
  have hd:∃d,d<m/\G d=G a/\d≠H (G a):=by
   rcases Nat.decEq a (H (G a)) with h|h
   ·exact⟨a,ha,rfl,h⟩
   ·exact⟨b,hb,e.symm,fun h'=>hne (h.trans h'.symm)⟩
  obtain⟨d,hd1,hd2,hd3⟩:=hd
  have:=uo (m:=m+1) (n:=m) (fun i=>if i<m then H i else d) (fun i hi=>by
   show(if i<m then H i else d)<m
   split
   ·rename_i h;exact(hH i h).1
   ·exact hd1) fun i j hi hj hij=>by
   change (if i<m then H i else d)=(if j<m then H j else d) at hij
   split at hij<;>split at hij<;>rename_i h1 h2
   ·rw[<-(hH i h1).2,<-(hH j h2).2,hij]
   ·exfalso
    apply hd3
    rw[<-hij,<-hd2,<-hij,(hH i h1).2]
   ·exfalso
    apply hd3
    rw[hij,<-hd2,hij,(hH j h2).2]
   ·omega
  omega
 ·exact hne
def Dv (n:Nat) (next:List (List Int)) (c:List Nat):Prop:=∀s t,s<n->t<n->c.getD s 0=c.getD t 0->∀(i:Nat) (x y:Int),(next.getD s [])[i]? =some x->(next.getD t [])[i]? =some y->c.getD x.toNat 0=c.getD y.toNat 0
theorem BK {n w:Nat} {next:List (List Int)} (hT:Tb n w next) (hn0:0<n) (hn:n<1000000000) (hw:w<=256) {A:Nat->Nat->Prop}:
  ∀{f:Nat} {cls:List Nat} {many:Nat},cls.length=n->(∀c∈cls,c<1000000000)->(∀s t,s<n->t<n->cls.getD s 0=cls.getD t 0->A s t)->(many=0\/Pt n many cls)->many<=n->n<f+many->bu (zC next f (NI cls) many) fun r=>∃c m,r=NI c/\Pt n m c/\Dv n next c/\∀s t,s<n->t<n->c.getD s 0=c.getD t 0->A s t
 |0,cls,many,_,_,_,_,h1,h2=>by omega
 |f+1,cls,many,hl,hc,hA,hp,hmn,hf=>by
  unfold zC
  refine ar (by rw[hT.len];exact hn) (ar (by rw[hT.len];omega) ?_)
  have h0:RI cls next n 0 [] (List.replicate n 0):=⟨by simp,⟨by simp,fun j p h=>by cases h⟩,Tp _,fun t ht=>by omega,fun p hp=>by cases hp⟩
  have e0:List.replicate next.length (0:Int)=NI (List.replicate n 0):=by rw[hT.len];simp[NI]
  rw[e0]
  refine au (pR hT ii hl hc hw (r:=next) (k:=0) rfl (TC _) h0) fun p hp'=> ?_
  obtain⟨seen,nx⟩:=p
  obtain⟨c,rfl,hR⟩:=hp'
  simp only at hR⊢
  have hpt:=hR.pt
  have hin:∀s t,s<n->t<n->c.getD s 0=c.getD t 0->cls.getD s 0=cls.getD t 0:=fun s t hs ht e=>(Bn hT hs ht (hR.same hs ht e)).1
  have hA':∀s t,s<n->t<n->c.getD s 0=c.getD t 0->A s t:=fun s t hs ht e=>hA s t hs ht (hin s t hs ht e)
  have hle:many<=seen.length:=by
   rcases hp with rfl|hp
   ·exact TC _
   ·have hr:∃f:Nat->Nat,∀i,i<many->f i<n/\cls.getD (f i) 0=i:=⟨fun i=>if h:i<many then(hp.P3 i h).choose else 0,fun i h=>by
     simp only[h,VH]
     exact(hp.P3 i h).choose_spec⟩
    obtain⟨r,hr⟩:=hr
    exact uo (fun i=>c.getD (r i) 0) (fun i hi=>hpt.lt _ (hr i hi).1) fun i j hi hj e=>by
     have:=hin _ _ (hr i hi).1 (hr j hj).1 e
     rw[(hr i hi).2,(hr j hj).2] at this
     exact this
  have hpos:0<seen.length:=Nat.lt_of_le_of_lt (TC _) (hpt.lt 0 hn0)
  refine ak (fun hm=>aj ⟨c,seen.length,rfl,hpt,?_,hA'⟩) fun hm=> ?_
  ·have hm':seen.length=many:=by omega
   have hp':Pt n many cls:=by
    rcases hp with h|h
    ·omega
    ·exact h
   rw[<-hm'] at hp'
   have hr:∃f:Nat->Nat,∀i,i<seen.length->f i<n/\c.getD (f i) 0=i:=⟨fun i=>if h:i<seen.length then(hpt.P3 i h).choose else 0,fun i h=>by
    simp only[h,VH]
    exact(hpt.P3 i h).choose_spec⟩
   obtain⟨r,hr⟩:=hr
   have hG:∀s,s<n->cls.getD s 0=cls.getD (r (c.getD s 0)) 0:=fun s hs=>hin _ _ hs (hr _ (hpt.lt s hs)).1 (hr _ (hpt.lt s hs)).2.symm
   have hback:∀s t,s<n->t<n->cls.getD s 0=cls.getD t 0->c.getD s 0=c.getD t 0:=fun s t hs ht e=>by
    refine J2 (m:=seen.length) (G:=fun j=>cls.getD (r j) 0) (fun i hi=> ?_) (hpt.lt s hs) (hpt.lt t ht) ?_ ?_
    ·obtain⟨u,hu,hu2⟩:=hp'.P3 i hi
     exact⟨c.getD u 0,hpt.lt u hu,by show cls.getD (r (c.getD u 0)) 0=i;rw[<-hG u hu,hu2]⟩
    ·show cls.getD (r (c.getD s 0)) 0<_
     rw[<-hG s hs]
     exact hp'.lt s hs
    ·show cls.getD (r (c.getD s 0)) 0=cls.getD (r (c.getD t 0)) 0
     rw[<-hG s hs,<-hG t ht,e]
   intro s t hs ht e i x y hx hy
   have hb:∀s,s<n->∀(i:Nat) (x:Int),(next.getD s [])[i]? =some x->x.toNat<n:=fun s hs i x hx=>by
    have h3:s<next.length:=by rw[hT.len];exact hs
    rw[b9 (Tj h3)] at hx
    have:=hT.eG _ (TT h3) x (Ts hx)
    omega
   exact hback _ _ (hb s hs i x hx) (hb t ht i y hy) ((Bn hT hs ht (hR.same hs ht e)).2 i x y hx hy)
  ·exact BK hT hn0 hn hw hpt.len (fun x hx=>by
    obtain⟨i,hi⟩:=TJ.1 hx
    have h1:=(Tk.1 hi).1
    have:=hpt.lt i (by rw[<-hpt.len];exact h1)
    rw[b9 hi] at this
    have:=hR.le
    omega) hA' (.inr hpt) hR.le ii
theorem jg {a:List Bool} {j:Nat} (hj:j<a.length) (i:Nat):(a.set j true)[i]? =some true↔a[i]? =some true\/i=j:=by
 rw[Ud]
 by_cases h:j=i
 ·subst h;simp[hj]
 ·have:i≠j:=fun e=>h e.symm
  simp[h,this]
theorem CO:∀{es:List Sv.Edge} {a:List Bool},a.length=257->(∀e∈es,EB e)->bu (EP es a) fun a'=>a'.length=257/\∀i:Nat,a'[i]? =some true↔a[i]? =some true\/∃e∈es,(i:Int)=e.lo\/(i:Int)=e.hi+1
 |[],a,ha,_=>aj ⟨ha,fun i=>⟨.inl,fun h=>by
  rcases h with h|⟨e,he,_⟩
  ·exact h
  ·cases he⟩⟩
 |e::r,a,ha,h=>by
  obtain⟨h1,h2,h3,h4⟩:=h e (Tn ..)
  unfold EP
  refine gY h1 ii ha (ar ⟨h3,h4⟩ (gY ii ii (by rw[Tx];exact ha) ?_))
  refine(CO (by rw[Tx,Tx];exact ha) fun e' he'=>h e' (Tm _ he')).mono fun a' ⟨g1,g2⟩=>⟨g1,fun i=> ?_⟩
  rw[g2 i,jg (by rw[Tx,ha];omega),jg (by rw[ha];omega)]
  constructor
  ·rintro(((h|h)|h)|⟨e',he',h⟩)
   ·exact .inl h
   ·exact .inr ⟨e,Tn ..,.inl ii⟩
   ·exact .inr ⟨e,Tn ..,.inr ii⟩
   ·exact .inr ⟨e',Tm _ he',h⟩
  ·rintro(g|⟨e',he',g⟩)
   ·exact .inl (.inl (.inl g))
   ·rcases Tv.1 he' with he'|he'
    ·rw[he'] at g
     rcases g with g|g
     ·exact .inl (.inl (.inr ii))
     ·exact .inl (.inr ii)
    ·exact .inr ⟨e',he',g⟩
theorem CM:∀{l:List ba} {n:Nat} {a:List Bool},a.length=257->AB n l->bu (EO l a) fun a'=>a'.length=257/\∀i:Nat,a'[i]? =some true↔a[i]? =some true\/∃s∈l,∃e∈s.aF,(i:Int)=e.lo\/(i:Int)=e.hi+1
 |[],n,a,ha,_=>aj ⟨ha,fun i=>⟨.inl,fun h=>by
  rcases h with h|⟨e,he,_⟩
  ·exact h
  ·cases he⟩⟩
 |s::r,n,a,ha,h=>by
  unfold EO
  have h1:=h.row s (Tn ..)
  refine ar ii (au (CO ha (h.eb s (Tn ..))) fun a1 ⟨g1,g2⟩=> ?_)
  refine(CM g1 (n:=n) ⟨TR (U1 _) h.len,fun s hs=>h.row s (Tm _ hs),fun s hs=>h.eb s (Tm _ hs)⟩).mono fun a' ⟨g3,g4⟩=>⟨g3,fun i=> ?_⟩
  rw[g4 i,g2 i]
  constructor
  ·rintro((h|⟨e,he,h⟩)|⟨t,ht,h⟩)
   ·exact .inl h
   ·exact .inr ⟨s,Tn ..,e,he,h⟩
   ·exact .inr ⟨t,Tm _ ht,h⟩
  ·rintro(g|⟨t,ht,g⟩)
   ·exact .inl (.inl g)
   ·rcases Tv.1 ht with ht|ht
    ·rw[ht] at g
     exact .inl (.inr g)
    ·exact .inr ⟨t,ht,g⟩
theorem vv {a:List Bool} (ha:a.length=257):∀{n b:Nat} {out:List Int},n+b=256->out.length<=b->bu (CP a n b out) fun o=>∃ext,o=out++ext/\ext.length<=n/\ext.Pairwise (· <·)/\(∀x∈ext,(b:Int)<=x/\x<256)/\∀i:Nat,b<=i->i<256->(a[i]? =some true↔(i:Int)∈ext)
 |0,b,out,h,_=>aj ⟨[],by simp,by simp,List.Pairwise.nil,fun x hx=>(by cases hx),fun i h1 h2=>by omega⟩
 |n+1,b,out,h,ho=>by
  unfold CP
  refine y9 ii ii ha fun x hx=> ?_
  rw[show((b:Int)).toNat=b by omega] at hx
  have e1:((b:Int)+1)=((b+1:Nat):Int):=by omega
  rw[e1]
  refine ak (fun hx1=> ?_) fun hx1=> ?_
  ·refine b7 ii ((vv ha (n:=n) (b:=b+1) ii (by simp;omega)).mono fun o ⟨ext,g1,g2,g3,g4,g5⟩=> ?_)
   refine⟨(b:Int)::ext,by rw[g1];simp,by simp;omega,TW.2 ⟨fun y hy=>by have:=g4 y hy;omega,g3⟩,fun y hy=> ?_,fun i h1 h2=> ?_⟩
   ·rcases Tv.1 hy with rfl|hy
    ·omega
    ·have:=g4 y hy;omega
   ·by_cases e:i=b
    ·subst e
     rw[hx,hx1]
     simp
    ·rw[g5 i ii h2]
     constructor
     ·exact Tm _
     ·intro h
      rcases Tv.1 h with h|h
      ·omega
      ·exact h
  ·refine(vv ha (n:=n) (b:=b+1) ii ii).mono fun o ⟨ext,g1,g2,g3,g4,g5⟩=>⟨ext,g1,by omega,g3,fun y hy=>by have:=g4 y hy;omega,fun i h1 h2=> ?_⟩
   by_cases e:i=b
   ·subst e
    rw[hx]
    constructor
    ·intro h;cases h;exact absurd rfl hx1
    ·intro h;have:=g4 _ h;omega
   ·exact g5 i ii h2
structure qG (l:List ba) (a8:List Int):Prop where
 pos:a8[0]? =some 0
 len:a8.length<=256
 eG:∀c∈a8,0<=c/\c<256
 inc:a8.Pairwise (· <·)
 lo:∀s∈l,∀e∈s.aF,e.lo∈a8
 hi:∀s∈l,∀e∈s.aF,e.hi<255->e.hi+1∈a8
theorem Pq {l:List ba} {n:Nat} (h:AB n l) (hn:n<=1000000000):bu (Ma l) (qG l):=by
 unfold Ma
 have h1:=h.len
 refine ar ii (au (CM (a:=at0) (by unfold at0;rw[Tu,Ty]) h) fun a ⟨g1,g2⟩=> ?_)
 refine(vv g1 (n:=256) (b:=0) (out:=[]) rfl (Tp _)).mono fun o ⟨ext,e1,e2,e3,e4,e5⟩=> ?_
 rw[UC] at e1
 subst e1
 have hz:(0:Int)∈o:=(e5 0 (Tp _) ii).1 ((g2 0).2 (.inl rfl))
 refine⟨?_,e2,fun c hc=>by have:=e4 c hc;omega,e3,fun s hs e he=> ?_,fun s hs e he hlt=> ?_⟩
 ·cases o with
  |nil=>cases hz
  |cons x r=>
   rcases Tv.1 hz with hz|hz
   ·rw[<-hz];rfl
   ·have:=(TW.1 e3).1 0 hz
    have:=e4 x (Tn ..)
    omega
 ·obtain⟨q1,q2,q3,q4⟩:=h.eb s hs e he
  have:=(e5 e.lo.toNat ii ii).1 ((g2 _).2 (.inr ⟨s,hs,e,he,.inl ii⟩))
  rwa [show((e.lo.toNat:Nat):Int)=e.lo by omega] at this
 ·obtain⟨q1,q2,q3,q4⟩:=h.eb s hs e he
  have:=(e5 (e.hi+1).toNat ii ii).1 ((g2 _).2 (.inr ⟨s,hs,e,he,.inr ii⟩))
  rwa [show(((e.hi+1).toNat:Nat):Int)=e.hi+1 by omega] at this
def fZ (c:Int) (es:List Sv.Edge) (t:Int):Int:=es.foldl (fun t e=>if e.lo<=c/\c<=e.hi then e.to else t) t
theorem pQ {c:Int} {i:Nat}:∀{es:List Sv.Edge} {row:List Int} {t:Int},(∀e∈es,EB e)->row[i]? =some t->bu (zA c i es row) fun o=>o=row.set i (fZ c es t)
 |[],row,t,_,h=>aj (by
  obtain⟨h1,h2⟩:=Tk.1 h
  rw[show fZ c [] t=t from rfl,<-h2,List.set_getElem_self])
 |e::r,row,t,he,h=>by
  have hi:=(Tk.1 h).1
  obtain⟨h1,h2,h3,h4⟩:=he e (Tn ..)
  have hr:∀e'∈r,EB e':=fun e' h'=>he e' (Tm _ h')
  unfold zA
  refine ar ⟨h1,h2⟩ (ak (fun g1=>ar ⟨h3,h4⟩ (ak (fun g2=> ?_) fun g2=> ?_)) fun g1=> ?_)
  ·refine eZ ii ii ?_
   rw[show((i:Int)).toNat=i by omega]
   refine(pQ (es:=r) (t:=e.to) hr (by rw[Ud];simp[hi])).mono fun o ho=> ?_
   rw[ho,Vq]
   unfold fZ
   rw[Uh,Th ⟨g1,g2⟩]
  ·refine(pQ (es:=r) (t:=t) hr h).mono fun o ho=> ?_
   rw[ho]
   unfold fZ
   rw[Uh,Ti (fun h=>g2 h.2)]
  ·refine(pQ (es:=r) (t:=t) hr h).mono fun o ho=> ?_
   rw[ho]
   unfold fZ
   rw[Uh,Ti (fun h=>g1 h.1)]
theorem BE {es:List Sv.Edge} {sink:Int} (he:∀e∈es,EB e) (hl:es.length<=256):∀{r:List Int} {i:Nat} {row:List Int},i+r.length=row.length->bu (Ef es sink r i row) fun o=>o=row.take i++r.map fun c=>fZ c es sink
 |[],i,row,h=>aj (by simp at h;rw[U9,TK,h,List.take_length])
 |c::r,i,row,h=>by
  rw[Tu] at h
  have hi:i<row.length:=by omega
  unfold Ef
  refine eZ ii ii (ar ii ?_)
  rw[show((i:Int)).toNat=i by omega]
  refine au (pQ (t:=sink) he (by rw[Ud];simp[hi])) fun row1 h1=> ?_
  rw[Vq] at h1
  subst h1
  have e1:((i:Int)+1)=((i+1:Nat):Int):=by omega
  rw[e1]
  refine(BE he hl (r:=r) (i:=i+1) (row:=row.set i (fZ c es sink)) (by rw[Tx];omega)).mono fun o ho=> ?_
  rw[ho,Uo,Ux,Ud]
  simp[hi,UM]
def lF (a8:List Int) (l:List ba) (sink:Int):List (List Int):=l.map fun s=>a8.map fun c=>fZ c s.aF sink
theorem yz {a8:List Int} (hc:a8.length<=256) {n:Nat} (hn:n<1000000000) {sink:Int}:∀{l:List ba} {next:List (List Int)} {acc:List Bool},AB n l->next.length+l.length<=n->acc.length=next.length->bu (vA a8 sink l next acc) fun p=>p=(next++lF a8 l sink,acc++l.map (·.acc))
 |[],next,acc,_,_,_=>aj (by simp[lF])
 |s::r,next,acc,h,h1,h2=>by
  rw[Tu] at h1
  unfold vA
  refine ar ii (ar ii (au (BE (h.eb s (Tn ..)) (h.row s (Tn ..)) (r:=a8) (i:=0) (row:=List.replicate a8.length 0) (by simp)) fun row hrow=> ?_))
  subst hrow
  refine b7 ii (b7 ii ?_)
  refine(yz hc hn (l:=r) ⟨TR (U1 _) h.len,fun s hs=>h.row s (Tm _ hs),fun s hs=>h.eb s (Tm _ hs)⟩ (by simp;omega) (by simp[h2])).mono fun p hp=> ?_
  rw[hp]
  simp[lF]
theorem xX {sink:Int}:∀{n:Nat} {i:Nat} {l:List Int},i+n=l.length->bu (uS sink n i l) fun o=>o=l.take i++List.replicate n sink
 |0,i,l,h=>aj (by simp at h;rw[h];simp)
 |n+1,i,l,h=>by
  have hi:i<l.length:=by omega
  unfold uS
  refine eZ ii ii ?_
  rw[show((i:Int)).toNat=i by omega]
  have e1:((i:Int)+1)=((i+1:Nat):Int):=by omega
  rw[e1]
  refine(xX (n:=n) (i:=i+1) (l:=l.set i sink) (by rw[Tx];omega)).mono fun o ho=> ?_
  rw[ho,Ux,Ud]
  simp[hi,UM,U3]
structure sK (l:List ba) (p:List Int×List (List Int)×List Bool):Prop where
 a8:qG l p.1
 next:p.2.1=lF p.1 l l.length++[List.replicate p.1.length (l.length:Int)]
 acc:p.2.2=l.map (·.acc)++[false]
theorem CU {l:List ba} {n:Nat} (h:AB n l) (hn:n<900000000):bu (GW l) (sK l):=by
 have h1:=h.len
 unfold GW
 refine au (Pq h ii) fun a8 hc=> ?_
 have h2:=hc.len
 refine ar ii (au (yz h2 (n:=n) ii (l:=l) (next:=[]) (acc:=[]) h (by simp;omega) rfl) fun p hp=> ?_)
 subst hp
 refine ar ii (au (xX (n:=a8.length) (i:=0) (l:=List.replicate a8.length 0) (by simp)) fun last hlast=> ?_)
 subst hlast
 refine b7 (by simp[lF];omega) (b7 (by simp;omega) (aj ⟨hc,by simp,by simp⟩))
theorem nH {c:Int} {n:Nat}:∀{es:List Sv.Edge} {t:Int},(∀e∈es,0<=e.to/\e.to<n)->0<=t->t<=n->0<=fZ c es t/\fZ c es t<=n
 |[],t,_,h1,h2=>⟨h1,h2⟩
 |e::r,t,h,h1,h2=>by
  unfold fZ
  rw[Uh]
  have:=h e (Tn ..)
  refine nH (es:=r) (fun e' h'=>h e' (Tm _ h')) ?_ ?_<;>split<;>omega
theorem sK.tb {l:List ba} {p:List Int×List (List Int)×List Bool} (h:sK l p) (hw:WF l):Tb (l.length+1) p.1.length p.2.1:=by
 rw[h.next]
 refine⟨by simp[lF],fun r hr=> ?_,fun r hr t ht=> ?_⟩
 ·rcases Tz.1 hr with hr|hr
  ·obtain⟨s,hs,rfl⟩:=T4.1 hr
   simp
  ·rw[To.1 hr];simp
 ·rcases Tz.1 hr with hr|hr
  ·obtain⟨s,hs,rfl⟩:=T4.1 hr
   obtain⟨c,hc,rfl⟩:=T4.1 ht
   have:=nH (c:=c) (n:=l.length) (es:=s.aF) (t:=l.length) (fun e he=>((hw s hs).one e he).2) ii (TM _)
   omega
  ·rw[To.1 hr] at ht
   have:=(UR.1 ht).2
   omega
theorem qt {n:Nat}:∀{acc:List Bool} {s:Nat} {c:List Nat},c.length=n->s+acc.length=n->bu (C3 acc s (NI c)) fun o=>o=NI (c.take s++List.zipWith (fun(a:Bool) (x:Nat)=>if a then 1 else x) acc (c.drop s))
 |[],s,c,h,h1=>aj (by
  have:c.take s=c:=UD (by simp at h1;omega)
  rw[List.zipWith_nil_left,TK,this])
 |a::r,s,c,h,h1=>by
  rw[Tu] at h1
  have hs:s<c.length:=by omega
  have e1:((s:Int)+1)=((s+1:Nat):Int):=by omega
  unfold C3
  refine ak (fun ha=> ?_) fun ha=> ?_
  ·refine eZ ii (by rw[Tr];omega) ?_
   have e2:(NI c).set s 1=NI (c.set s 1):=Fq c s 1
   rw[show((s:Int)).toNat=s by omega,e2,e1]
   refine(qt (n:=n) (acc:=r) (s:=s+1) (by rw[Tx];exact h) ii).mono fun o ho=> ?_
   rw[ho,TN hs,List.zipWith_cons_cons,Th ha]
   congr 1
   rw[Ux,UE hs,Option.toList_some,TP,List.singleton_append,UM (Tp _),List.drop_set_of_lt (Ug _)]
  ·rw[e1]
   refine(qt (n:=n) (acc:=r) (s:=s+1) h ii).mono fun o ho=> ?_
   rw[ho,TN hs,List.zipWith_cons_cons,Ti ha]
   congr 1
   rw[Ux,Tj hs,Option.toList_some,TP,List.singleton_append]
theorem BJ {n w:Nat} {next:List (List Int)} {acc:List Bool} (hT:Tb n w next) (hn0:0<n) (hn:n<1000000000) (hw:w<=256) (ha:acc.length=n):
  bu (Ib next acc) fun r=>∃c m,r=NI c/\Pt n m c/\Dv n next c/\∀s t,s<n->t<n->c.getD s 0=c.getD t 0->acc.getD s false=acc.getD t false:=by
 unfold Ib
 have e0:List.replicate next.length (0:Int)=NI (List.replicate n 0):=by rw[hT.len];simp[NI]
 refine ar (by rw[hT.len];exact hn) (ar ii ?_)
 rw[e0]
 refine au (qt (n:=n) (acc:=acc) (s:=0) (c:=List.replicate n 0) (by simp) ii) fun o ho=> ?_
 subst ho
 rw[List.take_zero,UC,Uu,hT.len]
 have hg:∀s,s<n->(List.zipWith (fun(a:Bool) (x:Nat)=>if a then 1 else x) acc (List.replicate n 0)).getD s 0=if acc.getD s false=true then 1 else 0:=fun s hs=>by
  rw[TB,TB,List.getElem?_zipWith,Uk,Th hs,Tj ii]
  rfl
 refine BK hT hn0 hn hw (A:=fun s t=>acc.getD s false=acc.getD t false) (f:=n+2) (many:=0) (by simp[ha]) (fun x hx=> ?_) (fun s t hs ht e=> ?_) (.inl rfl) (TC _) ii
 ·obtain⟨i,hi⟩:=TJ.1 hx
  have h1:=(Tk.1 hi).1
  rw[List.length_zipWith,Ty,ha,Nat.min_self] at h1
  have:=hg i h1
  rw[b9 hi] at this
  rw[this]
  split<;>omega
 ·rw[hg s hs,hg t ht] at e
  split at e<;>split at e<;>rename_i h1 h2
  ·rw[h1,h2]
  ·cases e
  ·cases e
  ·rw[Bool.not_eq_true] at h1 h2;rw[h1,h2]
def QL (next:List (List Int)) (acc:List Bool):Nat->Nat->Prop
 |0,s=>acc.getD s false=true
 |k+1,s=>∃to∈next.getD s [],QL next acc k to.toNat
theorem Tb.at_ {n w:Nat} {next:List (List Int)} (hT:Tb n w next) {s:Nat} (hs:s<n):next.getD s []∈next/\(next.getD s []).length=w:=by
 have h3:s<next.length:=by rw[hT.len];exact hs
 rw[b9 (Tj h3)]
 exact⟨TT h3,hT.row _ (TT h3)⟩
theorem tk {n w:Nat} {next:List (List Int)} {acc:List Bool} {c:List Nat} (hT:Tb n w next) (hS:Dv n next c) (hA:∀s t,s<n->t<n->c.getD s 0=c.getD t 0->acc.getD s false=acc.getD t false):∀(j s t:Nat),s<n->t<n->c.getD s 0=c.getD t 0->QL next acc j s->QL next acc j t
 |0,s,t,hs,ht,e,h=>by
  show acc.getD t false=true
  rw[<-hA s t hs ht e]
  exact h
 |j+1,s,t,hs,ht,e,⟨to,h1,h2⟩=>by
  obtain⟨i,hi⟩:=TJ.1 h1
  have hil:=(Tk.1 hi).1
  rw[(hT.at_ hs).2,<-(hT.at_ ht).2] at hil
  have hi':=Tj hil
  have hm:=TT hil
  have r1:=hT.eG _ (hT.at_ hs).1 to h1
  have r2:=hT.eG _ (hT.at_ ht).1 _ hm
  exact⟨_,hm,tk hT hS hA j _ _ ii ii (hS s t hs ht e i _ _ hi hi') h2⟩
theorem mz {n:Nat} {c:List Nat} {out:List Bool} (hc:c.length=n) (hlt:∀s,s<n->c.getD s 0<n) (ho:out.length=n):∀{row:List Int} {ok:Bool},(∀t∈row,0<=t/\t<n)->bu (jN (NI c) out row ok) fun b=>b=true↔ok=true\/∃to∈row,out.getD (c.getD to.toNat 0) false=true
 |[],ok,_=>aj ⟨.inl,fun h=>by
  rcases h with h|⟨t,ht,_⟩
  ·exact h
  ·cases ht⟩
 |to::r,ok,h=>by
  obtain⟨h0,h1⟩:=h to (Tn ..)
  have ht:to.toNat<c.length:=by omega
  have hr:∀t∈r,0<=t/\t<n:=fun t ht=>h t (Tm _ ht)
  unfold jN
  refine ak (fun hok=> ?_) fun hok=> ?_
  ·exact(mz hc hlt ho (row:=r) (ok:=true) hr).mono fun b hb=>⟨fun _=> .inl hok,fun _=>hb.2 (.inl rfl)⟩
  ·refine a7 h0 (by rw[Tr];omega) fun x hx _=> ?_
   rw[TO,Tj ht] at hx
   simp only[UK,T8] at hx
   have h2:=hlt to.toNat ii
   rw[b9 (Tj ht)] at h2
   refine a7 ii ii fun y hy _=> ?_
   refine(mz hc hlt ho (row:=r) (ok:=y) hr).mono fun b hb=>hb.trans ?_
   have e:out.getD (c.getD to.toNat 0) false=y:=by
    rw[b9 (Tj ht)]
    rw[<-hx,show((c[to.toNat]:Nat):Int).toNat=c[to.toNat] by omega] at hy
    exact b9 hy
   constructor
   ·rintro(g|⟨t,g1,g2⟩)
    ·exact .inr ⟨to,Tn ..,e.trans g⟩
    ·exact .inr ⟨t,Tm _ g1,g2⟩
   ·rintro(g|⟨t,g1,g2⟩)
    ·exact absurd g hok
    ·rcases Tv.1 g1 with rfl|g1
     ·exact .inl (e.symm.trans g2)
     ·exact .inr ⟨t,g1,g2⟩
def okS (next:List (List Int)) (acc:List Bool) (c:List Nat) (out:List Bool) (s:Nat):Prop:=acc.getD s false=true\/∃to∈next.getD s [],out.getD (c.getD to.toNat 0) false=true
structure Js (n:Nat) (next:List (List Int)) (acc:List Bool) (c:List Nat) (out:List Bool):Prop where
 len:out.length=n
 snd:∀x,out.getD x false=true->∃s k,s<n/\c.getD s 0=x/\QL next acc k s
theorem IL {l:List Bool} {i j:Nat} {v:Bool} (hi:i<l.length):(l.set i v).getD j false=if j=i then v else l.getD j false:=by
 rw[TB,Ud]
 by_cases h:j=i
 ·subst h;simp[hi]
 ·have:i≠j:=fun e=>h e.symm
  simp[h,this,TB]
theorem re {n w:Nat} {next:List (List Int)} {acc:List Bool} {c:List Nat} (hT:Tb n w next) (hw:w<=256) (ha:acc.length=n) (hc:c.length=n) (hlt:∀s,s<n->c.getD s 0<n) (hS:Dv n next c) (hA:∀s t,s<n->t<n->c.getD s 0=c.getD t 0->acc.getD s false=acc.getD t false):
  ∀{r:List (List Int)} {k:Nat} {out:List Bool} {ag:Bool},next.drop k=r->k<=n->Js n next acc c out->bu (oq acc (NI c) r k out ag) fun p=>Js n next acc c p.1/\out.count true<=p.1.count true/\(p.2=true->ag=true\/out.count true<p.1.count true)/\(p.2=false->ag=false/\p.1=out/\∀s,k<=s->s<n->okS next acc c out s->out.getD (c.getD s 0) false=true)
 |[],k,out,ag,hr,hk,h=>by
  have:next.length<=k:=by rw[Vw] at hr;exact hr
  rw[hT.len] at this
  exact aj ⟨h,Tp _,.inl,fun e=>⟨e,rfl,fun s h1 h2=>by omega⟩⟩
 |row::r,k,out,ag,hr,hk,h=>by
  have hkn:k<n:=by
   rcases TX k n with g|g
   ·exact g
   ·rw[TV (by rw[hT.len];exact g)] at hr;cases hr
  have hr':next.drop (k+1)=r:=by rw[<-Vd,hr];rfl
  have hrow:next[k]? =some row:=by
   rw[TN (by rw[hT.len];exact hkn)] at hr
   injection hr with h1 _
   rw[<-h1]
   exact Tj _
  have hmem:=Ts hrow
  have e1:((k:Int)+1)=((k+1:Nat):Int):=by omega
  unfold oq
  refine a7 ii ii fun a hacc _=>ar (by rw[hT.row row hmem];omega) ?_
  rw[show((k:Int)).toNat=k by omega] at hacc
  refine au (mz hc hlt h.len (hT.eG row hmem)) fun ok hok=> ?_
  have hok':ok=true↔okS next acc c out k:=by
   rw[hok]
   unfold okS
   rw[b9 hacc,b9 hrow]
  have hck:=hlt k hkn
  have hkc:k<c.length:=by omega
  have next':∀ag',(ag'=ag)->(ok=true->out.getD (c.getD k 0) false=true)->bu (oq acc (NI c) r ((k+1:Nat):Int) out ag') fun p=>Js n next acc c p.1/\out.count true<=p.1.count true/\(p.2=true->ag=true\/out.count true<p.1.count true)/\(p.2=false->ag=false/\p.1=out/\∀s,k<=s->s<n->okS next acc c out s->out.getD (c.getD s 0) false=true):=fun ag' e hcl=>by
   subst e
   refine(re hT hw ha hc hlt hS hA hr' hkn h).mono fun p ⟨g1,g2,g3,g4⟩=>⟨g1,g2,g3,fun e=> ?_⟩
   obtain⟨q1,q2,q3⟩:=g4 e
   refine⟨q1,q2,fun s h1 h2 h3=> ?_⟩
   by_cases e2:s=k
   ·subst e2;exact hcl (hok'.2 h3)
   ·exact q3 s ii h2 h3
  refine ak (fun hk1=> ?_) fun hk1=> ?_
  ·have hx:(NI c)[k]? =some ((c.getD k 0:Nat):Int):=by rw[TO,Tj hkc,b9 (Tj hkc)];rfl
   refine a7 ii (by rw[Tr];omega) fun x hx1 _=> ?_
   rw[show((k:Int)).toNat=k by omega,hx] at hx1
   cases hx1
   refine a7 ii (by rw[h.len];omega) fun y hy _=> ?_
   rw[show(((c.getD k 0:Nat):Int)).toNat=c.getD k 0 by omega] at hy
   refine ak (fun hy1=> ?_) fun hy1=> ?_
   ·rw[e1]
    exact next' ag rfl fun _=>by rw[b9 hy];exact hy1
   ·refine a7 ii (by rw[Tr];omega) fun x hx1 _=> ?_
    rw[show((k:Int)).toNat=k by omega,hx] at hx1
    cases hx1
    refine eZ ii (by rw[h.len];omega) ?_
    rw[show(((c.getD k 0:Nat):Int)).toNat=c.getD k 0 by omega,e1]
    have hlen:c.getD k 0<out.length:=by rw[h.len];exact hck
    have hcnt:(out.set (c.getD k 0) true).count true=out.count true+1:=by
     rw[List.count_set hlen]
     have:out[c.getD k 0]=false:=by
      rw[Tj hlen] at hy
      cases hy
      simpa using hy1
     rw[this]
     simp
    have hs:Js n next acc c (out.set (c.getD k 0) true):=⟨by rw[Tx];exact h.len,fun x hx=>by
     rw[IL hlen] at hx
     split at hx
     ·rename_i e
      subst e
      rcases hok'.1 hk1 with g|⟨to,g1,g2⟩
      ·exact⟨k,0,hkn,rfl,g⟩
      ·
       obtain⟨s,j,q1,q2,q3⟩:=h.snd _ g2
       have hto:=hT.eG _ (hT.at_ hkn).1 to g1
       exact⟨k,j+1,hkn,rfl,to,g1,tk hT hS hA j s _ q1 ii q2 q3⟩
     ·exact h.snd x hx⟩
    refine(re hT hw ha hc hlt hS hA hr' hkn hs (ag:=true)).mono fun p ⟨g1,g2,g3,g4⟩=>⟨g1,by omega,fun _=> .inr ii,fun e=> ?_⟩
    exact absurd (g4 e).1 (by decide)
  ·rw[e1]
   exact next' ag rfl fun h=>absurd h hk1
structure Live (n:Nat) (next:List (List Int)) (acc:List Bool) (c:List Nat) (out:List Bool):Prop extends Js n next acc c out where
 cl:∀s,s<n->okS next acc c out s->out.getD (c.getD s 0) false=true
theorem xU {n w:Nat} {next:List (List Int)} {acc:List Bool} {c:List Nat} (hT:Tb n w next) (hn:n<1000000000) (hw:w<=256) (ha:acc.length=n) (hc:c.length=n) (hlt:∀s,s<n->c.getD s 0<n) (hS:Dv n next c) (hA:∀s t,s<n->t<n->c.getD s 0=c.getD t 0->acc.getD s false=acc.getD t false):
  ∀{f:Nat} {out:List Bool} {ag:Bool},Js n next acc c out->(ag=true->n+2<=f+out.count true)->1<=f->(ag=false->Live n next acc c out)->bu (uJ acc (NI c) next f out ag) (Live n next acc c)
 |0,_,_,_,_,h,_=>by omega
 |f+1,out,ag,h,h1,_,h2=>by
  unfold uJ
  refine ak (fun hag=>ar (by rw[hT.len];omega) ?_) fun hag=>aj (h2 (by simpa using hag))
  refine au (re hT hw ha hc hlt hS hA (r:=next) (k:=0) rfl (TC _) h (ag:=false)) fun p ⟨g1,g2,g3,g4⟩=> ?_
  have h3:=h1 hag
  have hcn:out.count true<=n:=by rw[<-h.len];exact List.count_le_length
  refine xU hT hn hw ha hc hlt hS hA g1 (fun e=> ?_) ii fun e=> ?_
  ·rcases g3 e with g|g
   ·cases g
   ·omega
  ·obtain⟨_,q2,q3⟩:=g4 e
   rw[q2]
   exact⟨h,fun s hs=>q3 s (TC _) hs⟩
theorem xS {n w:Nat} {next:List (List Int)} {acc:List Bool} {c:List Nat} (hT:Tb n w next) (hn:n<1000000000) (hw:w<=256) (ha:acc.length=n) (hc:c.length=n) (hlt:∀s,s<n->c.getD s 0<n) (hS:Dv n next c) (hA:∀s t,s<n->t<n->c.getD s 0=c.getD t 0->acc.getD s false=acc.getD t false):
  bu (Gt next acc (NI c)) (Live n next acc c):=by
 unfold Gt
 refine ar (by rw[hT.len];exact hn) ?_
 rw[hT.len]
 exact xU hT hn hw ha hc hlt hS hA ⟨by simp,fun x hx=>by
  rw[TB,Uk] at hx
  split at hx<;>cases hx⟩ (fun _=>by omega) ii fun e=>by cases e
theorem Live.all {n w:Nat} {next:List (List Int)} {acc:List Bool} {c:List Nat} {out:List Bool} (h:Live n next acc c out) (hT:Tb n w next):∀(j s:Nat),s<n->QL next acc j s->out.getD (c.getD s 0) false=true
 |0,s,hs,h1=>h.cl s hs (.inl h1)
 |j+1,s,hs,⟨to,h1,h2⟩=>by
  have:=hT.eG _ (hT.at_ hs).1 to h1
  exact h.cl s hs (.inr ⟨to,h1,h.all hT j _ ii h2⟩)
def aZ (c:List Nat) (s:Int):Nat:=c.getD s.toNat 0
def mF (c:List Nat) (o:List Int):List (Int×Int):=o.zipIdx.map fun p=>((aZ c p.1:Int),(p.2:Int))
theorem zT (c:List Nat) (o:List Int) (s:Int):mF c (o++[s])=mF c o++[((aZ c s:Int),(o.length:Int))]:=by
 unfold mF
 rw[List.zipIdx_append,Un]
 simp
theorem OF {c:List Nat} {o:List Int} {x v:Int} (h:cH x (mF c o)=some v):∃(j:Nat) (s:Int),v=(j:Int)/\o[j]? =some s/\(aZ c s:Int)=x:=by
 obtain⟨j,hj⟩:=TJ.1 (gP h)
 unfold mF at hj
 rw[TO,List.getElem?_zipIdx] at hj
 cases ho:o[j]? with
 |none=>rw[ho] at hj;cases hj
 |some s=>
  rw[ho] at hj
  simp only[UK,T8,Prod.mk.injEq,Ue] at hj
  exact⟨j,s,hj.2.symm,ho,hj.1⟩
theorem OG {c:List Nat} {o:List Int} {x:Int} (h:cH x (mF c o)=none):∀s∈o,(aZ c s:Int)≠x:=fun s hs=>by
 obtain⟨j,hj⟩:=TJ.1 hs
 exact rq h ((aZ c s:Int),(j:Int)) (TJ.2 ⟨j,by
  unfold mF
  rw[TO,List.getElem?_zipIdx,hj]
  simp⟩)
structure MJ (n:Nat) (c:List Nat) (live:List Bool) (o:List Int):Prop where
 eG:∀s∈o,0<=s/\s<n
 lv:∀s∈o,live.getD (aZ c s) false=true
 nd:(o.map (aZ c)).Nodup
theorem MJ.le {n:Nat} {c:List Nat} {live:List Bool} {o:List Int} (h:MJ n c live o) (hlt:∀s,s<n->c.getD s 0<n):o.length<=n:=by
 have:=kA (n:=n) h.nd fun x hx=>by
  obtain⟨s,hs,rfl⟩:=T4.1 hx
  have:=h.eG s hs
  exact hlt s.toNat ii
 rwa [Tr] at this
theorem yv {l:List ba} {a8:List Int} (h:qG l a8) {i:Nat} {x:Int} (hx:a8[i+1]? =some x):1<=x/\x<256:=by
 have h1:=(Tk.1 hx).1
 have h2:=T5.1 h.inc i (i+1) ii h1 ii
 have h3:=h.eG _ (TT (show i<a8.length by omega))
 have h4:=h.eG _ (Ts hx)
 rw[(Tk.1 hx).2] at h2
 omega
theorem GL {l:List ba} {a8:List Int} (h:qG l a8) (i:Nat):bu (nX a8 i) fun x=>0<=x/\x<256:=by
 unfold nX
 refine ak (fun h1=> ?_) fun h1=>aj ii
 have e1:((i:Int)+1)=((i+1:Nat):Int):=by omega
 rw[e1] at*
 refine a7 ii ii fun x hx _=> ?_
 rw[show(((i+1:Nat):Int)).toNat=i+1 by omega] at hx
 have:=yv h hx
 exact ar ⟨by omega,by omega⟩ (aj ⟨by omega,by omega⟩)
structure EX (v:Int) (e e':List Sv.Edge):Prop where
 eb:(∀y∈e,EB y)->∀y∈e',EB y
 len:e'.length<=e.length+1
 old:∀x∈e,∃y∈e',y.to=x.to
 new:∃y∈e',y.to=v
theorem MA {l:List ba} {a8:List Int} (h:qG l a8) {i:Nat} (hi:i<a8.length) {c v:Int} {m:List (Int×Int)} (hv:cH c m=some v) {e:List Sv.Edge} (he:e.length<=i):bu (rC a8 i c m e) (EX v e):=by
 unfold rC
 have hl:=h.len
 refine a7 ii ii fun lo hlo hm=> ?_
 obtain⟨h1,h2⟩:=h.eG lo hm
 refine ar ⟨h1,h2⟩ (au (GL h i) fun x hx=> ?_)
 rw[hv]
 refine qM ii ⟨fun hb y hy=> ?_,by simp,fun y hy=>⟨y,Ua _ hy,rfl⟩,⟨_,Uq _ (To.2 rfl),rfl⟩⟩
 rcases Tz.1 hy with hy|hy
 ·exact hb y hy
 ·rw[To.1 hy]
  exact⟨h1,h2,hx.1,hx.2⟩
theorem C7 {l:List ba} {a8:List Int} (h:qG l a8) {i:Nat} (hi:i<a8.length) {c v:Int} {m:List (Int×Int)} (hv:cH c m=some v) {e:List Sv.Edge} (he:e.length<=i) (hb:∀y∈e,EB y):bu (w9 a8 i c m e) (EX v e):=by
 unfold w9
 have hB:=MA h hi hv he
 refine ak (fun h0=> ?_) fun _=>hB
 refine a7 ii ii fun p hp hpm=> ?_
 rw[hv]
 refine ak (fun h1=> ?_) fun _=>hB
 refine a7 ii ii fun p' hp' _=> ?_
 rw[hp] at hp'
 cases hp'
 obtain⟨b1,b2,b3,b4⟩:=hb p hpm
 refine ar ⟨b3,b4⟩ (a7 ii ii fun ct hct _=>ak (fun h2=> ?_) fun _=>hB)
 refine au (GL h i) fun x hx=> ?_
 have e0:nV e ((e.length:Int)-1) (fun p=>⟨p.lo,x,p.to⟩)=some (e.set (e.length-1) ⟨p.lo,x,p.to⟩):=by
  unfold nV cN
  rw[Th ii,hp,show((e.length:Int)-1).toNat=e.length-1 by omega]
  rfl
 rw[e0]
 rw[show((e.length:Int)-1).toNat=e.length-1 by omega] at hp
 have hlt:e.length-1<e.length:=by omega
 have hin:∃y∈e.set (e.length-1) ⟨p.lo,x,p.to⟩,y.to=p.to:=⟨⟨p.lo,x,p.to⟩,TJ.2 ⟨e.length-1,by rw[Ud];simp[hlt]⟩,rfl⟩
 refine aj ⟨fun hb y hy=> ?_,by rw[Tx];omega,fun y hy=> ?_,by rw[<-h1];exact hin⟩
 ·rcases Uy hy with hy|rfl
  ·exact hb y hy
  ·exact⟨b1,b2,hx.1,hx.2⟩
 ·obtain⟨j,hj⟩:=TJ.1 hy
  by_cases ej:j=e.length-1
  ·subst ej
   rw[hp] at hj
   cases hj
   exact hin
  ·exact⟨y,TJ.2 ⟨j,by rw[Ud];simp[show e.length-1≠j from fun h=>ej h.symm,hj]⟩,rfl⟩
def QN (c:List Nat) (o:List Int) (e:List Sv.Edge) (to:Int):Prop:=∃y∈e,∃(j:Nat) (s:Int),y.to=(j:Int)/\o[j]? =some s/\aZ c s=aZ c to
structure CE (n:Nat) (c:List Nat) (live:List Bool) (a8:List Int) (r:List Int) (o:List Int) (e:List Sv.Edge) (p:List Int×List (Int×Int)×List Sv.Edge):Prop where
 ext:∃ox,p.1=o++ox
 mj:MJ n c live p.1
 mp:p.2.1=mF c p.1
 eb:∀y∈p.2.2,EB y
 len:p.2.2.length<=a8.length
 old:∀x∈e,∃y∈p.2.2,y.to=x.to
 new:∀to∈r,live.getD (aZ c to) false=true->QN c p.1 p.2.2 to
theorem qv {l:List ba} {a8:List Int} (h:qG l a8) {n:Nat} (hn:n<1000000000) {c:List Nat} {live:List Bool} (hc:c.length=n) (hlt:∀s,s<n->c.getD s 0<n) (hl:live.length=n):
  ∀{r:List Int} {i:Nat} {o:List Int} {e:List Sv.Edge},i+r.length=a8.length->(∀t∈r,0<=t/\t<n)->MJ n c live o->(∀y∈e,EB y)->e.length<=i->bu (qw a8 (NI c) live r i o (mF c o) e) (CE n c live a8 r o e)
 |[],i,o,e,h1,_,h3,h4,h5=>aj ⟨⟨[],by simp⟩,h3,rfl,h4,(by show e.length<=a8.length;simp at h1;omega),fun x hx=>⟨x,hx,rfl⟩,fun t ht=>(by cases ht)⟩
 |to::r,i,o,e,h1,h2,h3,h4,h5=>by
  rw[Tu] at h1
  obtain⟨t0,t1⟩:=h2 to (Tn ..)
  have htc:to.toNat<c.length:=by omega
  have hcl:=hlt to.toNat ii
  have ho:=h3.le hlt
  have hk:=h.len
  have e1:((i:Int)+1)=((i+1:Nat):Int):=by omega
  have hcx:(NI c)[to.toNat]? =some ((aZ c to:Nat):Int):=by
   unfold aZ
   rw[TO,Tj htc,b9 (Tj htc)]
   rfl
  have hr2:∀t∈r,0<=t/\t<n:=fun t ht=>h2 t (Tm _ ht)
  unfold qw
  refine a7 t0 (by rw[Tr];omega) fun x hx _=> ?_
  rw[hcx] at hx
  cases hx
  have hcl':aZ c to<n:=hcl
  refine a7 ii ii fun y hy _=> ?_
  rw[show(((aZ c to:Nat):Int)).toNat=aZ c to by omega] at hy
  refine ak (fun hy1=> ?_) fun hy1=> ?_
  ·split
   ·rename_i v hv
    obtain⟨j,s,hvj,hos,hcs⟩:=OF hv
    refine ar ii (au (C7 h ii hv h5 h4) fun e' hE=> ?_)
    rw[e1]
    have hlen:=hE.len
    refine(qv h hn hc hlt hl (r:=r) (i:=i+1) (o:=o) (e:=e') ii hr2 h3 (hE.eb h4) ii).mono fun p hp=> ?_
    refine⟨hp.ext,hp.mj,hp.mp,hp.eb,hp.len,fun x hx=> ?_,fun t ht hlv=> ?_⟩
    ·obtain⟨y,g1,g2⟩:=hE.old x hx
     obtain⟨z,g3,g4⟩:=hp.old y g1
     exact⟨z,g3,g4.trans g2⟩
    ·rcases Tv.1 ht with rfl|ht
     ·obtain⟨y,g1,g2⟩:=hE.new
      obtain⟨z,g3,g4⟩:=hp.old y g1
      obtain⟨ox,hox⟩:=hp.ext
      exact⟨z,g3,j,s,by rw[g4,g2,hvj],by rw[hox,TE (Tk.1 hos).1];exact hos,by omega⟩
     ·exact hp.new t ht hlv
   ·rename_i hv
    have hno:=OG hv
    have hv':=qk (v:=(o.length:Int)) hv
    have h3':MJ n c live (o++[to]):=by
     refine⟨fun s hs=> ?_,fun s hs=> ?_,?_⟩
     ·rcases Tz.1 hs with hs|hs
      ·exact h3.eG s hs
      ·rw[To.1 hs];exact⟨t0,t1⟩
     ·rcases Tz.1 hs with hs|hs
      ·exact h3.lv s hs
      ·rw[To.1 hs,b9 hy];exact hy1
     ·rw[Un,U8]
      refine⟨h3.nd,by simp,fun a ha b hb=> ?_⟩
      obtain⟨s,hs,rfl⟩:=T4.1 ha
      simp only[Uo,U9,To] at hb
      subst hb
      intro e
      exact hno s hs (by rw[e])
    rw[<-zT] at hv'
    refine b7 ii (ar ii ?_)
    rw[<-zT]
    refine au (C7 h ii hv' h5 h4) fun e' hE=> ?_
    rw[e1]
    have hlen:=hE.len
    refine(qv h hn hc hlt hl (r:=r) (i:=i+1) (o:=o++[to]) (e:=e') ii hr2 h3' (hE.eb h4) ii).mono fun p hp=> ?_
    obtain⟨ox,hox⟩:=hp.ext
    refine⟨⟨to::ox,by rw[hox];simp⟩,hp.mj,hp.mp,hp.eb,hp.len,fun x hx=> ?_,fun t ht hlv=> ?_⟩
    ·obtain⟨y,g1,g2⟩:=hE.old x hx
     obtain⟨z,g3,g4⟩:=hp.old y g1
     exact⟨z,g3,g4.trans g2⟩
    ·rcases Tv.1 ht with rfl|ht
     ·obtain⟨y,g1,g2⟩:=hE.new
      obtain⟨z,g3,g4⟩:=hp.old y g1
      exact⟨z,g3,o.length,t,by rw[g4,g2],by rw[hox,TP,TG (Tp _),Uv];rfl,rfl⟩
     ·exact hp.new t ht hlv
  ·rw[e1]
   refine(qv h hn hc hlt hl (r:=r) (i:=i+1) (o:=o) (e:=e) ii hr2 h3 h4 ii).mono fun p hp=> ?_
   refine⟨hp.ext,hp.mj,hp.mp,hp.eb,hp.len,hp.old,fun t ht hlv=> ?_⟩
   rcases Tv.1 ht with rfl|ht
   ·rw[b9 hy] at hlv;exact absurd hlv hy1
   ·exact hp.new t ht hlv
structure CS (next:List (List Int)) (acc:List Bool) (c:List Nat) (live:List Bool) (o:List Int) (s:Int) (st:ba):Prop where
 acc:st.acc=acc.getD s.toNat false
 len:st.aF.length<=256
 eb:∀y∈st.aF,EB y
 lead:∀to∈next.getD s.toNat [],live.getD (aZ c to) false=true->QN c o st.aF to
theorem CS.ext {next:List (List Int)} {acc:List Bool} {c:List Nat} {live:List Bool} {o:List Int} {s:Int} {st:ba} (h:CS next acc c live o s st) (ox:List Int):CS next acc c live (o++ox) s st:=
 ⟨h.acc,h.len,h.eb,fun to h1 h2=>by
  obtain⟨y,hy,j,s',g1,g2,g3⟩:=h.lead to h1 h2
  exact⟨y,hy,j,s',g1,by rw[TE (Tk.1 g2).1];exact g2,g3⟩⟩
theorem C9 {l:List ba} {a8:List Int} (h:qG l a8) {n:Nat} {next:List (List Int)} {acc:List Bool} (hT:Tb n a8.length next) (hn:n<1000000000) (ha:acc.length=n) {c:List Nat} {live:List Bool} (hc:c.length=n) (hlt:∀s,s<n->c.getD s 0<n) (hl:live.length=n):
  ∀{f:Nat} {o:List Int} {out:List ba},MJ n c live o->out.length<=o.length->n+1<=f+out.length->(∀(j:Nat) (st:ba),out[j]? =some st->∃s,o[j]? =some s/\CS next acc c live o s st)->
   bu (nZ a8 next acc (NI c) live f out.length o (mF c o) out) fun r=>∃ox,MJ n c live (o++ox)/\r.length=(o++ox).length/\∀(j:Nat) (st:ba),r[j]? =some st->∃s,(o++ox)[j]? =some s/\CS next acc c live (o++ox) s st
 |0,o,out,h1,h2,h3,_=>by have:=h1.le hlt;omega
 |f+1,o,out,h1,h2,h3,h4=>by
  have hk:=h.len
  have ho:=h1.le hlt
  unfold nZ
  refine ar ii (ak (fun h5=> ?_) fun h5=>aj ⟨[],by rw[TK];exact h1,by rw[TK];omega,by rw[TK];exact h4⟩)
  refine a7 ii ii fun s hs hsm=> ?_
  obtain⟨s0,s1⟩:=h1.eG s hsm
  refine a7 s0 ii fun a hacc _=>a7 ii ii fun s' hs' _=> ?_
  rw[hs] at hs'
  cases hs'
  refine a7 s0 (by rw[hT.len];exact s1) fun row hrow hrm=>ar (by rw[hT.row row hrm];omega) ?_
  rw[show((out.length:Nat):Int).toNat=out.length by omega] at hs
  refine au (qv h hn hc hlt hl (r:=row) (i:=0) (o:=o) (e:=[]) (by rw[hT.row row hrm];omega) (hT.eG row hrm) h1 (fun y hy=>by cases hy) (Tp _)) fun p hp=> ?_
  obtain⟨p1,p2,p3⟩:=p
  obtain⟨⟨ox,hox⟩,g2,g3,g4,g5,g6,g7⟩:=hp
  simp only at hox g2 g3 g4 g5 g6 g7⊢
  subst hox g3
  refine b7 ii ?_
  have e1:((out.length:Int)+1)=(((out++[(⟨a,p3⟩:ba)]).length:Nat):Int):=by simp
  rw[e1]
  have hfin:∀(j:Nat) (st:ba),(out++[(⟨a,p3⟩:ba)])[j]? =some st->∃s,(o++ox)[j]? =some s/\CS next acc c live (o++ox) s st:=fun j st hj=>by
   rcases U0 j out.length with g|g|g
   ·rw[TE g] at hj
    obtain⟨s',r1,r2⟩:=h4 j st hj
    exact⟨s',by rw[TE ii];exact r1,r2.ext ox⟩
   ·subst g
    rw[TG (Tp _),Uv] at hj
    cases hj
    refine⟨s,by rw[TE ii];exact hs,?_,(by show p3.length<=256;omega),g4,fun to ht hlv=>g7 to (by rwa [b9 hrow] at ht) hlv⟩
    exact(b9 hacc).symm
   ·rw[TG ii,show j-out.length=(j-out.length-1)+1 by omega] at hj;cases hj
  refine bu.mono (C9 h hT hn ha hc hlt hl (f:=f) (o:=o++ox) (out:=out++[⟨a,p3⟩]) g2 (by simp;omega) (by simp;omega) hfin) ?_
  rintro r ⟨oy,q1,q2,q3⟩
  exact⟨ox++oy,by rw[<-TP];exact q1,by rw[<-TP];exact q2,by rw[<-TP];exact q3⟩
def Lv (l:List ba):Nat->Nat->Prop
 |0,s=>∃x,l[s]? =some x/\x.acc=true
 |k+1,s=>∃x,l[s]? =some x/\∃e∈x.aF,0<=e.to/\Lv l k e.to.toNat
structure Canon (n:Nat) (r:List ba):Prop extends AB n r where
 live:∀j,j<r.length->∃k,Lv r k j
theorem Canon.nil (n:Nat):Canon n []:=⟨AB.nil n,fun j h=>by cases h⟩
theorem PN {l:List ba} {a8:List Int} (h:qG l a8) {n:Nat} {next:List (List Int)} {acc:List Bool} (hT:Tb n a8.length next) (hn0:0<n) (hn:n<1000000000) (ha:acc.length=n) {c:List Nat} (hc:c.length=n) (hlt:∀s,s<n->c.getD s 0<n) (hS:Dv n next c) (hA:∀s t,s<n->t<n->c.getD s 0=c.getD t 0->acc.getD s false=acc.getD t false):
  bu (Mx a8 next acc (NI c)) (Canon n):=by
 unfold Mx
 refine au (xS hT hn h.len ha hc hlt hS hA) fun live hL=> ?_
 have hc0:(NI c)[0]? =some ((aZ c 0:Nat):Int):=by
  unfold aZ
  rw[TO,Tj ii,b9 (Tj ii)]
  rfl
 have h0:=hlt 0 hn0
 refine a7 ii (by rw[Tr];omega) fun x hx _=> ?_
 rw[show(0:Int).toNat=0 from rfl,hc0] at hx
 cases hx
 have h0':aZ c 0<n:=h0
 refine a7 ii (by rw[hL.len];omega) fun b hb _=> ?_
 rw[show(((aZ c 0:Nat):Int)).toNat=aZ c 0 by omega] at hb
 refine ak (fun hb1=> ?_) fun _=>aj (Canon.nil n)
 refine a7 ii (by rw[Tr];omega) fun x hx _=> ?_
 rw[show(0:Int).toNat=0 from rfl,hc0] at hx
 cases hx
 have hmj:MJ n c live [0]:=⟨fun s hs=>by rw[To.1 hs];omega,fun s hs=>by rw[To.1 hs,b9 hb];exact hb1,by simp⟩
 have e0:[(((aZ c 0:Nat):Int),(0:Int))]=mF c [0]:=rfl
 rw[e0,hT.len]
 refine(C9 h hT hn ha hc hlt hL.len (f:=n+1) (o:=[0]) (out:=[]) hmj (by simp) (by simp) fun j st hj=>by cases hj).mono fun r ⟨ox,q1,q2,q3⟩=> ?_
 have hor:=q1.le hlt
 have key:∀(k j:Nat) (s:Int),([0]++ox)[j]? =some s->QL next acc k s.toNat->Lv r k j:=fun k=>by
  induction k with
  |zero=>
   intro j s hs hv
   have hj:j<r.length:=by rw[q2];exact(Tk.1 hs).1
   obtain⟨s',g1,g2⟩:=q3 j _ (Tj hj)
   rw[hs] at g1
   cases g1
   exact⟨_,Tj hj,by rw[g2.acc];exact hv⟩
  |succ k ih=>
   intro j s hs hv
   have hj:j<r.length:=by rw[q2];exact(Tk.1 hs).1
   obtain⟨s',g1,g2⟩:=q3 j _ (Tj hj)
   rw[hs] at g1
   cases g1
   obtain⟨to,t1,t2⟩:=hv
   have hsn:=q1.eG s (Ts hs)
   have hto:=hT.eG _ (hT.at_ (s:=s.toNat) ii).1 to t1
   have hlv:live.getD (aZ c to) false=true:=hL.all hT k to.toNat ii t2
   obtain⟨y,hy,j',s',e1,e2,e3⟩:=g2.lead to t1 hlv
   have hsn':=q1.eG s' (Ts e2)
   refine⟨_,Tj hj,y,hy,by omega,?_⟩
   rw[e1,show((j':Nat):Int).toNat=j' by omega]
   exact ih j' s' e2 (tk hT hS hA k to.toNat s'.toNat ii ii e3.symm t2)
 refine⟨⟨by omega,fun st hst=> ?_,fun st hst=> ?_⟩,fun j hj=> ?_⟩
 ·obtain⟨j,hj⟩:=TJ.1 hst
  obtain⟨s,_,g⟩:=q3 j st hj
  exact g.len
 ·obtain⟨j,hj⟩:=TJ.1 hst
  obtain⟨s,_,g⟩:=q3 j st hj
  exact g.eb
 ·obtain⟨s,g1,g2⟩:=q3 j _ (Tj hj)
  have hm:=Ts g1
  obtain⟨t,k,t1,t2,t3⟩:=hL.snd _ (q1.lv s hm)
  have:=q1.eG s hm
  exact⟨k,key k j s g1 (tk hT hS hA k t s.toNat t1 ii t2 t3)⟩
theorem Gn {l:List ba} {n:Nat} (h:AB n l) (hn:n<900000000):bu (mu l) fun p=>Canon (l.length+1) p.1/\(p.2=0->WF l):=by
 have hl:=h.len
 unfold mu
 refine au (QW h ii) fun ok hok=>ak (fun h1=> ?_) fun _=>aj ⟨Canon.nil _,fun e=>by cases e⟩
 have hw:=hok h1
 refine ak (fun _=>aj ⟨Canon.nil _,fun _=>hw⟩) fun h0=> ?_
 refine au (CU h hn) fun t ht=> ?_
 have hT:=ht.tb hw
 have ha:t.2.2.length=l.length+1:=by rw[ht.acc];simp
 refine au (BJ hT ii ii ht.a8.len ha) fun cls ⟨c,m,e,hP,hS,hA⟩=> ?_
 subst e
 refine au (PN ht.a8 hT ii ii ha hP.len (fun s hs=>Us (hP.lt s hs) hP.le) hS hA) fun r hr=>aj ⟨hr,fun _=>hw⟩
structure Gd (n:Nat) (l:List ba):Prop extends AB n l where
 wf:WF l
 live:∀j,j<l.length->∃k,Lv l k j
theorem Gd.nil (n:Nat):Gd n []:=⟨AB.nil n,fun s h=>(by cases h),fun j h=>by cases h⟩
theorem Gd.mono {n m:Nat} {l:List ba} (h:Gd n l) (hn:n<=m):Gd m l:=⟨h.toAB.mono hn,h.wf,h.live⟩
theorem CH {α:Type} {g:α->α->Option Bool} {b:List α} (hg:∀x y,y∈b->bu (g x y) fun r=>r=true->x=y):∀{r:List α} {i:Nat},i+r.length=b.length->bu (jE g b r i) fun t=>t=true->r=b.drop i
 |[],i,h=>aj fun _=>by
  rw[T0] at h
  exact(TV ii).symm
 |x::r,i,h=>by
  rw[Tu] at h
  unfold jE
  refine a7 ii ii fun y hy hm=>au (hg x y hm) fun t ht=>ak (fun h1=> ?_) fun _=>aj fun h=>by cases h
  have e1:((i:Int)+1)=((i+1:Nat):Int):=by omega
  rw[e1]
  refine(CH hg (r:=r) (i:=i+1) ii).mono fun t h2 h3=> ?_
  rw[show((i:Int)).toNat=i by omega] at hy
  have hi:i<b.length:=by omega
  rw[TN hi,h2 h3,ht h1]
  rw[Tj hi] at hy
  cases hy
  rfl
theorem eqFM_tot {α:Type} {g:α->α->Option Bool} {a b:List α} (hg:∀x y,y∈b->bu (g x y) fun r=>r=true->x=y) (ha:a.length<=1000000000):bu (kH g a b) fun t=>t=true->a=b:=by
 unfold kH
 refine ak (fun h=>ar ha ?_) fun _=>aj fun h=>by cases h
 exact CH hg (r:=a) (i:=0) ii
theorem CJ {x y:Sv.Edge} (h:Ad x y=true):x=y:=by
 unfold Ad at h
 simp only[Tw,Ul,and_true] at h
 obtain⟨h1,h2,h3⟩:=h
 cases x
 cases y
 simp only at h1 h2 h3
 rw[h1,h2,h3]
theorem sj {b:List Sv.Edge}:∀{r:List Sv.Edge} {i:Nat},i+r.length=b.length->bu (iV b r i) fun t=>t=true->r=b.drop i
 |[],i,h=>aj fun _=>by
  rw[T0] at h
  exact(TV ii).symm
 |x::r,i,h=>by
  rw[Tu] at h
  unfold iV
  refine a7 ii ii fun y hy hm=>ak (fun h1=> ?_) fun _=>aj fun h=>by cases h
  have e1:((i:Int)+1)=((i+1:Nat):Int):=by omega
  rw[e1]
  refine(sj (r:=r) (i:=i+1) ii).mono fun t h2 h3=> ?_
  rw[show((i:Int)).toNat=i by omega] at hy
  have hi:i<b.length:=by omega
  rw[TN hi,h2 h3,CJ h1]
  rw[Tj hi] at hy
  cases hy
  rfl
theorem H8 {x y:ba} (h:x.aF.length<=1000000000):bu (xv x y) fun t=>t=true->x=y:=by
 unfold xv
 refine ak (fun h1=> ?_) fun _=>aj fun h=>by cases h
 unfold qm
 refine ak (fun h2=>ar h ((sj (r:=x.aF) (i:=0) ii).mono fun t h3 h4=> ?_)) fun _=>aj fun h=>by cases h
 have:=h3 h4
 rw[Uu] at this
 cases x
 cases y
 simp only at this h1
 rw[this,eq_of_beq h1]
theorem yo {α:Type} {g:α->α->Option Bool} {b:List α}:∀{r:List α} {i:Nat},(∀x∈r,∀y∈b,bu (g x y) fun r=>r=true->x=y)->i+r.length=b.length->bu (jE g b r i) fun t=>t=true->r=b.drop i
 |[],i,_,h=>aj fun _=>by
  rw[T0] at h
  exact(TV ii).symm
 |x::r,i,hg,h=>by
  rw[Tu] at h
  unfold jE
  refine a7 ii ii fun y hy hm=>au (hg x (Tn ..) y hm) fun t ht=>ak (fun h1=> ?_) fun _=>aj fun h=>by cases h
  have e1:((i:Int)+1)=((i+1:Nat):Int):=by omega
  rw[e1]
  refine(yo (r:=r) (i:=i+1) (fun x hx=>hg x (Tm _ hx)) ii).mono fun t h2 h3=> ?_
  rw[show((i:Int)).toNat=i by omega] at hy
  have hi:i<b.length:=by omega
  rw[TN hi,h2 h3,ht h1]
  rw[Tj hi] at hy
  cases hy
  rfl
theorem IP {α:Type} {g:α->α->Option Bool} {a b:List α} (hg:∀x∈a,∀y∈b,bu (g x y) fun r=>r=true->x=y) (ha:a.length<=1000000000):bu (kH g a b) fun t=>t=true->a=b:=by
 unfold kH
 refine ak (fun h=>ar ha ?_) fun _=>aj fun h=>by cases h
 exact yo (r:=a) (i:=0) hg ii
theorem mY {n:Nat} {a b:List ba} (h:AB n a) (hn:n<=1000000000):bu (rO a b) fun t=>t=true->a=b:=
 IP (fun x hx y _=>H8 (by have:=h.row x hx;omega)) (by have:=h.len;omega)
theorem mS {l:List ba} {n:Nat} (h:AB n l) (hn:n<900000000):bu (gC l) fun b=>b=true->Gd n l:=by
 unfold gC
 refine au (Gn h hn) fun p ⟨h1,h2⟩=>ak (fun h3=> ?_) fun _=>aj fun h=>by cases h
 refine(mY h ii).mono fun t ht e=>⟨h,h2 h3,?_⟩
 have:=ht e
 rw[this]
 exact h1.live
theorem LH {l:List ba} {n:Nat} (h:AB n l) (hn:n<900000000):bu (fY l) (Gd n):=by
 unfold fY
 refine au (mS h hn) fun b hb=>ak (fun h1=>aj (hb h1)) fun _=>aj (Gd.nil n)
theorem CR:∀{l out:List ba} {n:Nat},n<=1000000000->(∀s∈l,s.aF.length<=256)->out.length+l.length<=n->bu (ER l out) fun r=>r=out++l
 |[],out,n,_,_,_=>aj (by simp)
 |s::r,out,n,hn,h,h1=>by
  rw[Tu] at h1
  unfold ER Ap
  rw[Tl]
  have:=h s (Tn ..)
  refine ar ii ?_
  rw[HP]
  refine b7 ii ((CR (l:=r) (n:=n) hn (fun s hs=>h s (Tm _ hs)) (by simp;omega)).mono fun q hq=> ?_)
  rw[hq]
  simp
theorem lk {l:List ba} {n:Nat} (h:AB n l) (hn:n<=1000000000):bu (ln l) fun r=>r=l:=by
 unfold ln
 have:=h.len
 exact ar ii ((CR (n:=n) hn h.row (by simp;omega)).mono fun r hr=>by rw[hr];rfl)
theorem pJ {n:Nat} {l:List ba} (h:Gd n l) (hn:n<=1000000000) {s b:Int}:bu (jf l s b) fun x=> -1<=x/\x<l.length:=by
 unfold jf
 refine ak (fun _=>aj ii) fun h1=>ak (fun _=>aj ii) fun h2=> ?_
 refine a7 ii ii fun x hx hm=>ar (by have:=h.row x hm;omega) ?_
 have key:∀es:List Sv.Edge,(∀e∈es,0<=e.to/\e.to<l.length)->bu (iI b es) fun x=> -1<=x/\x<l.length:=fun es=>by
  induction es with
  |nil=>intro _;exact aj ii
  |cons e r ih=>
   intro he
   have h3:=he e (Tn ..)
   have h4:=ih fun e' h'=>he e' (Tm _ h')
   unfold iI
   exact ak (fun _=>ak (fun _=>aj ii) fun _=>h4) fun _=>h4
 exact key x.aF fun e he=>((h.wf x hm).one e he).2
theorem sx {l:List ba} {s:Int}:bu (ir l s) fun _=>True:=by
 unfold ir
 exact ak (fun h1=>ak (fun h2=>a7 h1 h2 fun x _ _=>aj trivial) fun _=>aj trivial) fun _=>aj trivial
theorem rv:∀{es:List Sv.Edge} {a:List Bool},(∀e∈es,EB e)->a.length=256->a[0]? =some true->bu (gk es a) fun r=>r.length=256/\r[0]? =some true
 |[],a,_,h1,h2=>aj ⟨h1,h2⟩
 |e::r,a,he,h1,h2=>by
  obtain⟨b1,b2,b3,b4⟩:=he e (Tn ..)
  have hr:=fun e' h'=>he e' (Tm _ h')
  have st:∀(a:List Bool) (j:Nat),a.length=256->a[0]? =some true->j<256->(a.set j true)[0]? =some true:=fun a j h1 h2 h3=>(jg ii 0).2 (.inl h2)
  unfold gk
  refine gY b1 ii h1 (ak (fun h3=> ?_) fun _=>rv hr (by rw[Tx];exact h1) (st a _ h1 h2 ii))
  refine ar ⟨b3,b4⟩ (gY ii ii (by rw[Tx];exact h1) ?_)
  exact rv hr (by rw[Tx,Tx];exact h1) (st _ _ (by rw[Tx];exact h1) (st a _ h1 h2 ii) ii)
theorem yw {n:Nat} {l:List ba} (h:AB n l) {s:Int} {a:List Bool} (h1:a.length=256) (h2:a[0]? =some true):bu (vu l s a) fun r=>r.length=256/\r[0]? =some true:=by
 unfold vu
 refine ak (fun _=>aj ⟨h1,h2⟩) fun h3=>ak (fun _=>aj ⟨h1,h2⟩) fun h4=> ?_
 exact a7 ii ii fun x _ hm=>ar (by have:=h.row x hm;omega) (rv (h.eb x hm) h1 h2)
theorem mm {x y:dq}:Ej x y=true↔x=y:=by
 unfold Ej
 simp only[Tw,Ul,and_true]
 cases x
 cases y
 simp
theorem qc {p:dq}:∀{r:List dq} {i:Nat},bu (fX p r i) fun k=>(k= -1/\∀q∈r,q≠p)\/((i:Int)<=k/\k<i+r.length)
 |[],i=>aj (.inl ⟨rfl,fun q hq=>by cases hq⟩)
 |x::r,i=>by
  unfold fX
  refine ak (fun h=>aj (.inr (by simp;omega))) fun h=> ?_
  have e1:((i:Int)+1)=((i+1:Nat):Int):=by omega
  rw[e1]
  refine(qc (r:=r) (i:=i+1)).mono fun k hk=> ?_
  rcases hk with⟨h1,h2⟩|h1
  ·refine .inl ⟨h1,fun q hq=> ?_⟩
   rcases Tv.1 hq with rfl|hq
   ·exact fun e=>h (mm.2 e.symm)
   ·exact h2 q hq
  ·refine .inr ?_
   rw[Tu]
   omega
def GY (B:Nat) (p:dq):Nat:=(p.a+1).toNat*B+(p.b+1).toNat
structure PJ (A B:Nat) (l:List dq):Prop where
 eG:∀p∈l,-1<=p.a/\p.a<A/\ -1<=p.b/\p.b<B
 nd:l.Nodup
theorem PJ.le {A B:Nat} {l:List dq} (h:PJ A B l):l.length<=(A+1)*(B+1):=by
 have hlt:∀p∈l,GY (B+1) p<(A+1)*(B+1):=fun p hp=>by
  obtain⟨h1,h2,h3,h4⟩:=h.eG p hp
  unfold GY
  have h5:(p.a+1).toNat+1<=A+1:=by omega
  have h6:=UA (B+1) h5
  rw[Nat.succ_mul] at h6
  omega
 have:=kA (n:=(A+1)*(B+1)) (l:=l.map (GY (B+1))) ?_ fun x hx=>by
  obtain⟨p,hp,rfl⟩:=T4.1 hx
  exact hlt p hp
 ·rwa [Tr] at this
 ·rw[U2,VN]
  refine(U2.1 h.nd).imp_of_mem fun{p q} hp hq hne e=>hne ?_
  obtain⟨h1,h2,h3,h4⟩:=h.eG p hp
  obtain⟨g1,g2,g3,g4⟩:=h.eG q hq
  unfold GY at e
  have m1:((p.a+1).toNat*(B+1)+(p.b+1).toNat)/(B+1)=(p.a+1).toNat:=by
   rw[VI,Nat.mul_add_div ii,Nat.div_eq_of_lt ii];rfl
  have m2:((q.a+1).toNat*(B+1)+(q.b+1).toNat)/(B+1)=(q.a+1).toNat:=by
   rw[VI,Nat.mul_add_div ii,Nat.div_eq_of_lt ii];rfl
  rw[e,m2] at m1
  rw[m1] at e
  have ea:p.a=q.a:=by omega
  have eb:p.b=q.b:=by omega
  cases p
  cases q
  simp only at ea eb
  rw[ea,eb]
theorem PJ.push {A B:Nat} {l:List dq} (h:PJ A B l) {p:dq} (hp: -1<=p.a/\p.a<A/\ -1<=p.b/\p.b<B) (hn:∀q∈l,q≠p):PJ A B (l++[p]):=
 ⟨fun q hq=>by
  rcases Tz.1 hq with hq|hq
  ·exact h.eG q hq
  ·rw[To.1 hq];exact hp,by
  rw[U8]
  exact⟨h.nd,by simp,fun q hq r hr=>by rw[To.1 hr];exact hn q hq⟩⟩
theorem qW {α:Type} {e:List Sv.Edge} {c:Nat} (hc:c<256) {f:List Sv.Edge->Option α} {Q:α->Prop} (hne:e≠[]) (hb:∀y∈e,EB y) (hl:e.length<=256) (k:∀e':List Sv.Edge,e'≠[]->(∀y∈e',EB y)->e'.length=e.length->bu (f e') Q):
  bu ((aN e).bind fun _=>(nV e (e.length-1) fun q=>⟨q.lo,c,q.to⟩).bind f) Q:=by
 have h0:0<e.length:=Up.2 hne
 refine ar ii (FI ii ii fun q hq hm=>k _ ?_ (fun y hy=> ?_) (by rw[Tx]))
 ·exact List.ne_nil_of_length_pos (by rw[Tx];exact h0)
 ·rcases Uy hy with hy|rfl
  ·exact hb y hy
  ·obtain⟨b1,b2,b3,b4⟩:=hb q hm
   exact⟨b1,b2,by show(0:Int)<=(c:Int);omega,by show(c:Int)<256;omega⟩
theorem nq {n:Nat} {a b:List ba} (ha:Gd n a) (hb:Gd n b) (hn:n<=20000) {p:dq} {at':List Bool} (h1:at'.length=256) (h2:at'[0]? =some true):
  ∀{m c:Nat} {l:List dq} {e:List Sv.Edge},m+c=256->PJ (a.length+1) (b.length+1) l->(∀y∈e,EB y)->e.length<=c->(0<c->e≠[])->bu (dh a b p at' m c l e) fun q=>(∃lx,q.1=l++lx)/\PJ (a.length+1) (b.length+1) q.1/\(∀y∈q.2,EB y)/\q.2.length<=256
 |0,c,l,e,h,h3,h4,h5,h6=>aj ⟨⟨[],by simp⟩,h3,h4,by show e.length<=256;omega⟩
 |m+1,c,l,e,h,h3,h4,h5,h6=>by
  have hA:=ha.len
  have hB:=hb.len
  have hll:l.length<=400080004:=by
   have:=h3.le
   have h7:(a.length+1+1)*(b.length+1+1)<=20002*20002:=UI ii ii
   omega
  have e1:((c:Int)+1)=((c+1:Nat):Int):=by omega
  unfold dh
  refine y9 ii ii h1 fun x hx=> ?_
  rw[show((c:Int)).toNat=c by omega] at hx
  rw[e1]
  have hEB:∀v:Int,EB ⟨c,0,v⟩:=fun v=>⟨by show(0:Int)<=(c:Int);omega,by show(c:Int)<256;omega,by show(0:Int)<=0;omega,by show(0:Int)<256;omega⟩
  have hadd:∀v:Int,∀y∈e++[(⟨c,0,v⟩:Sv.Edge)],EB y:=fun v y hy=>by
   rcases Tz.1 hy with hy|hy
   ·exact h4 y hy
   ·rw[To.1 hy];exact hEB v
  refine ak (fun hx1=> ?_) fun hx1=> ?_
  ·refine au (pJ ha ii) fun x1 hx2=>au (pJ hb ii) fun y1 hy2=> ?_
   have hidx:bu (nD l ⟨x1,y1⟩) fun k=>(k= -1/\∀q∈l,q≠⟨x1,y1⟩)\/(0<=k/\k<l.length):=by
    unfold nD
    refine ar ii ((qc (r:=l) (i:=0)).mono fun k hk=> ?_)
    rcases hk with hk|hk
    ·exact .inl hk
    ·exact .inr ⟨by omega,by omega⟩
   refine au hidx fun k hk=>ak (fun hk1=> ?_) fun hk1=> ?_
   ·have hno:∀q∈l,q≠⟨x1,y1⟩:=by
     rcases hk with⟨_,g⟩|g
     ·exact g
     ·omega
    have h3':PJ (a.length+1) (b.length+1) (l++[⟨x1,y1⟩]):=h3.push ⟨hx2.1,by show x1<_;omega,hy2.1,by show y1<_;omega⟩ hno
    refine b7 ii (b7 ii (qW ii (by simp) (hadd _) (by simp;omega) fun e' g1 g2 g3=> ?_))
    refine(nq ha hb hn h1 h2 (m:=m) (c:=c+1) ii h3' g2 (by rw[g3];simp;omega) fun _=>g1).mono fun q ⟨⟨lx,q1⟩,q2,q3,q4⟩=>⟨⟨⟨x1,y1⟩::lx,by rw[q1];simp⟩,q2,q3,q4⟩
   ·refine b7 ii (qW ii (by simp) (hadd _) (by simp;omega) fun e' g1 g2 g3=> ?_)
    exact nq ha hb hn h1 h2 (m:=m) (c:=c+1) ii h3 g2 (by rw[g3];simp;omega) fun _=>g1
  ·have hc0:0<c:=by
    rcases Ui c with rfl|g
    ·rw[h2] at hx;cases hx;exact absurd rfl hx1
    ·exact g
   refine qW ii (h6 hc0) h4 ii fun e' g1 g2 g3=> ?_
   exact nq ha hb hn h1 h2 (m:=m) (c:=c+1) ii h3 g2 (by rw[g3];omega) fun _=>g1
theorem xA {n:Nat} {a b:List ba} (ha:Gd n a) (hb:Gd n b) (hn:n<=20000) {is:Bool->Bool->Option Bool} (his:∀x y,bu (is x y) fun _=>True):
  ∀{f:Nat} {l:List dq} {out:List ba},PJ (a.length+1) (b.length+1) l->AB out.length out->out.length<=l.length->(a.length+2)*(b.length+2)+1<=f+out.length->bu (oh a b is f out.length l out) fun r=>AB ((a.length+2)*(b.length+2)) r
 |0,l,out,h1,h2,h3,h4=>by have:l.length<=(a.length+2)*(b.length+2):=h1.le;omega
 |f+1,l,out,h1,h2,h3,h4=>by
  have hA:=ha.len
  have hB:=hb.len
  have hle:l.length<=(a.length+2)*(b.length+2):=h1.le
  have hll:(a.length+2)*(b.length+2)<=20002*20002:=UI ii ii
  unfold oh
  refine ar ii (ak (fun h5=> ?_) fun h5=>aj ⟨by omega,h2.row,h2.eb⟩)
  refine a7 ii ii fun p hp hm=>au sx fun x _=>au sx fun y _=>au (his x y) fun acc _=> ?_
  refine au (yw (a:=kN) ha.toAB (by unfold kN;rw[Tu,Ty]) rfl) fun a1 ⟨g1,g2⟩=>au (yw hb.toAB g1 g2) fun a2 ⟨g3,g4⟩=> ?_
  refine au (nq ha hb ii g3 g4 (m:=256) (c:=0) (l:=l) (e:=[]) rfl h1 (fun y hy=>by cases hy) (Tp _) fun h=>by omega) fun q ⟨⟨lx,q1⟩,q2,q3,q4⟩=> ?_
  refine b7 ii ?_
  have e1:((out.length:Int)+1)=(((out++[(⟨acc,q.2⟩:ba)]).length:Nat):Int):=by simp
  rw[e1]
  have hq:=Ub List.length q1
  rw[Tt] at hq
  refine xA ha hb hn his (f:=f) (l:=q.1) (out:=out++[⟨acc,q.2⟩]) q2 ⟨Tp _,fun s hs=> ?_,fun s hs=> ?_⟩ (by simp;omega) (by simp;omega)
  ·rcases Tz.1 hs with hs|hs
   ·exact h2.row s hs
   ·rw[To.1 hs];exact q4
  ·rcases Tz.1 hs with hs|hs
   ·exact h2.eb s hs
   ·rw[To.1 hs];exact q3
def mi (a b:List ba):Nat:=(a.length+2)*(b.length+2)+1
theorem Canon.mono {n m:Nat} {l:List ba} (h:Canon n l) (hn:n<=m):Canon m l:=⟨h.toAB.mono hn,h.live⟩
theorem LK {l:List ba} {n:Nat} (h:AB n l) (hn:n<900000000):bu (fY l) fun r=>Gd n r/\r.length<=l.length:=by
 obtain⟨r,e,hr⟩:=LH h hn
 refine⟨r,e,hr,?_⟩
 unfold fY at e
 obtain⟨b,e1,_⟩:=mS h hn
 rw[e1,HP] at e
 split at e<;>cases e
 ·exact Tp _
 ·exact TC _
def zy (a:List ba) (less:List Bool):List Bool:=a.map fun x=>x.aF.any fun e=>less.getD e.to.toNat false
def jB (a:List ba):Nat->List Bool
 |0=>a.map (·.acc)
 |k+1=>zy a (jB a k)
theorem jh (a:List ba):∀k,(jB a k).length=a.length
 |0=>by simp[jB]
 |k+1=>by simp[jB,zy]
theorem fR {a:List ba} (hw:WF a):∀(k s:Nat),s<a.length->((jB a k)[s]? =some true↔Lv a k s)
 |0,s,hs=>by
  unfold jB Lv
  rw[TO,Tj hs]
  constructor
  ·intro h
   simp only[UK,T8] at h
   exact⟨_,rfl,h⟩
  ·rintro⟨x,h1,h2⟩
   cases h1
   simp[h2]
 |k+1,s,hs=>by
  have hm:=TT hs
  unfold jB zy Lv
  rw[TO,Tj hs]
  simp only[UK,T8,Vg]
  have key:∀e∈a[s].aF,((jB a k).getD e.to.toNat false=true↔Lv a k e.to.toNat):=fun e he=>by
   have h1:=(hw _ hm).one e he
   have h2:e.to.toNat<a.length:=by omega
   rw[<-fR hw k _ h2,TB,Tj (by rw[jh];exact h2)]
   simp
  constructor
  ·rintro⟨e,h1,h2⟩
   exact⟨_,rfl,e,h1,((hw _ hm).one e h1).2.1,(key e h1).1 h2⟩
  ·rintro⟨x,h1,e,h2,h3,h4⟩
   cases h1
   exact⟨e,h2,(key e h2).2 h4⟩
theorem Au {less:List Bool} {n s:Nat} (hn:less.length=n):∀{es:List Sv.Edge} {o:List Bool} {x:Bool},(∀e∈es,0<=e.to/\e.to<n)->o[s]? =some x->bu (QK less s es o) fun r=>r=o.set s (x||es.any fun e=>less.getD e.to.toNat false)
 |[],o,x,_,h=>aj (by
  obtain⟨h1,h2⟩:=Tk.1 h
  rw[VP,UU,<-h2,List.set_getElem_self])
 |e::r,o,x,he,h=>by
  have hs:=(Tk.1 h).1
  obtain⟨h1,h2⟩:=he e (Tn ..)
  have hr:=fun e' h'=>he e' (Tm _ h')
  have hself:∀v:Bool,(o.set s v)[s]? =some v:=fun v=>by rw[Ud];simp[hs]
  unfold QK
  refine a7 ii ii fun x' hx _=> ?_
  rw[show((s:Int)).toNat=s by omega,h] at hx
  cases hx
  refine ak (fun hx1=> ?_) fun hx1=> ?_
  ·refine eZ ii ii ((Au hn (es:=r) (x:=true) hr (hself true)).mono fun q hq=> ?_)
   rw[hq,Vq,hx1]
   simp
  ·refine a7 h1 ii fun y hy _=>eZ ii ii ?_
   rw[show((s:Int)).toNat=s by omega]
   refine(Au hn (es:=r) (x:=y) hr (hself y)).mono fun q hq=> ?_
   rw[hq,Vq,List.any_cons,b9 hy]
   have:x=false:=by simpa using hx1
   rw[this,UW]
theorem G9 {a:List ba} {less:List Bool} (hw:WF a) (hr:∀s∈a,s.aF.length<=256) (hl:less.length=a.length):∀{r:List ba} {i:Nat} {o:List Bool},a.drop i=r->o.length=a.length->(∀j,i<=j->j<a.length->o[j]? =some false)->bu (SQ a less r i o) fun q=>q=o.take i++zy r less
 |[],i,o,h,ho,_=>aj (by
  have:a.length<=i:=by rw[Vw] at h;exact h
  rw[UD ii]
  simp[zy])
 |x::r,i,o,h,ho,h0=>by
  have hi:i<a.length:=by
   rcases TX i a.length with g|g
   ·exact g
   ·rw[TV g] at h;cases h
  have hx:a[i]? =some x:=by
   rw[TN hi] at h
   injection h with h1 _
   rw[<-h1];exact Tj hi
  have hd:a.drop (i+1)=r:=by rw[<-Vd,h];rfl
  have hm:=Ts hx
  unfold SQ
  refine a7 ii ii fun x' hx' _=> ?_
  rw[show((i:Int)).toNat=i by omega,hx] at hx'
  cases hx'
  refine ar (by have:=hr x hm;omega) (au (Au hl (x:=false) (fun e he=>((hw x hm).one e he).2) (h0 i (Tp _) hi)) fun q hq=> ?_)
  subst hq
  rw[UW]
  have e1:((i:Int)+1)=((i+1:Nat):Int):=by omega
  rw[e1]
  refine(G9 hw hr hl hd (by rw[Tx];exact ho) fun j h1 h2=> ?_).mono fun q hq=> ?_
  ·rw[Ud]
   simp[show i≠j by omega,h0 j ii h2]
  ·rw[hq,Ux,Ud]
   simp[show i<o.length by omega,zy,UM]
theorem C8 {a:List ba} {n:Nat} (h:Gd n a) (hn:n<1000000000) {less:List Bool} (hl:less.length=a.length):bu (Mv a less) fun r=>r=zy a less:=by
 have:=h.len
 unfold Mv
 refine ar ii (ar ii ((G9 h.wf h.row hl (r:=a) (i:=0) (o:=List.replicate a.length false) rfl (by simp) fun j _ h2=>by rw[Uk,Th h2]).mono fun q hq=> ?_))
 rw[hq]
 simp
abbrev wy (a:List ba) (k:Nat):List (List Bool):=(List.range k).map (jB a)
theorem l8 {a:List ba} {k j:Nat} (h:j<k):(wy a k)[j]? =some (jB a j):=by
 rw[TO,Vy h];rfl
def S8 (m:Nat) (p:kP×Bool):Prop:=p.2=false/\∃w,p.1=[w]/\w.length=m
theorem Fx {a:List ba} {n:Nat} (h:Gd n a) (hn:n<1000000000) {tb:List (List Bool)} {k:Nat} (htb:tb[k]? =some (jB a k)) (hk:k<1000000000) {rec:M3} {pre:List UInt8} (hp:pre.length<1000000000) (hrec:∀(t:Int) (b:UInt8),0<=t->t<a.length->Lv a k t.toNat->bu (rec t (pre++[b]) []) (S8 (pre.length+k+1))):
  ∀{es:List Sv.Edge},(∀e∈es,EB e)->(∀e∈es,e.lo<=e.hi/\0<=e.to/\e.to<a.length)->(∃e∈es,Lv a k e.to.toNat)->bu (Jt rec tb ((k+1:Nat):Int) pre es []) (S8 (pre.length+k+1))
 |[],_,_,⟨e,he,_⟩=>by cases he
 |e::r,hb,hw,hex=>by
  obtain⟨b1,b2,b3,b4⟩:=hb e (Tn ..)
  obtain⟨w1,w2,w3⟩:=hw e (Tn ..)
  have htl:=(Tk.1 htb).1
  have hrow:(jB a k).length=a.length:=jh a k
  unfold Jt Nc
  refine ar ⟨b1,b2⟩ ?_
  rw[Tl]
  refine ar ⟨b3,b4⟩ ?_
  rw[Th w1,Tl]
  refine ar ⟨by omega,by omega⟩ ?_
  rw[Tl]
  refine a7 ii ii fun row hr _=> ?_
  rw[show(((k+1:Nat):Int)-1).toNat=k by omega,htb] at hr
  cases hr
  rw[Tl]
  refine a7 w2 ii fun ok hok _=> ?_
  cases ok with
  |true=>
   have hlv:Lv a k e.to.toNat:=(fR h.wf k _ ii).1 hok
   rw[Th rfl,Tl]
   refine ar ⟨b1,b2⟩ ?_
   rw[Tl]
   refine b7 hp ?_
   rw[Tl]
   refine au (hrec e.to _ w2 w3 hlv) fun p hp2=> ?_
   rw[Ti (by rw[hp2.1];decide)]
   exact aj ⟨rfl,hp2.2⟩
  |false=>
   rw[Ti (by decide)]
   refine Fx h hn htb hk hp hrec (es:=r) (fun e' h'=>hb e' (Tm _ h')) (fun e' h'=>hw e' (Tm _ h')) ?_
   obtain⟨e',h1,h2⟩:=hex
   rcases Tv.1 h1 with rfl|h1
   ·rw[(fR h.wf k _ ii).2 h2] at hok
    cases hok
   ·exact⟨e',h1,h2⟩
theorem Fw {a:List ba} {n:Nat} (h:Gd n a) (hn:n<1000000000) {tb:List (List Bool)}:∀{k:Nat} {s:Int} {pre:List UInt8},(∀j,j<k->tb[j]? =some (jB a j))->k<1000000000->pre.length+k<1000000000->0<=s->s<a.length->Lv a k s.toNat->bu (DM a tb 1 k s pre []) (S8 (pre.length+k))
 |0,s,pre,_,_,hp,_,_,_=>by
  unfold DM wvY
  refine b7 (by simp) (ar (by simp) ?_)
  rw[Th (by simp)]
  exact aj ⟨rfl,pre,rfl,rfl⟩
 |k+1,s,pre,htb,hk,hp,hs0,OZ,hlv=>by
  unfold DM
  obtain⟨x,hx,e,he,_,hl⟩:=hlv
  refine a7 hs0 OZ fun x' hx' hm=> ?_
  rw[hx] at hx'
  cases hx'
  refine ar (by have:=h.row x hm;omega) ?_
  refine(Fx h hn (htb k ii) ii ii (fun t b h1 h2 h3=> ?_) (h.eb x hm) (h.wf x hm).one ⟨e,he,hl⟩).mono fun p hp=>by rwa [UG] at hp
  have:=Fw h hn (tb:=tb) (k:=k) (s:=t) (pre:=pre++[b]) (fun j hj=>htb j ii) ii (by simp;omega) h1 h2 h3
  rw[Tt,TQ] at this
  rwa [show pre.length+1+k=pre.length+k+1 by omega] at this
def AN (a:List ba) (k s:Nat):Prop:=Lv a k s/\∀j,j<k->¬Lv a j s
theorem Gq {a:List ba} {s:Nat}:∀{k:Nat},Lv a k s->∃m,AN a m s:=fun{k}=>by
 induction k using Nat.strongRecOn with
 |ind k ih=>
  intro h
  by_cases g:∃j,j<k/\Lv a j s
  ·obtain⟨j,h1,h2⟩:=g
   exact ih j h1 h2
  ·exact⟨k,h,fun j h1 h2=>g ⟨j,h1,h2⟩⟩
theorem Lv.lt {a:List ba} {k s:Nat} (h:Lv a k s):s<a.length:=by
 cases k with
 |zero=>obtain⟨x,h1,_⟩:=h;exact(Tk.1 h1).1
 |succ k=>obtain⟨x,h1,_⟩:=h;exact(Tk.1 h1).1
theorem mv {a:List ba}:∀{k s:Nat},AN a k s->∀d,d<=k->∃t,AN a d t
 |0,s,h,d,hd=>⟨s,by rw[Vu.1 hd];exact h⟩
 |k+1,s,h,d,hd=>by
  by_cases e:d=k+1
  ·exact⟨s,by rw[e];exact h⟩
  ·obtain⟨⟨x,h1,y,h2,h3,h4⟩,h5⟩:=h
   exact mv (k:=k) (s:=y.to.toNat) ⟨h4,fun j hj hl=>h5 (j+1) ii ⟨x,h1,y,h2,h3,hl⟩⟩ d ii
theorem Gp {a:List ba} {k s:Nat} (h:AN a k s):k<a.length:=by
 have hr:∃f:Nat->Nat,∀d,d<k+1->AN a d (f d):=⟨fun d=>if g:d<k+1 then(mv h d ii).choose else 0,fun d g=>by
  simp only[g,VH]
  exact(mv h d ii).choose_spec⟩
 obtain⟨f,hf⟩:=hr
 exact uo (m:=k+1) f (fun i hi=>(hf i hi).1.lt) fun i j hi hj e=>by
  rcases U0 i j with g|g|g
  ·exact absurd (e▸(hf i hi).1) ((hf j hj).2 i g)
  ·exact g
  ·exact absurd (e▸(hf j hj).1) ((hf i hi).2 j g)
theorem Cp {v:Bool}:∀{l:List Bool} {i:Int},v∈l->bu (ED v l i) fun k=>i<=k
 |[],i,h=>by cases h
 |x::r,i,h=>by
  unfold ED
  refine ak (fun _=>aj (TM _)) fun g=> ?_
  have hr:v∈r:=by
   rcases Tv.1 h with rfl|h
   ·exact(g (by simp)).elim
   ·exact h
  exact(Cp hr).mono fun k hk=>by omega
theorem CT {l:List Bool} {v:Bool} (h:l.length<=1000000000) (hv:v∈l):IX l v=some true:=by
 obtain⟨k,h1,h2⟩:=Cp (i:=0) hv
 unfold IX
 rw[show aN l=some () from Th h,HP,h1,HP,Uc h2]
def NoW (m:Nat) (p:kP×Bool):Prop:=∃w,p.1=[w]/\w.length<=m
theorem FB {a:List ba} {n:Nat} (h:Gd n a) (hn:n<400000000) {k m:Nat} (hkm:k<=m) (hm:m<a.length) {rec:Nat->List (List Bool)->kP->Option (kP×Bool)} (hmin:AN a m 0) (hrec:k<m->bu (rec (k+1) (wy a (k+1)) []) (NoW m)):bu (Qo rec a 1 k (wy a (k+1)) []) (NoW m):=by
 have hlen:=h.len
 have hrl:=jh a k
 have htl:(wy a (k+1)).length=k+1:=by simp
 unfold Qo
 refine a7 ii ii fun r hr _=> ?_
 rw[show((k:Int)).toNat=k by omega,l8 (k:=k+1) (j:=k) ii] at hr
 cases hr
 have hlv:=hmin.1
 have hnot:=hmin.2
 obtain⟨t,ht,_⟩:=mv hmin k hkm
 rw[CT ii (Ts ((fR h.wf k t ht.lt).2 ht)),HP,Th rfl]
 refine ar ii (ar ⟨by omega,by omega⟩ (ar ii ?_))
 have hlast:((wy a (k+1)).take (k+1)).drop k=[jB a k]:=by
  rw[UD ii,TN ii,TV ii]
  have:=l8 (a:=a) (k:=k+1) (j:=k) ii
  rw[Tj ii] at this
  injection this with this
  rw[this]
 rw[hlast]
 unfold Bj
 rw[Tl]
 refine a7 (TM _) (by simp) fun r hr _=> ?_
 cases hr
 rw[Tl]
 refine a7 (TM _) ii fun b hb _=> ?_
 cases b with
 |true=>
  have hlv:=(fR h.wf k 0 ii).1 hb
  have hkm':k=m:=by
   rcases TX k m with g|g
   ·exact absurd hlv (hnot k g)
   ·omega
  rw[Th rfl]
  refine au (Fw h ii (k:=k) (s:=0) (pre:=[]) (fun j hj=>l8 ii) ii (by simp;omega) (TM _) ii hlv) fun p hp=> ?_
  rw[Ti (by rw[hp.1];decide)]
  obtain⟨_,w,h1,h2⟩:=hp
  exact aj ⟨w,h1,by rw[h2];simp;omega⟩
 |false=>
  rw[Ti (by decide),HP,Th rfl]
  rcases TX k m with g|g
  ·exact hrec g
  ·have hkm':k=m:=by omega
   subst hkm'
   have:=(fR h.wf k 0 ii).2 hlv
   rw[show(0:Int).toNat=0 from rfl,this] at hb
   cases hb
theorem FC {a:List ba} {n:Nat} (h:Gd n a) (hn:n<400000000) {m:Nat} (hm:m<a.length) (hmin:AN a m 0):∀{f k:Nat},k<=m->m+1<=f+k->bu (FD a 1 f k (wy a (max k 1)) []) (NoW m)
 |0,k,h1,h2=>by omega
 |f+1,k,h1,h2=>by
  have hlen:=h.len
  unfold FD
  refine ar ii ?_
  rw[Th ii]
  have hrec:k<m->bu (FD a 1 f (k+1) (wy a (k+1)) []) (NoW m):=fun g=>by
   have:=FC h hn hm hmin (f:=f) (k:=k+1) ii ii
   rwa [show max (k+1) 1=k+1 by omega] at this
  refine ak (fun hk=> ?_) fun hk=> ?_
  ·have hmax:max k 1=k:=by omega
   rw[hmax]
   have htl:(wy a k).length=k:=by simp
   refine ar ⟨by omega,by omega⟩ (a7 ii ii fun r hr _=> ?_)
   rw[show((k:Int)-1).toNat=k-1 by omega,l8 (show k-1<k by omega)] at hr
   cases hr
   refine au (C8 h ii (jh a _)) fun r' hr'=>b7 ii ?_
   have e:wy a k++[r']=wy a (k+1):=by
    unfold wy
    rw[List.range_succ,Un,hr']
    have:zy a (jB a (k-1))=jB a k:=by
     conv=>rhs;rw[show k=(k-1)+1 by omega]
     rfl
    rw[this]
    rfl
   rw[e]
   exact FB h hn h1 hm hmin hrec
  ·have hk0:k=0:=by omega
   subst hk0
   exact FB h hn h1 hm hmin hrec
theorem y5 {a:List ba} (hn:a.length<1000000000):∀{r:List ba} {i:Nat} {l:List Bool},a.drop i=r->l.length=i->bu (QX a r i l) fun q=>q=l++r.map (·.acc)
 |[],i,l,_,_=>aj (by simp)
 |x::r,i,l,h,hl=>by
  have hi:i<a.length:=by
   rcases TX i a.length with g|g
   ·exact g
   ·rw[TV g] at h;cases h
  have hx:a[i]? =some x:=by
   rw[TN hi] at h
   injection h with h1 _
   rw[<-h1];exact Tj hi
  have hd:a.drop (i+1)=r:=by rw[<-Vd,h];rfl
  unfold QX
  refine a7 ii ii fun x' hx' _=> ?_
  rw[show((i:Int)).toNat=i by omega,hx] at hx'
  cases hx'
  have e1:((i:Int)+1)=((i+1:Nat):Int):=by omega
  rw[e1]
  refine b7 ii ((y5 hn hd (by simp[hl])).mono fun q hq=> ?_)
  rw[hq]
  simp
theorem DQ {a:List ba} {n:Nat} (h:AB n a) (hn:n<400000000):bu (oE a 1) fun l=>l=[]/\fY a=some []\/∃w,l=[w]/\w.length<=n/\fY a≠some []:=by
 unfold oE tw
 rw[Ti (by decide)]
 obtain⟨a',hg,ha,hle⟩:=LK h (show n<900000000 by omega)
 rw[hg,HP,HP]
 have hl:=h.len
 unfold wdM
 rw[Tl]
 refine ar ii ?_
 rw[Tl]
 refine au (y5 ii (r:=a') (i:=0) (l:=[]) rfl rfl) fun r hr=> ?_
 subst hr
 rcases Ui a'.length with h0|h0
 ·unfold tC FD
  rw[Tl]
  refine ar ii ?_
  rw[Ti ii]
  exact aj (.inl ⟨rfl,by rw[TH.1 h0]⟩)
 ·obtain⟨k,hk⟩:=ha.live 0 h0
  obtain⟨m,hm⟩:=Gq hk
  have hml:=Gp hm
  refine au (FC ha hn hml hm (f:=tC a' 1) (k:=0) (TC _) (by
   unfold tC
   rw[Ti (by decide)]
   have:(1:Int).toNat=1:=rfl
   rw[this]
   omega)) fun p hp=>aj ?_
  obtain⟨w,hp,hw⟩:=hp
  exact .inr ⟨w,hp,by omega,fun e=>by rw[TD e] at h0;exact Nat.lt_irrefl 0 h0⟩
theorem uO {a:List ba} {n:Nat} (h:AB n a) (hn:n<400000000):bu (jn a) fun r=>r.1.length<=n/\(r.2=true↔fY a≠some []):=by
 unfold jn
 refine au (DQ h hn) fun l hl=> ?_
 rcases hl with⟨rfl,hg⟩|⟨w,rfl,hw,hg⟩
 ·exact ar (by simp) (by rw[Th (by simp)];exact aj ⟨TC _,by simp,fun e=>(e hg).elim⟩)
 ·refine ar (by simp) ?_
  rw[Ti (by simp)]
  exact a7 (TM _) (by simp) fun x hx _=>by
   cases hx
   exact aj ⟨hw,fun _=>hg,fun _=>rfl⟩
theorem Ez {a:List ba} {n:Nat} (h:AB n a) (hn:n<400000000):bu (jn a) fun r=>r.1.length<=n:=(uO h hn).mono fun r hr=>hr.1
end Go.Proofs.YtaagahmkmcnhaaaGreatDoor
