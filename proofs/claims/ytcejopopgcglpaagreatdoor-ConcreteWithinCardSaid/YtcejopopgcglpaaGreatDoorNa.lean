/- For ConcreteWithin: automata. -/
import Derived.Test.YtcejopopgcglpaaGreatDoorMc
set_option linter.unusedVariables false
set_option linter.unusedSimpArgs false
set_option linter.unusedSectionVars false
namespace Go.Proofs.YtcejopopgcglpaaGreatDoor
open Sv
def aW {α:Type} (x:Option α) (P:α->Prop):Prop:=∃a,x=some a/\P a
section
variable {α β:Type} {P:α->Prop} {Q:β->Prop}
theorem aW.mono {P':α->Prop} {x:Option α} (h:aW x P) (k:∀a,P a->P' a):aW x P':=by
 obtain⟨a,e,ha⟩:=h
 exact⟨a,e,k a ha⟩
theorem aj {a:α} (h:P a):aW (some a) P:=⟨a,rfl,h⟩
theorem aq {x:Option α} {f:α->Option β} (h:aW x P) (k:∀a,P a->aW (f a) Q):aW (x.bind f) Q:=by
 obtain⟨a,rfl,ha⟩:=h
 exact k a ha
theorem au {c:Prop} [Decidable c] {f:Unit->Option β} (h:c) (k:aW (f ()) Q):aW ((zf c).bind f) Q:=by
 unfold zf
 rw[HP h]
 exact k
theorem aX {l:List α} {i:Int} {f:α->Option β} (h0:0<=i) (h1:i<l.length) (k:∀x,l[i.toNat]? =some x->x∈l->aW (f x) Q):aW ((cJ l i).bind f) Q:=by
 unfold cJ
 have h2:i.toNat<l.length:=by omega
 rw[HP h0,VV h2]
 exact k _ (VV h2) (WC h2)
theorem fh {l:List α} {i:Int} {x:α} {f:List α->Option β} (h0:0<=i) (h1:i<l.length) (k:aW (f (l.set i.toNat x)) Q):aW ((kZ l i x).bind f) Q:=by
 unfold kZ
 rw[HP ⟨h0,h1⟩]
 exact k
theorem Am {l:List α} {i:Int} {g:α->α} {f:List α->Option β} (h0:0<=i) (h1:i<l.length) (k:∀x,l[i.toNat]? =some x->x∈l->aW (f (l.set i.toNat (g x))) Q):aW ((ot l i g).bind f) Q:=by
 unfold ot
 rw[VY]
 exact aX h0 h1 k
theorem An {m:Nat} {l:List α} {i:Int} {f:α->Option β} (h0:0<=i) (hm:i<m) (hl:l.length=m) (k:∀x,l[i.toNat]? =some x->aW (f x) Q):aW ((Vw m l i).bind f) Q:=by
 unfold Vw
 have h2:i.toNat<l.length:=by omega
 rw[HP ⟨h0,hm⟩,VV h2]
 exact k _ (VV h2)
theorem hM {m:Nat} {l:List α} {i:Int} {x:α} {f:List α->Option β} (h0:0<=i) (hm:i<m) (hl:l.length=m) (k:aW (f (l.set i.toNat x)) Q):aW ((s6 m l i x).bind f) Q:=by
 unfold s6
 rw[HP ⟨h0,hm,by omega⟩]
 exact k
theorem bw {l:List α} {x:α} {f:List α->Option β} (h:l.length<1000000000) (k:aW (f (l++[x])) Q):aW ((push l x).bind f) Q:=by
 unfold push
 rw[HP h]
 exact k
theorem nj {l r:List α} {f:List α->Option β} (h:l.length+r.length<=1000000000) (k:aW (f (l++r)) Q):aW ((mu l r).bind f) Q:=by
 unfold mu
 rw[HP h]
 exact k
theorem qX {l:List α} {x:α} {Q:List α->Prop} (h:l.length<1000000000) (k:Q (l++[x])):aW (push l x) Q:=by
 unfold push
 rw[HP h]
 exact aj k
theorem ar {c:Prop} [Decidable c] {a b:Option β} (hp:c->aW a Q) (hn:¬c->aW b Q):aW (if c then a else b) Q:=by
 split<;>rename_i h
 ·exact hp h
 ·exact hn h
end
theorem iX:∀{n:Nat} {l:List Nat},l.Nodup->(∀x∈l,x<n)->l.length<=n
 |0,[],_,_=>V2 _
 |0,x::l,_,h=>absurd (h x (V0 ..)) ii
 |n+1,l,h,hb=>by
  have h1:=iX (n:=n) (l:=l.erase n) (h.erase n) fun x hx=>by
   have:=(h.mem_erase_iff).1 hx
   have:=hb x this.2
   omega
  rw[List.length_erase] at h1
  split at h1<;>omega
theorem Gf {m n:Nat} (f:Nat->Nat) (hf:∀i,i<m->f i<n) (inj:∀i j,i<m->j<m->f i=f j->i=j):m<=n:=by
 have h:=iX (n:=n) (l:=(List.range m).map f) ?_ ?_
 ·rwa [V4,List.length_range] at h
 ·rw[Xk,Yb]
  refine(Xk.1 (Yx (n:=m))).imp_of_mem fun{a b} ha hb hab e=>hab (inj a b (XJ.1 ha) (XJ.1 hb) e)
 ·intro x hx
  obtain⟨i,hi,rfl⟩:=WQ.1 hx
  exact hf i (XJ.1 hi)
def EB (e:Sv.Edge):Prop:=0<=e.lo/\e.lo<256/\0<=e.hi/\e.hi<256
structure AB (n:Nat) (l:List bj):Prop where
 len:l.length<=n
 row:∀s∈l,s.aI.length<=256
 eb:∀s∈l,∀e∈s.aI,EB e
theorem AB.mono {n m:Nat} {l:List bj} (h:AB n l) (hn:n<=m):AB m l:=⟨Wq h.len hn,h.row,h.eb⟩
theorem AB.nil (n:Nat):AB n []:=⟨Wd _,fun s h=>(by cases h),fun s h=>(by cases h)⟩
structure EW (n:Nat) (es:List Sv.Edge):Prop where
 one:∀e∈es,e.lo<=e.hi/\0<=e.to/\e.to<n
 adj:∀(i:Nat) (x y:Sv.Edge),es[i]? =some x->es[i+1]? =some y->x.hi<y.lo
def WF (l:List bj):Prop:=∀s∈l,EW l.length s.aI
theorem Hv {n:Nat} {all:List Sv.Edge}:∀{r pre:List Sv.Edge},all=pre++r->aW (Mb n all r pre.length) fun c=>c= .ret false\/c= .Fv ()/\(∀e∈r,e.lo<=e.hi/\0<=e.to/\e.to<n)/\∀(i:Nat) (x y:Sv.Edge),pre.length<=i+1->all[i]? =some x->all[i+1]? =some y->x.hi<y.lo
 |[],pre,h=>aj (.inr ⟨rfl,fun e h=>(by cases h),fun i x y h1 h2 h3=>by
  have h4:=(VZ.1 h3).1
  rw[h,Wy] at h4
  omega⟩)
 |e::r,pre,h=>by
  unfold Mb
  refine ar (fun _=>aj (.inl rfl)) fun h1=>ar (fun _=>aj (.inl rfl)) fun h2=>ar (fun _=>aj (.inl rfl)) fun h3=> ?_
  have hl:(pre++[e]).length=pre.length+1:=by simp
  have ih:=Hv (n:=n) (all:=all) (r:=r) (pre:=pre++[e]) (by rw[h];simp)
  rw[hl] at ih
  have he:all[pre.length]? =some e:=by rw[h];simp
  have fin:∀c:Ctl Bool Unit,(c= .ret false\/c= .Fv ()/\(∀e∈r,e.lo<=e.hi/\0<=e.to/\e.to<n)/\∀(i:Nat) (x y:Sv.Edge),pre.length+1<=i+1->all[i]? =some x->all[i+1]? =some y->x.hi<y.lo)->(∀x y:Sv.Edge,0<pre.length->all[pre.length-1]? =some x->all[pre.length]? =some y->x.hi<y.lo)->
    c= .ret false\/c= .Fv ()/\(∀e'∈e::r,e'.lo<=e'.hi/\0<=e'.to/\e'.to<n)/\∀(i:Nat) (x y:Sv.Edge),pre.length<=i+1->all[i]? =some x->all[i+1]? =some y->x.hi<y.lo:=fun c hc hx=>by
   rcases hc with hc|⟨hc,g1,g2⟩
   ·exact .inl hc
   refine .inr ⟨hc,fun e' he'=> ?_,fun i x y g3 g4 g5=> ?_⟩
   ·rcases V9.1 he' with rfl|h'
    ·exact⟨by omega,by omega,by omega⟩
    ·exact g1 e' h'
   ·by_cases g:pre.length=i+1
    ·exact hx x y ii (by rw[g];exact g4) (by rw[g];exact g5)
    ·exact g2 i x y ii g4 g5
  refine ar (fun h4=> ?_) fun h4=> ?_
  ·refine aX ii (by rw[h];simp;omega) fun p hp _=>ar (fun _=>aj (.inl rfl)) fun h5=> ?_
   refine ih.mono fun c hc=>fin c hc fun x y g1 g2 g3=> ?_
   rw[show((pre.length:Int)-1).toNat=pre.length-1 by omega,g2] at hp
   rw[g3] at he
   cases hp
   cases he
   omega
  ·exact ih.mono fun c hc=>fin c hc fun x y g1=>by omega
theorem Hu {n m:Nat}:∀{l:List bj},AB m l->aW (Qc n l) fun b=>b=true->∀s∈l,EW n s.aI
 |[],_=>aj fun _ s h=>(by cases h)
 |s::r,h=>by
  unfold Qc
  have h1:=h.row s (V0 ..)
  refine au ii (aq (Hv (pre:=[]) rfl) fun c hc=> ?_)
  rcases hc with rfl|⟨rfl,g1,g2⟩
  ·exact aj fun hb=>by cases hb
  ·refine(Hu (n:=n) (l:=r) ⟨Wq (XI _) h.len,fun s hs=>h.row s (VX _ hs),fun s hs=>h.eb s (VX _ hs)⟩).mono fun b hb e t ht=> ?_
   rcases V9.1 ht with rfl|h'
   ·exact⟨g1,fun i x y=>g2 i x y (Wd _)⟩
   ·exact hb e t h'
theorem Ma {l:List bj} {n:Nat} (h:AB n l) (hn:n<=1000000000):aW (FJ l) fun b=>b=true->WF l:=by
 unfold FJ
 have:=h.len
 exact au ii (Hu h)
def Sd (l:List UInt8):Nat:=l.foldl (fun a b=>a*10+(b.toNat-48)) 0
theorem OG (l:List UInt8) (b:UInt8):Sd (l++[b])=Sd l*10+(b.toNat-48):=by simp[Sd]
theorem zu {u:Nat} (h:u<10):(UInt8.ofNat (48+u)).toNat=48+u:=by
 rw[XQ]
 omega
theorem gm (u:Nat):Sd (Go.Lib.decDigits u)=u/\∀b∈Go.Lib.decDigits u,48<=b.toNat:=by
 induction u using Nat.strongRecOn with
 |ind u ih=>
  rw[Go.Lib.decDigits]
  split
  ·rename_i h
   have:=zu h
   refine⟨by show 0*10+((UInt8.ofNat (48+u)).toNat-48)=u;rw[this];omega,fun b hb=> ?_⟩
   rw[V1.1 hb,this]
   omega
  ·rename_i h
   obtain⟨h1,h2⟩:=ih (u/10) ii
   have:=zu (u:=u % 10) ii
   refine⟨?_,fun b hb=> ?_⟩
   ·rw[OG,h1,this];omega
   ·rcases V8.1 hb with hb|hb
    ·exact h2 b hb
    ·rw[V1.1 hb,this];omega
theorem qk (n:Nat):eE n=Go.Lib.decDigits n:=Go.Lib.itoa_nonneg n
theorem kz (n:Nat):∀b∈eE n,b≠44:=fun b hb e=>by
 rw[qk] at hb
 have:=(gm n).2 b hb
 subst e
 exact absurd this (by decide)
theorem lp {m n:Nat} (h:eE m=eE n):m=n:=by
 rw[qk,qk] at h
 rw[<-(gm m).1,<-(gm n).1,h]
def Com (r:List UInt8):Prop:=r=[]\/∃t,r=44::t
theorem tz:∀{a b r s:List UInt8},(∀x∈a,x≠44)->(∀x∈b,x≠44)->Com r->Com s->a++r=b++s->a=b/\r=s
 |[],[],r,s,_,_,_,_,h=>⟨rfl,h⟩
 |[],y::b,r,s,_,hb,hr,hs,h=>by
  rcases hr with rfl|⟨t,rfl⟩
  ·cases h
  ·injection h with h1 _
   exact absurd h1.symm (hb y (V0 ..))
 |x::a,[],r,s,ha,_,hr,hs,h=>by
  rcases hs with rfl|⟨t,rfl⟩
  ·cases h
  ·injection h with h1 _
   exact absurd h1 (ha x (V0 ..))
 |x::a,y::b,r,s,ha,hb,hr,hs,h=>by
  injection h with h1 h2
  obtain⟨h3,h4⟩:=tz (fun z hz=>ha z (VX _ hz)) (fun z hz=>hb z (VX _ hz)) hr hs h2
  exact⟨by rw[h1,h3],h4⟩
def sZ (cls:List Nat):List Int->List UInt8
 |[]=>[]
 |to::r=>44::eE ((cls.getD to.toNat 0:Nat):Int)++sZ cls r
theorem pT (cls:List Nat) (row:List Int):Com (sZ cls row):=by
 cases row with
 |nil=>exact .inl rfl
 |cons to r=>exact .inr ⟨_,rfl⟩
theorem Cy (cls:List Nat):∀{r s:List Int},r.length=s.length->sZ cls r=sZ cls s->∀(i:Nat) (x y:Int),r[i]? =some x->s[i]? =some y->cls.getD x.toNat 0=cls.getD y.toNat 0
 |[],_,_,_,i,x,y,h,_=>by cases h
 |a::r,[],h,_,i,x,y,_,h2=>by cases h2
 |a::r,b::s,hl,h,i,x,y,h1,h2=>by
  unfold sZ at h
  injection h with _ h
  obtain⟨h3,h4⟩:=tz (kz _) (kz _) (pT _ _) (pT _ _) h
  cases i with
  |zero=>
   cases h1
   cases h2
   exact lp h3
  |succ i=>exact Cy cls (by simpa using hl) h4 i x y h1 h2
theorem Cz {cls:List Nat} (hc:∀c∈cls,c<1000000000):∀{row:List Int} {b:List UInt8},(∀t∈row,0<=t/\t<cls.length)->b.length+row.length*22<=1000000->aW (F4 (cls.map fun(n:Nat)=>(n:Int)) row b) fun x=>x=b++sZ cls row
 |[],b,_,_=>aj (by simp[sZ])
 |to::r,b,h,hb=>by
  unfold F4
  obtain⟨h0,h1⟩:=h to (V0 ..)
  refine aX h0 (by rw[V4];exact h1) fun c hc1 _=> ?_
  have h2:to.toNat<cls.length:=by omega
  rw[Wt,VV h2] at hc1
  simp only[Xv,WN] at hc1
  have h3:=hc _ (WC h2)
  have h4:(eE c).length<=21:=Go.Lib.itoa_length_le c ii ii
  rw[V5] at hb
  refine au ⟨by omega,by omega⟩ (au ii ?_)
  refine(Cz hc (row:=r) (fun t ht=>h t (VX _ ht)) (by simp;omega)).mono fun x hx=> ?_
  rw[hx,sZ,Wg,VV h2,<-hc1]
  simp
structure Tb (n w:Nat) (next:List (List Int)):Prop where
 len:next.length=n
 row:∀r∈next,r.length=w
 eO:∀r∈next,∀t∈r,0<=t/\t<n
abbrev NI (cls:List Nat):List Int:=cls.map fun(n:Nat)=>(n:Int)
def oo (cls:List Nat) (next:List (List Int)) (s:Nat):List UInt8:=eE ((cls.getD s 0:Nat):Int)++sZ cls (next.getD s [])
theorem cy {α:Type} {l:List α} {i:Nat} {d x:α} (h:l[i]? =some x):l.getD i d=x:=by rw[Wg,h];rfl
theorem My {n w:Nat} {cls:List Nat} {next:List (List Int)} (hT:Tb n w next) (hl:cls.length=n) (hc:∀c∈cls,c<1000000000) (hw:w<=256) {s:Nat} (hs:s<n):aW (J0 (NI cls) next s) fun x=>x=oo cls next s:=by
 unfold J0
 have h1:s<cls.length:=by omega
 have h2:s<next.length:=by rw[hT.len];exact hs
 refine aX ii (by rw[V4];omega) fun c hc1 _=> ?_
 rw[show((s:Int)).toNat=s by omega,Wt,VV h1] at hc1
 simp only[Xv,WN] at hc1
 have h3:=hc _ (WC h1)
 refine au ⟨by omega,by omega⟩ (aX ii ii fun row hr hm=> ?_)
 have h4:=hT.row row hm
 have h5:(eE c).length<=21:=Go.Lib.itoa_length_le c ii ii
 refine au ii ((Cz hc (fun t ht=>by rw[hl];exact hT.eO row hm t ht) ii).mono fun x hx=> ?_)
 rw[show((s:Int)).toNat=s by omega] at hr
 rw[hx,oo,cy hr,cy (VV h1),hc1]
theorem CA {n w:Nat} {cls:List Nat} {next:List (List Int)} (hT:Tb n w next) {s t:Nat} (hs:s<n) (ht:t<n) (h:oo cls next s=oo cls next t):cls.getD s 0=cls.getD t 0/\∀(i:Nat) (x y:Int),(next.getD s [])[i]? =some x->(next.getD t [])[i]? =some y->cls.getD x.toNat 0=cls.getD y.toNat 0:=by
 unfold oo at h
 obtain⟨h1,h2⟩:=tz (kz _) (kz _) (pT _ _) (pT _ _) h
 have g:∀s,s<n->(next.getD s []).length=w:=fun s hs=>by
  have h3:s<next.length:=by rw[hT.len];exact hs
  rw[cy (VV h3)]
  exact hT.row _ (WC h3)
 exact⟨lp h1,Cy cls (by rw[g s hs,g t ht]) h2⟩
structure Sn (seen:List (List UInt8×Int)):Prop where
 nd:(seen.map (·.1)).Nodup
 num:∀(j:Nat) (p:List UInt8×Int),seen[j]? =some p->p.2=(j:Int)
theorem gS:∀{κ α:Type} [DecidableEq κ] {seen:List (κ×α)} {x:κ} {k:α},cx x seen=some k->(x,k)∈seen
 |_,_,_,p::r,x,k,h=>by
  unfold cx at h
  split at h
  ·rename_i e
   cases h
   rw[<-e]
   exact V0 ..
  ·exact VX _ (gS h)
theorem rF:∀{κ α:Type} [DecidableEq κ] {seen:List (κ×α)} {x:κ},cx x seen=none->∀p∈seen,p.1≠x
 |_,_,_,q::r,x,h,p,hp=>by
  unfold cx at h
  split at h
  ·cases h
  ·rename_i e
   rcases V9.1 hp with rfl|hp
   ·exact e
   ·exact rF h p hp
theorem vW:∀{κ α:Type} [DecidableEq κ] {seen:List (κ×α)} {x y:κ} {k v:α},cx x seen=some k->cx x (seen++[(y,v)])=some k
 |_,_,_,p::r,x,y,k,v,h=>by
  unfold cx at h
  rw[XM]
  unfold cx
  split at h
  ·rename_i e;rw[HP e];exact h
  ·rename_i e;rw[TP e];exact vW h
theorem qz:∀{κ α:Type} [DecidableEq κ] {seen:List (κ×α)} {x:κ} {v:α},cx x seen=none->cx x (seen++[(x,v)])=some v
 |_,_,_,[],x,v,_=>by simp[cx]
 |_,_,_,p::r,x,v,h=>by
  unfold cx at h
  rw[XM]
  unfold cx
  split at h
  ·cases h
  ·rename_i e;rw[TP e];exact qz h
structure RI (cls:List Nat) (next:List (List Int)) (n k:Nat) (seen:List (List UInt8×Int)) (c:List Nat):Prop where
 len:c.length=n
 sn:Sn seen
 le:seen.length<=k
 RZ:∀t,t<k->cx (oo cls next t) seen=some ((c.getD t 0:Nat):Int)
 SU:∀p∈seen,∃t,t<k/\p.1=oo cls next t
theorem Oh {l:List Nat} {i j v:Nat} (hi:i<l.length):(l.set i v).getD j 0=if j=i then v else l.getD j 0:=by
 rw[Wg,WV]
 by_cases h:j=i
 ·subst h;simp[hi]
 ·have:i≠j:=fun e=>h e.symm
  simp[h,this,Wg]
theorem Hj (c:List Nat) (i v:Nat):(NI c).set i (v:Int)=NI (c.set i v):=by
 show(List.map _ c).set i _=List.map _ _
 rw[List.map_set]
theorem p7 {n w:Nat} {cls:List Nat} {next:List (List Int)} (hT:Tb n w next) (hn:n<=1000000000) (hl:cls.length=n) (hc:∀c∈cls,c<1000000000) (hw:w<=256):
  ∀{r:List (List Int)} {k:Nat} {seen:List (List UInt8×Int)} {c:List Nat},next.drop k=r->k<=n->RI cls next n k seen c->aW (AF (NI cls) next r k seen (NI c)) fun p=>∃c',p.2=NI c'/\RI cls next n n p.1 c'
 |[],k,seen,c,hr,hk,h=>by
  have:next.length<=k:=by
   rw[Yj] at hr;exact hr
  rw[hT.len] at this
  have e:k=n:=by omega
  subst e
  exact aj ⟨c,rfl,h⟩
 |row::r,k,seen,c,hr,hk,h=>by
  have hkn:k<n:=by
   rcases WI k n with g|g
   ·exact g
   ·rw[WJ (by rw[hT.len];exact g)] at hr;cases hr
  have hr':next.drop (k+1)=r:=by
   rw[<-XK,hr];rfl
  unfold AF
  refine aq (My hT hl hc hw hkn) fun x hx=> ?_
  subst hx
  have hlen:(k:Int)<((NI c).length:Int):=by rw[V4,h.len];omega
  have key:∀(v:Nat) (seen':List (List UInt8×Int)),(∀t,t<k->cx (oo cls next t) seen'=cx (oo cls next t) seen)->cx (oo cls next k) seen'=some ((v:Nat):Int)->Sn seen'->seen'.length<=k+1->(∀p∈seen',∃t,t<k+1/\p.1=oo cls next t)->RI cls next n (k+1) seen' (c.set k v):=fun v seen' h1 h2 h3 h4 h5=>
   ⟨by rw[Wb,h.len],h3,h4,fun t ht=>by
    rw[Oh (by rw[h.len];exact hkn)]
    by_cases e:t=k
    ·rw[HP e,e];exact h2
    ·rw[TP e,h1 t ii];exact h.RZ t ii,h5⟩
  split
  ·rename_i v hv
   obtain⟨j,hj⟩:=Wj.1 (gS hv)
   have hvj:=h.sn.num j _ hj
   simp only at hvj
   subst hvj
   refine fh ii hlen ?_
   rw[show((k:Int)).toNat=k by omega,Hj]
   exact p7 hT hn hl hc hw hr' hkn (key j seen (fun _ _=>rfl) hv h.sn (by have:=h.le;omega) fun p hp=>by
    obtain⟨t,h1,h2⟩:=h.SU p hp
    exact⟨t,by omega,h2⟩)
  ·rename_i hv
   refine fh ii hlen ?_
   rw[show((k:Int)).toNat=k by omega,Hj]
   refine p7 hT hn hl hc hw hr' hkn (key seen.length _ (fun t ht=> ?_) (qz hv) ⟨?_,fun j p hj=> ?_⟩ (by rw[V7,Ws];have:=h.le;omega) fun p hp=> ?_)
   ·rw[h.RZ t ht];exact vW (h.RZ t ht)
   ·rw[W2,XT]
    refine⟨h.sn.nd,by simp,fun a ha b hb=> ?_⟩
    obtain⟨p,hp,rfl⟩:=WQ.1 ha
    simp only[WM,X4,V1] at hb
    subst hb
    exact rF hv p hp
   ·rcases X8 j seen.length with g|g|g
    ·rw[Wi g] at hj;exact h.sn.num j p hj
    ·subst g
     rw[Wh (V2 _),Xh] at hj
     cases hj
     rfl
    ·rw[Wh ii,show j-seen.length=(j-seen.length-1)+1 by omega] at hj;cases hj
   ·rcases V8.1 hp with hp|hp
    ·obtain⟨t,h1,h2⟩:=h.SU p hp
     exact⟨t,by omega,h2⟩
    ·rw[V1.1 hp]
     exact⟨k,by omega,rfl⟩
structure Pt (n m:Nat) (c:List Nat):Prop where
 len:c.length=n
 le:m<=n
 lt:∀s,s<n->c.getD s 0<m
 SU:∀j,j<m->∃s,s<n/\c.getD s 0=j
theorem Sn.key {seen:List (List UInt8×Int)} (h:Sn seen) {x y:List UInt8} {k:Int} (h1:(x,k)∈seen) (h2:(y,k)∈seen):x=y:=by
 obtain⟨i,hi⟩:=Wj.1 h1
 obtain⟨j,hj⟩:=Wj.1 h2
 have e1:=h.num i _ hi
 have e2:=h.num j _ hj
 simp only at e1 e2
 have:i=j:=by omega
 subst this
 rw[hi] at hj
 cases hj
 rfl
theorem RI.same {cls:List Nat} {next:List (List Int)} {n:Nat} {seen:List (List UInt8×Int)} {c:List Nat} (h:RI cls next n n seen c) {s t:Nat} (hs:s<n) (ht:t<n) (e:c.getD s 0=c.getD t 0):oo cls next s=oo cls next t:=by
 have h1:=gS (h.RZ s hs)
 have h2:=gS (h.RZ t ht)
 rw[<-e] at h2
 exact h.sn.key h1 h2
theorem RI.pt {cls:List Nat} {next:List (List Int)} {n:Nat} {seen:List (List UInt8×Int)} {c:List Nat} (h:RI cls next n n seen c):Pt n seen.length c:=by
 refine⟨h.len,h.le,fun s hs=> ?_,fun j hj=> ?_⟩
 ·obtain⟨i,hi⟩:=Wj.1 (gS (h.RZ s hs))
  have e:=h.sn.num i _ hi
  have:=(VZ.1 hi).1
  simp only at e
  omega
 ·have hp:=VV hj
  obtain⟨t,h1,h2⟩:=h.SU _ (WC hj)
  refine⟨t,h1,?_⟩
  have h3:=gS (h.RZ t h1)
  obtain⟨i,hi⟩:=Wj.1 h3
  have e:=h.sn.num i _ hi
  simp only at e
  have hi':=(VZ.1 hi).1
  have hnd:=h.sn.nd
  have e3:(seen.map (·.1))[i]? =(seen.map (·.1))[j]? :=by
   rw[Wt,Wt,hi,hp]
   simp[h2]
  have:=(List.getElem?_inj (by rw[V4];exact hi') hnd).1 e3
  omega
theorem Mo {m:Nat} {G:Nat->Nat} (surj:∀i,i<m->∃j,j<m/\G j=i) {a b:Nat} (ha:a<m) (hb:b<m) (hG:G a<m) (e:G a=G b):a=b:=by
 have hH:∃H:Nat->Nat,∀i,i<m->H i<m/\G (H i)=i:=⟨fun i=>if h:i<m then(surj i h).choose else 0,fun i h=>by
  simp only[h,dif_pos]
  exact(surj i h).choose_spec⟩
 obtain⟨H,hH⟩:=hH
 rcases Nat.decEq a b with hne|hne
 ·exfalso
  have hd:∃d,d<m/\G d=G a/\d≠H (G a):=by
   rcases Nat.decEq a (H (G a)) with h|h
   ·exact⟨a,ha,rfl,h⟩
   ·exact⟨b,hb,e.symm,fun h'=>hne (h.trans h'.symm)⟩
  obtain⟨d,hd1,hd2,hd3⟩:=hd
  have:=Gf (m:=m+1) (n:=m) (fun i=>if i<m then H i else d) (fun i hi=>by
   show(if i<m then H i else d)<m
   split
   ·rename_i h;exact(hH i h).1
   ·exact hd1) fun i j hi hj hij=>by
   change (if i<m then H i else d)=(if j<m then H j else d) at hij
   split at hij<;>split at hij<;>rename_i h1 h2
   ·rw[<-(hH i h1).2,<-(hH j h2).2,hij]
   ·exfalso
    apply hd3
    rw[<-hij,<-hd2,<-hij,(hH i h1).2]
   ·exfalso
    apply hd3
    rw[hij,<-hd2,hij,(hH j h2).2]
   ·omega
  omega
 ·exact hne
def Fh (n:Nat) (next:List (List Int)) (c:List Nat):Prop:=∀s t,s<n->t<n->c.getD s 0=c.getD t 0->∀(i:Nat) (x y:Int),(next.getD s [])[i]? =some x->(next.getD t [])[i]? =some y->c.getD x.toNat 0=c.getD y.toNat 0
theorem C3 {n w:Nat} {next:List (List Int)} (hT:Tb n w next) (hn0:0<n) (hn:n<1000000000) (hw:w<=256) {A:Nat->Nat->Prop}:
  ∀{f:Nat} {cls:List Nat} {many:Nat},cls.length=n->(∀c∈cls,c<1000000000)->(∀s t,s<n->t<n->cls.getD s 0=cls.getD t 0->A s t)->(many=0\/Pt n many cls)->many<=n->n<f+many->aW (AG next f (NI cls) many) fun r=>∃c m,r=NI c/\Pt n m c/\Fh n next c/\∀s t,s<n->t<n->c.getD s 0=c.getD t 0->A s t
 |0,cls,many,_,_,_,_,h1,h2=>by omega
 |f+1,cls,many,hl,hc,hA,hp,hmn,hf=>by
  unfold AG
  refine au (by rw[hT.len];exact hn) (au (by rw[hT.len];omega) ?_)
  have h0:RI cls next n 0 [] (List.replicate n 0):=⟨by simp,⟨by simp,fun j p h=>by cases h⟩,V2 _,fun t ht=>by omega,fun p hp=>by cases hp⟩
  have e0:List.replicate next.length (0:Int)=NI (List.replicate n 0):=by rw[hT.len];simp[NI]
  rw[e0]
  refine aq (p7 hT ii hl hc hw (r:=next) (k:=0) rfl (Wd _) h0) fun p hp'=> ?_
  obtain⟨seen,nx⟩:=p
  obtain⟨c,rfl,hR⟩:=hp'
  simp only at hR⊢
  have hpt:=hR.pt
  have hin:∀s t,s<n->t<n->c.getD s 0=c.getD t 0->cls.getD s 0=cls.getD t 0:=fun s t hs ht e=>(CA hT hs ht (hR.same hs ht e)).1
  have hA':∀s t,s<n->t<n->c.getD s 0=c.getD t 0->A s t:=fun s t hs ht e=>hA s t hs ht (hin s t hs ht e)
  have hle:many<=seen.length:=by
   rcases hp with rfl|hp
   ·exact Wd _
   ·have hr:∃f:Nat->Nat,∀i,i<many->f i<n/\cls.getD (f i) 0=i:=⟨fun i=>if h:i<many then(hp.SU i h).choose else 0,fun i h=>by
     simp only[h,dif_pos]
     exact(hp.SU i h).choose_spec⟩
    obtain⟨r,hr⟩:=hr
    exact Gf (fun i=>c.getD (r i) 0) (fun i hi=>hpt.lt _ (hr i hi).1) fun i j hi hj e=>by
     have:=hin _ _ (hr i hi).1 (hr j hj).1 e
     rw[(hr i hi).2,(hr j hj).2] at this
     exact this
  have hpos:0<seen.length:=Nat.lt_of_le_of_lt (Wd _) (hpt.lt 0 hn0)
  refine ar (fun hm=>aj ⟨c,seen.length,rfl,hpt,?_,hA'⟩) fun hm=> ?_
  ·have hm':seen.length=many:=by omega
   have hp':Pt n many cls:=by
    rcases hp with h|h
    ·omega
    ·exact h
   rw[<-hm'] at hp'
   have hr:∃f:Nat->Nat,∀i,i<seen.length->f i<n/\c.getD (f i) 0=i:=⟨fun i=>if h:i<seen.length then(hpt.SU i h).choose else 0,fun i h=>by
    simp only[h,dif_pos]
    exact(hpt.SU i h).choose_spec⟩
   obtain⟨r,hr⟩:=hr
   have hG:∀s,s<n->cls.getD s 0=cls.getD (r (c.getD s 0)) 0:=fun s hs=>hin _ _ hs (hr _ (hpt.lt s hs)).1 (hr _ (hpt.lt s hs)).2.symm
   have hback:∀s t,s<n->t<n->cls.getD s 0=cls.getD t 0->c.getD s 0=c.getD t 0:=fun s t hs ht e=>by
    refine Mo (m:=seen.length) (G:=fun j=>cls.getD (r j) 0) (fun i hi=> ?_) (hpt.lt s hs) (hpt.lt t ht) ?_ ?_
    ·obtain⟨u,hu,hu2⟩:=hp'.SU i hi
     exact⟨c.getD u 0,hpt.lt u hu,by show cls.getD (r (c.getD u 0)) 0=i;rw[<-hG u hu,hu2]⟩
    ·show cls.getD (r (c.getD s 0)) 0<_
     rw[<-hG s hs]
     exact hp'.lt s hs
    ·show cls.getD (r (c.getD s 0)) 0=cls.getD (r (c.getD t 0)) 0
     rw[<-hG s hs,<-hG t ht,e]
   intro s t hs ht e i x y hx hy
   have hb:∀s,s<n->∀(i:Nat) (x:Int),(next.getD s [])[i]? =some x->x.toNat<n:=fun s hs i x hx=>by
    have h3:s<next.length:=by rw[hT.len];exact hs
    rw[cy (VV h3)] at hx
    have:=hT.eO _ (WC h3) x (V6 hx)
    omega
   exact hback _ _ (hb s hs i x hx) (hb t ht i y hy) ((CA hT hs ht (hR.same hs ht e)).2 i x y hx hy)
  ·exact C3 hT hn0 hn hw hpt.len (fun x hx=>by
    obtain⟨i,hi⟩:=Wj.1 hx
    have h1:=(VZ.1 hi).1
    have:=hpt.lt i (by rw[<-hpt.len];exact h1)
    rw[cy hi] at this
    have:=hR.le
    omega) hA' (.inr hpt) hR.le ii
theorem dG {a:List Bool} {j:Nat} (hj:j<a.length) (i:Nat):(a.set j true)[i]? =some true↔a[i]? =some true\/i=j:=by
 rw[WV]
 by_cases h:j=i
 ·subst h;simp[hj]
 ·have:i≠j:=fun e=>h e.symm
  simp[h,this]
theorem Er:∀{es:List Sv.Edge} {a:List Bool},a.length=257->(∀e∈es,EB e)->aW (GN es a) fun a'=>a'.length=257/\∀i:Nat,a'[i]? =some true↔a[i]? =some true\/∃e∈es,(i:Int)=e.lo\/(i:Int)=e.hi+1
 |[],a,ha,_=>aj ⟨ha,fun i=>⟨.inl,fun h=>by
  rcases h with h|⟨e,he,_⟩
  ·exact h
  ·cases he⟩⟩
 |e::r,a,ha,h=>by
  obtain⟨h1,h2,h3,h4⟩:=h e (V0 ..)
  unfold GN
  refine hM h1 ii ha (au ⟨h3,h4⟩ (hM ii ii (by rw[Wb];exact ha) ?_))
  refine(Er (by rw[Wb,Wb];exact ha) fun e' he'=>h e' (VX _ he')).mono fun a' ⟨g1,g2⟩=>⟨g1,fun i=> ?_⟩
  rw[g2 i,dG (by rw[Wb,ha];omega),dG (by rw[ha];omega)]
  constructor
  ·rintro(((h|h)|h)|⟨e',he',h⟩)
   ·exact .inl h
   ·exact .inr ⟨e,V0 ..,.inl ii⟩
   ·exact .inr ⟨e,V0 ..,.inr ii⟩
   ·exact .inr ⟨e',VX _ he',h⟩
  ·rintro(g|⟨e',he',g⟩)
   ·exact .inl (.inl (.inl g))
   ·rcases V9.1 he' with he'|he'
    ·rw[he'] at g
     rcases g with g|g
     ·exact .inl (.inl (.inr ii))
     ·exact .inl (.inr ii)
    ·exact .inr ⟨e',he',g⟩
theorem Ep:∀{l:List bj} {n:Nat} {a:List Bool},a.length=257->AB n l->aW (GM l a) fun a'=>a'.length=257/\∀i:Nat,a'[i]? =some true↔a[i]? =some true\/∃s∈l,∃e∈s.aI,(i:Int)=e.lo\/(i:Int)=e.hi+1
 |[],n,a,ha,_=>aj ⟨ha,fun i=>⟨.inl,fun h=>by
  rcases h with h|⟨e,he,_⟩
  ·exact h
  ·cases he⟩⟩
 |s::r,n,a,ha,h=>by
  unfold GM
  have h1:=h.row s (V0 ..)
  refine au ii (aq (Er ha (h.eb s (V0 ..))) fun a1 ⟨g1,g2⟩=> ?_)
  refine(Ep g1 (n:=n) ⟨Wq (XI _) h.len,fun s hs=>h.row s (VX _ hs),fun s hs=>h.eb s (VX _ hs)⟩).mono fun a' ⟨g3,g4⟩=>⟨g3,fun i=> ?_⟩
  rw[g4 i,g2 i]
  constructor
  ·rintro((h|⟨e,he,h⟩)|⟨t,ht,h⟩)
   ·exact .inl h
   ·exact .inr ⟨s,V0 ..,e,he,h⟩
   ·exact .inr ⟨t,VX _ ht,h⟩
  ·rintro(g|⟨t,ht,g⟩)
   ·exact .inl (.inl g)
   ·rcases V9.1 ht with ht|ht
    ·rw[ht] at g
     exact .inl (.inr g)
    ·exact .inr ⟨t,ht,g⟩
theorem wg {a:List Bool} (ha:a.length=257):∀{n b:Nat} {out:List Int},n+b=256->out.length<=b->aW (Es a n b out) fun o=>∃ext,o=out++ext/\ext.length<=n/\ext.Pairwise (· <·)/\(∀x∈ext,(b:Int)<=x/\x<256)/\∀i:Nat,b<=i->i<256->(a[i]? =some true↔(i:Int)∈ext)
 |0,b,out,h,_=>aj ⟨[],by simp,by simp,List.Pairwise.nil,fun x hx=>(by cases hx),fun i h1 h2=>by omega⟩
 |n+1,b,out,h,ho=>by
  unfold Es
  refine An ii ii ha fun x hx=> ?_
  rw[show((b:Int)).toNat=b by omega] at hx
  have e1:((b:Int)+1)=((b+1:Nat):Int):=by omega
  rw[e1]
  refine ar (fun hx1=> ?_) fun hx1=> ?_
  ·refine bw ii ((wg ha (n:=n) (b:=b+1) ii (by simp;omega)).mono fun o ⟨ext,g1,g2,g3,g4,g5⟩=> ?_)
   refine⟨(b:Int)::ext,by rw[g1];simp,by simp;omega,WO.2 ⟨fun y hy=>by have:=g4 y hy;omega,g3⟩,fun y hy=> ?_,fun i h1 h2=> ?_⟩
   ·rcases V9.1 hy with rfl|hy
    ·omega
    ·have:=g4 y hy;omega
   ·by_cases e:i=b
    ·subst e
     rw[hx,hx1]
     simp
    ·rw[g5 i ii h2]
     constructor
     ·exact VX _
     ·intro h
      rcases V9.1 h with h|h
      ·omega
      ·exact h
  ·refine(wg ha (n:=n) (b:=b+1) ii ii).mono fun o ⟨ext,g1,g2,g3,g4,g5⟩=>⟨ext,g1,by omega,g3,fun y hy=>by have:=g4 y hy;omega,fun i h1 h2=> ?_⟩
   by_cases e:i=b
   ·subst e
    rw[hx]
    constructor
    ·intro h;cases h;exact absurd rfl hx1
    ·intro h;have:=g4 _ h;omega
   ·exact g5 i ii h2
structure qQ (l:List bj) (bf:List Int):Prop where
 pos:bf[0]? =some 0
 len:bf.length<=256
 eO:∀c∈bf,0<=c/\c<256
 inc:bf.Pairwise (· <·)
 lo:∀s∈l,∀e∈s.aI,e.lo∈bf
 hi:∀s∈l,∀e∈s.aI,e.hi<255->e.hi+1∈bf
theorem Sg {l:List bj} {n:Nat} (h:AB n l) (hn:n<=1000000000):aW (OI l) (qQ l):=by
 unfold OI
 have h1:=h.len
 refine au ii (aq (Ep (a:=at0) (by unfold at0;rw[V5,Wc]) h) fun a ⟨g1,g2⟩=> ?_)
 refine(wg g1 (n:=256) (b:=0) (out:=[]) rfl (V2 _)).mono fun o ⟨ext,e1,e2,e3,e4,e5⟩=> ?_
 rw[Xg] at e1
 subst e1
 have hz:(0:Int)∈o:=(e5 0 (V2 _) ii).1 ((g2 0).2 (.inl rfl))
 refine⟨?_,e2,fun c hc=>by have:=e4 c hc;omega,e3,fun s hs e he=> ?_,fun s hs e he hlt=> ?_⟩
 ·cases o with
  |nil=>cases hz
  |cons x r=>
   rcases V9.1 hz with hz|hz
   ·rw[<-hz];rfl
   ·have:=(WO.1 e3).1 0 hz
    have:=e4 x (V0 ..)
    omega
 ·obtain⟨q1,q2,q3,q4⟩:=h.eb s hs e he
  have:=(e5 e.lo.toNat ii ii).1 ((g2 _).2 (.inr ⟨s,hs,e,he,.inl ii⟩))
  rwa [show((e.lo.toNat:Nat):Int)=e.lo by omega] at this
 ·obtain⟨q1,q2,q3,q4⟩:=h.eb s hs e he
  have:=(e5 (e.hi+1).toNat ii ii).1 ((g2 _).2 (.inr ⟨s,hs,e,he,.inr ii⟩))
  rwa [show(((e.hi+1).toNat:Nat):Int)=e.hi+1 by omega] at this
def gA (c:Int) (es:List Sv.Edge) (t:Int):Int:=es.foldl (fun t e=>if e.lo<=c/\c<=e.hi then e.to else t) t
theorem p6 {c:Int} {i:Nat}:∀{es:List Sv.Edge} {row:List Int} {t:Int},(∀e∈es,EB e)->row[i]? =some t->aW (AE c i es row) fun o=>o=row.set i (gA c es t)
 |[],row,t,_,h=>aj (by
  obtain⟨h1,h2⟩:=VZ.1 h
  rw[show gA c [] t=t from rfl,<-h2,List.set_getElem_self])
 |e::r,row,t,he,h=>by
  have hi:=(VZ.1 h).1
  obtain⟨h1,h2,h3,h4⟩:=he e (V0 ..)
  have hr:∀e'∈r,EB e':=fun e' h'=>he e' (VX _ h')
  unfold AE
  refine au ⟨h1,h2⟩ (ar (fun g1=>au ⟨h3,h4⟩ (ar (fun g2=> ?_) fun g2=> ?_)) fun g1=> ?_)
  ·refine fh ii ii ?_
   rw[show((i:Int)).toNat=i by omega]
   refine(p6 (es:=r) (t:=e.to) hr (by rw[WV];simp[hi])).mono fun o ho=> ?_
   rw[ho,Yc]
   unfold gA
   rw[WX,HP ⟨g1,g2⟩]
  ·refine(p6 (es:=r) (t:=t) hr h).mono fun o ho=> ?_
   rw[ho]
   unfold gA
   rw[WX,TP (fun h=>g2 h.2)]
  ·refine(p6 (es:=r) (t:=t) hr h).mono fun o ho=> ?_
   rw[ho]
   unfold gA
   rw[WX,TP (fun h=>g1 h.1)]
theorem CX {es:List Sv.Edge} {sink:Int} (he:∀e∈es,EB e) (hl:es.length<=256):∀{r:List Int} {i:Nat} {row:List Int},i+r.length=row.length->aW (Ga es sink r i row) fun o=>o=row.take i++r.map fun c=>gA c es sink
 |[],i,row,h=>aj (by simp at h;rw[X4,Wy,h,List.take_length])
 |c::r,i,row,h=>by
  rw[V5] at h
  have hi:i<row.length:=by omega
  unfold Ga
  refine fh ii ii (au ii ?_)
  rw[show((i:Int)).toNat=i by omega]
  refine aq (p6 (t:=sink) he (by rw[WV];simp[hi])) fun row1 h1=> ?_
  rw[Yc] at h1
  subst h1
  have e1:((i:Int)+1)=((i+1:Nat):Int):=by omega
  rw[e1]
  refine(CX he hl (r:=r) (i:=i+1) (row:=row.set i (gA c es sink)) (by rw[Wb];omega)).mono fun o ho=> ?_
  rw[ho,WM,W6,WV]
  simp[hi,Xx]
def lL (bf:List Int) (l:List bj) (sink:Int):List (List Int):=l.map fun s=>bf.map fun c=>gA c s.aI sink
theorem zC {bf:List Int} (hc:bf.length<=256) {n:Nat} (hn:n<1000000000) {sink:Int}:∀{l:List bj} {next:List (List Int)} {acc:List Bool},AB n l->next.length+l.length<=n->acc.length=next.length->aW (wm bf sink l next acc) fun p=>p=(next++lL bf l sink,acc++l.map (·.acc))
 |[],next,acc,_,_,_=>aj (by simp[lL])
 |s::r,next,acc,h,h1,h2=>by
  rw[V5] at h1
  unfold wm
  refine au ii (au ii (aq (CX (h.eb s (V0 ..)) (h.row s (V0 ..)) (r:=bf) (i:=0) (row:=List.replicate bf.length 0) (by simp)) fun row hrow=> ?_))
  subst hrow
  refine bw ii (bw ii ?_)
  refine(zC hc hn (l:=r) ⟨Wq (XI _) h.len,fun s hs=>h.row s (VX _ hs),fun s hs=>h.eb s (VX _ hs)⟩ (by simp;omega) (by simp[h2])).mono fun p hp=> ?_
  rw[hp]
  simp[lL]
theorem yX {sink:Int}:∀{n:Nat} {i:Nat} {l:List Int},i+n=l.length->aW (vF sink n i l) fun o=>o=l.take i++List.replicate n sink
 |0,i,l,h=>aj (by simp at h;rw[h];simp)
 |n+1,i,l,h=>by
  have hi:i<l.length:=by omega
  unfold vF
  refine fh ii ii ?_
  rw[show((i:Int)).toNat=i by omega]
  have e1:((i:Int)+1)=((i+1:Nat):Int):=by omega
  rw[e1]
  refine(yX (n:=n) (i:=i+1) (l:=l.set i sink) (by rw[Wb];omega)).mono fun o ho=> ?_
  rw[ho,W6,WV]
  simp[hi,Xx,XN]
structure tl (l:List bj) (p:List Int×List (List Int)×List Bool):Prop where
 bf:qQ l p.1
 next:p.2.1=lL p.1 l l.length++[List.replicate p.1.length (l.length:Int)]
 acc:p.2.2=l.map (·.acc)++[false]
theorem Ey {l:List bj} {n:Nat} (h:AB n l) (hn:n<900000000):aW (I0 l) (tl l):=by
 have h1:=h.len
 unfold I0
 refine aq (Sg h ii) fun bf hc=> ?_
 have h2:=hc.len
 refine au ii (aq (zC h2 (n:=n) ii (l:=l) (next:=[]) (acc:=[]) h (by simp;omega) rfl) fun p hp=> ?_)
 subst hp
 refine au ii (aq (yX (n:=bf.length) (i:=0) (l:=List.replicate bf.length 0) (by simp)) fun last hlast=> ?_)
 subst hlast
 refine bw (by simp[lL];omega) (bw (by simp;omega) (aj ⟨hc,by simp,by simp⟩))
theorem nW {c:Int} {n:Nat}:∀{es:List Sv.Edge} {t:Int},(∀e∈es,0<=e.to/\e.to<n)->0<=t->t<=n->0<=gA c es t/\gA c es t<=n
 |[],t,_,h1,h2=>⟨h1,h2⟩
 |e::r,t,h,h1,h2=>by
  unfold gA
  rw[WX]
  have:=h e (V0 ..)
  refine nW (es:=r) (fun e' h'=>h e' (VX _ h')) ?_ ?_<;>split<;>omega
theorem tl.tb {l:List bj} {p:List Int×List (List Int)×List Bool} (h:tl l p) (hw:WF l):Tb (l.length+1) p.1.length p.2.1:=by
 rw[h.next]
 refine⟨by simp[lL],fun r hr=> ?_,fun r hr t ht=> ?_⟩
 ·rcases V8.1 hr with hr|hr
  ·obtain⟨s,hs,rfl⟩:=WQ.1 hr
   simp
  ·rw[V1.1 hr];simp
 ·rcases V8.1 hr with hr|hr
  ·obtain⟨s,hs,rfl⟩:=WQ.1 hr
   obtain⟨c,hc,rfl⟩:=WQ.1 ht
   have:=nW (c:=c) (n:=l.length) (es:=s.aI) (t:=l.length) (fun e he=>((hw s hs).one e he).2) ii (Wv _)
   omega
  ·rw[V1.1 hr] at ht
   have:=(XC.1 ht).2
   omega
theorem qG {n:Nat}:∀{acc:List Bool} {s:Nat} {c:List Nat},c.length=n->s+acc.length=n->aW (EJ acc s (NI c)) fun o=>o=NI (c.take s++List.zipWith (fun(a:Bool) (x:Nat)=>if a then 1 else x) acc (c.drop s))
 |[],s,c,h,h1=>aj (by
  have:c.take s=c:=Xa (by simp at h1;omega)
  rw[List.zipWith_nil_left,Wy,this])
 |a::r,s,c,h,h1=>by
  rw[V5] at h1
  have hs:s<c.length:=by omega
  have e1:((s:Int)+1)=((s+1:Nat):Int):=by omega
  unfold EJ
  refine ar (fun ha=> ?_) fun ha=> ?_
  ·refine fh ii (by rw[V4];omega) ?_
   have e2:(NI c).set s 1=NI (c.set s 1):=Hj c s 1
   rw[show((s:Int)).toNat=s by omega,e2,e1]
   refine(qG (n:=n) (acc:=r) (s:=s+1) (by rw[Wb];exact h) ii).mono fun o ho=> ?_
   rw[ho,Wo hs,List.zipWith_cons_cons,HP ha]
   congr 1
   rw[W6,Xr hs,Option.toList_some,WG,List.singleton_append,Xx (V2 _),List.drop_set_of_lt (WW _)]
  ·rw[e1]
   refine(qG (n:=n) (acc:=r) (s:=s+1) h ii).mono fun o ho=> ?_
   rw[ho,Wo hs,List.zipWith_cons_cons,TP ha]
   congr 1
   rw[W6,VV hs,Option.toList_some,WG,List.singleton_append]
theorem C2 {n w:Nat} {next:List (List Int)} {acc:List Bool} (hT:Tb n w next) (hn0:0<n) (hn:n<1000000000) (hw:w<=256) (ha:acc.length=n):
  aW (Ke next acc) fun r=>∃c m,r=NI c/\Pt n m c/\Fh n next c/\∀s t,s<n->t<n->c.getD s 0=c.getD t 0->acc.getD s false=acc.getD t false:=by
 unfold Ke
 have e0:List.replicate next.length (0:Int)=NI (List.replicate n 0):=by rw[hT.len];simp[NI]
 refine au (by rw[hT.len];exact hn) (au ii ?_)
 rw[e0]
 refine aq (qG (n:=n) (acc:=acc) (s:=0) (c:=List.replicate n 0) (by simp) ii) fun o ho=> ?_
 subst ho
 rw[List.take_zero,Xg,Xn,hT.len]
 have hg:∀s,s<n->(List.zipWith (fun(a:Bool) (x:Nat)=>if a then 1 else x) acc (List.replicate n 0)).getD s 0=if acc.getD s false=true then 1 else 0:=fun s hs=>by
  rw[Wg,Wg,List.getElem?_zipWith,W5,HP hs,VV ii]
  rfl
 refine C3 hT hn0 hn hw (A:=fun s t=>acc.getD s false=acc.getD t false) (f:=n+2) (many:=0) (by simp[ha]) (fun x hx=> ?_) (fun s t hs ht e=> ?_) (.inl rfl) (Wd _) ii
 ·obtain⟨i,hi⟩:=Wj.1 hx
  have h1:=(VZ.1 hi).1
  rw[List.length_zipWith,Wc,ha,Nat.min_self] at h1
  have:=hg i h1
  rw[cy hi] at this
  rw[this]
  split<;>omega
 ·rw[hg s hs,hg t ht] at e
  split at e<;>split at e<;>rename_i h1 h2
  ·rw[h1,h2]
  ·cases e
  ·cases e
  ·rw[Bool.not_eq_true] at h1 h2;rw[h1,h2]
def TG (next:List (List Int)) (acc:List Bool):Nat->Nat->Prop
 |0,s=>acc.getD s false=true
 |k+1,s=>∃to∈next.getD s [],TG next acc k to.toNat
theorem Tb.at_ {n w:Nat} {next:List (List Int)} (hT:Tb n w next) {s:Nat} (hs:s<n):next.getD s []∈next/\(next.getD s []).length=w:=by
 have h3:s<next.length:=by rw[hT.len];exact hs
 rw[cy (VV h3)]
 exact⟨WC h3,hT.row _ (WC h3)⟩
theorem tW {n w:Nat} {next:List (List Int)} {acc:List Bool} {c:List Nat} (hT:Tb n w next) (hS:Fh n next c) (hA:∀s t,s<n->t<n->c.getD s 0=c.getD t 0->acc.getD s false=acc.getD t false):∀(j s t:Nat),s<n->t<n->c.getD s 0=c.getD t 0->TG next acc j s->TG next acc j t
 |0,s,t,hs,ht,e,h=>by
  show acc.getD t false=true
  rw[<-hA s t hs ht e]
  exact h
 |j+1,s,t,hs,ht,e,⟨to,h1,h2⟩=>by
  obtain⟨i,hi⟩:=Wj.1 h1
  have hil:=(VZ.1 hi).1
  rw[(hT.at_ hs).2,<-(hT.at_ ht).2] at hil
  have hi':=VV hil
  have hm:=WC hil
  have r1:=hT.eO _ (hT.at_ hs).1 to h1
  have r2:=hT.eO _ (hT.at_ ht).1 _ hm
  exact⟨_,hm,tW hT hS hA j _ _ ii ii (hS s t hs ht e i _ _ hi hi') h2⟩
theorem mG {n:Nat} {c:List Nat} {out:List Bool} (hc:c.length=n) (hlt:∀s,s<n->c.getD s 0<n) (ho:out.length=n):∀{row:List Int} {ok:Bool},(∀t∈row,0<=t/\t<n)->aW (jC (NI c) out row ok) fun b=>b=true↔ok=true\/∃to∈row,out.getD (c.getD to.toNat 0) false=true
 |[],ok,_=>aj ⟨.inl,fun h=>by
  rcases h with h|⟨t,ht,_⟩
  ·exact h
  ·cases ht⟩
 |to::r,ok,h=>by
  obtain⟨h0,h1⟩:=h to (V0 ..)
  have ht:to.toNat<c.length:=by omega
  have hr:∀t∈r,0<=t/\t<n:=fun t ht=>h t (VX _ ht)
  unfold jC
  refine ar (fun hok=> ?_) fun hok=> ?_
  ·exact(mG hc hlt ho (row:=r) (ok:=true) hr).mono fun b hb=>⟨fun _=> .inl hok,fun _=>hb.2 (.inl rfl)⟩
  ·refine aX h0 (by rw[V4];omega) fun x hx _=> ?_
   rw[Wt,VV ht] at hx
   simp only[Xv,WN] at hx
   have h2:=hlt to.toNat ii
   rw[cy (VV ht)] at h2
   refine aX ii ii fun y hy _=> ?_
   refine(mG hc hlt ho (row:=r) (ok:=y) hr).mono fun b hb=>hb.trans ?_
   have e:out.getD (c.getD to.toNat 0) false=y:=by
    rw[cy (VV ht)]
    rw[<-hx,show((c[to.toNat]:Nat):Int).toNat=c[to.toNat] by omega] at hy
    exact cy hy
   constructor
   ·rintro(g|⟨t,g1,g2⟩)
    ·exact .inr ⟨to,V0 ..,e.trans g⟩
    ·exact .inr ⟨t,VX _ g1,g2⟩
   ·rintro(g|⟨t,g1,g2⟩)
    ·exact absurd g hok
    ·rcases V9.1 g1 with rfl|g1
     ·exact .inl (e.symm.trans g2)
     ·exact .inr ⟨t,g1,g2⟩
def okS (next:List (List Int)) (acc:List Bool) (c:List Nat) (out:List Bool) (s:Nat):Prop:=acc.getD s false=true\/∃to∈next.getD s [],out.getD (c.getD to.toNat 0) false=true
structure LL (n:Nat) (next:List (List Int)) (acc:List Bool) (c:List Nat) (out:List Bool):Prop where
 len:out.length=n
 snd:∀x,out.getD x false=true->∃s k,s<n/\c.getD s 0=x/\TG next acc k s
theorem KW {l:List Bool} {i j:Nat} {v:Bool} (hi:i<l.length):(l.set i v).getD j false=if j=i then v else l.getD j false:=by
 rw[Wg,WV]
 by_cases h:j=i
 ·subst h;simp[hi]
 ·have:i≠j:=fun e=>h e.symm
  simp[h,this,Wg]
theorem rq {n w:Nat} {next:List (List Int)} {acc:List Bool} {c:List Nat} (hT:Tb n w next) (hw:w<=256) (ha:acc.length=n) (hc:c.length=n) (hlt:∀s,s<n->c.getD s 0<n) (hS:Fh n next c) (hA:∀s t,s<n->t<n->c.getD s 0=c.getD t 0->acc.getD s false=acc.getD t false):
  ∀{r:List (List Int)} {k:Nat} {out:List Bool} {ag:Bool},next.drop k=r->k<=n->LL n next acc c out->aW (oL acc (NI c) r k out ag) fun p=>LL n next acc c p.1/\out.count true<=p.1.count true/\(p.2=true->ag=true\/out.count true<p.1.count true)/\(p.2=false->ag=false/\p.1=out/\∀s,k<=s->s<n->okS next acc c out s->out.getD (c.getD s 0) false=true)
 |[],k,out,ag,hr,hk,h=>by
  have:next.length<=k:=by rw[Yj] at hr;exact hr
  rw[hT.len] at this
  exact aj ⟨h,V2 _,.inl,fun e=>⟨e,rfl,fun s h1 h2=>by omega⟩⟩
 |row::r,k,out,ag,hr,hk,h=>by
  have hkn:k<n:=by
   rcases WI k n with g|g
   ·exact g
   ·rw[WJ (by rw[hT.len];exact g)] at hr;cases hr
  have hr':next.drop (k+1)=r:=by rw[<-XK,hr];rfl
  have hrow:next[k]? =some row:=by
   rw[Wo (by rw[hT.len];exact hkn)] at hr
   injection hr with h1 _
   rw[<-h1]
   exact VV _
  have hmem:=V6 hrow
  have e1:((k:Int)+1)=((k+1:Nat):Int):=by omega
  unfold oL
  refine aX ii ii fun a hacc _=>au (by rw[hT.row row hmem];omega) ?_
  rw[show((k:Int)).toNat=k by omega] at hacc
  refine aq (mG hc hlt h.len (hT.eO row hmem)) fun ok hok=> ?_
  have hok':ok=true↔okS next acc c out k:=by
   rw[hok]
   unfold okS
   rw[cy hacc,cy hrow]
  have hck:=hlt k hkn
  have hkc:k<c.length:=by omega
  have next':∀ag',(ag'=ag)->(ok=true->out.getD (c.getD k 0) false=true)->aW (oL acc (NI c) r ((k+1:Nat):Int) out ag') fun p=>LL n next acc c p.1/\out.count true<=p.1.count true/\(p.2=true->ag=true\/out.count true<p.1.count true)/\(p.2=false->ag=false/\p.1=out/\∀s,k<=s->s<n->okS next acc c out s->out.getD (c.getD s 0) false=true):=fun ag' e hcl=>by
   subst e
   refine(rq hT hw ha hc hlt hS hA hr' hkn h).mono fun p ⟨g1,g2,g3,g4⟩=>⟨g1,g2,g3,fun e=> ?_⟩
   obtain⟨q1,q2,q3⟩:=g4 e
   refine⟨q1,q2,fun s h1 h2 h3=> ?_⟩
   by_cases e2:s=k
   ·subst e2;exact hcl (hok'.2 h3)
   ·exact q3 s ii h2 h3
  refine ar (fun hk1=> ?_) fun hk1=> ?_
  ·have hx:(NI c)[k]? =some ((c.getD k 0:Nat):Int):=by rw[Wt,VV hkc,cy (VV hkc)];rfl
   refine aX ii (by rw[V4];omega) fun x hx1 _=> ?_
   rw[show((k:Int)).toNat=k by omega,hx] at hx1
   cases hx1
   refine aX ii (by rw[h.len];omega) fun y hy _=> ?_
   rw[show(((c.getD k 0:Nat):Int)).toNat=c.getD k 0 by omega] at hy
   refine ar (fun hy1=> ?_) fun hy1=> ?_
   ·rw[e1]
    exact next' ag rfl fun _=>by rw[cy hy];exact hy1
   ·refine aX ii (by rw[V4];omega) fun x hx1 _=> ?_
    rw[show((k:Int)).toNat=k by omega,hx] at hx1
    cases hx1
    refine fh ii (by rw[h.len];omega) ?_
    rw[show(((c.getD k 0:Nat):Int)).toNat=c.getD k 0 by omega,e1]
    have hlen:c.getD k 0<out.length:=by rw[h.len];exact hck
    have hcnt:(out.set (c.getD k 0) true).count true=out.count true+1:=by
     rw[List.count_set hlen]
     have:out[c.getD k 0]=false:=by
      rw[VV hlen] at hy
      cases hy
      simpa using hy1
     rw[this]
     simp
    have hs:LL n next acc c (out.set (c.getD k 0) true):=⟨by rw[Wb];exact h.len,fun x hx=>by
     rw[KW hlen] at hx
     split at hx
     ·rename_i e
      subst e
      rcases hok'.1 hk1 with g|⟨to,g1,g2⟩
      ·exact⟨k,0,hkn,rfl,g⟩
      ·
       obtain⟨s,j,q1,q2,q3⟩:=h.snd _ g2
       have hto:=hT.eO _ (hT.at_ hkn).1 to g1
       exact⟨k,j+1,hkn,rfl,to,g1,tW hT hS hA j s _ q1 ii q2 q3⟩
     ·exact h.snd x hx⟩
    refine(rq hT hw ha hc hlt hS hA hr' hkn hs (ag:=true)).mono fun p ⟨g1,g2,g3,g4⟩=>⟨g1,by omega,fun _=> .inr ii,fun e=> ?_⟩
    exact absurd (g4 e).1 (by decide)
  ·rw[e1]
   exact next' ag rfl fun h=>absurd h hk1
structure Live (n:Nat) (next:List (List Int)) (acc:List Bool) (c:List Nat) (out:List Bool):Prop extends LL n next acc c out where
 cl:∀s,s<n->okS next acc c out s->out.getD (c.getD s 0) false=true
theorem yU {n w:Nat} {next:List (List Int)} {acc:List Bool} {c:List Nat} (hT:Tb n w next) (hn:n<1000000000) (hw:w<=256) (ha:acc.length=n) (hc:c.length=n) (hlt:∀s,s<n->c.getD s 0<n) (hS:Fh n next c) (hA:∀s t,s<n->t<n->c.getD s 0=c.getD t 0->acc.getD s false=acc.getD t false):
  ∀{f:Nat} {out:List Bool} {ag:Bool},LL n next acc c out->(ag=true->n+2<=f+out.count true)->1<=f->(ag=false->Live n next acc c out)->aW (vx acc (NI c) next f out ag) (Live n next acc c)
 |0,_,_,_,_,h,_=>by omega
 |f+1,out,ag,h,h1,_,h2=>by
  unfold vx
  refine ar (fun hag=>au (by rw[hT.len];omega) ?_) fun hag=>aj (h2 (by simpa using hag))
  refine aq (rq hT hw ha hc hlt hS hA (r:=next) (k:=0) rfl (Wd _) h (ag:=false)) fun p ⟨g1,g2,g3,g4⟩=> ?_
  have h3:=h1 hag
  have hcn:out.count true<=n:=by rw[<-h.len];exact List.count_le_length
  refine yU hT hn hw ha hc hlt hS hA g1 (fun e=> ?_) ii fun e=> ?_
  ·rcases g3 e with g|g
   ·cases g
   ·omega
  ·obtain⟨_,q2,q3⟩:=g4 e
   rw[q2]
   exact⟨h,fun s hs=>q3 s (Wd _) hs⟩
theorem yT {n w:Nat} {next:List (List Int)} {acc:List Bool} {c:List Nat} (hT:Tb n w next) (hn:n<1000000000) (hw:w<=256) (ha:acc.length=n) (hc:c.length=n) (hlt:∀s,s<n->c.getD s 0<n) (hS:Fh n next c) (hA:∀s t,s<n->t<n->c.getD s 0=c.getD t 0->acc.getD s false=acc.getD t false):
  aW (IB next acc (NI c)) (Live n next acc c):=by
 unfold IB
 refine au (by rw[hT.len];exact hn) ?_
 rw[hT.len]
 exact yU hT hn hw ha hc hlt hS hA ⟨by simp,fun x hx=>by
  rw[Wg,W5] at hx
  split at hx<;>cases hx⟩ (fun _=>by omega) ii fun e=>by cases e
theorem Live.all {n w:Nat} {next:List (List Int)} {acc:List Bool} {c:List Nat} {out:List Bool} (h:Live n next acc c out) (hT:Tb n w next):∀(j s:Nat),s<n->TG next acc j s->out.getD (c.getD s 0) false=true
 |0,s,hs,h1=>h.cl s hs (.inl h1)
 |j+1,s,hs,⟨to,h1,h2⟩=>by
  have:=hT.eO _ (hT.at_ hs).1 to h1
  exact h.cl s hs (.inr ⟨to,h1,h.all hT j _ ii h2⟩)
def bg (c:List Nat) (s:Int):Nat:=c.getD s.toNat 0
def mF (c:List Nat) (o:List Int):List (Int×Int):=o.zipIdx.map fun p=>((bg c p.1:Int),(p.2:Int))
theorem AZ (c:List Nat) (o:List Int) (s:Int):mF c (o++[s])=mF c o++[((bg c s:Int),(o.length:Int))]:=by
 unfold mF
 rw[List.zipIdx_append,W2]
 simp
theorem RA {c:List Nat} {o:List Int} {x v:Int} (h:cx x (mF c o)=some v):∃(j:Nat) (s:Int),v=(j:Int)/\o[j]? =some s/\(bg c s:Int)=x:=by
 obtain⟨j,hj⟩:=Wj.1 (gS h)
 unfold mF at hj
 rw[Wt,List.getElem?_zipIdx] at hj
 cases ho:o[j]? with
 |none=>rw[ho] at hj;cases hj
 |some s=>
  rw[ho] at hj
  simp only[Xv,WN,Prod.mk.injEq,WU] at hj
  exact⟨j,s,hj.2.symm,ho,hj.1⟩
theorem RB {c:List Nat} {o:List Int} {x:Int} (h:cx x (mF c o)=none):∀s∈o,(bg c s:Int)≠x:=fun s hs=>by
 obtain⟨j,hj⟩:=Wj.1 hs
 exact rF h ((bg c s:Int),(j:Int)) (Wj.2 ⟨j,by
  unfold mF
  rw[Wt,List.getElem?_zipIdx,hj]
  simp⟩)
structure MJ (n:Nat) (c:List Nat) (live:List Bool) (o:List Int):Prop where
 eO:∀s∈o,0<=s/\s<n
 lv:∀s∈o,live.getD (bg c s) false=true
 nd:(o.map (bg c)).Nodup
theorem MJ.le {n:Nat} {c:List Nat} {live:List Bool} {o:List Int} (h:MJ n c live o) (hlt:∀s,s<n->c.getD s 0<n):o.length<=n:=by
 have:=iX (n:=n) h.nd fun x hx=>by
  obtain⟨s,hs,rfl⟩:=WQ.1 hx
  have:=h.eO s hs
  exact hlt s.toNat ii
 rwa [V4] at this
theorem zx {l:List bj} {bf:List Int} (h:qQ l bf) {i:Nat} {x:Int} (hx:bf[i+1]? =some x):1<=x/\x<256:=by
 have h1:=(VZ.1 hx).1
 have h2:=WS.1 h.inc i (i+1) ii h1 ii
 have h3:=h.eO _ (WC (show i<bf.length by omega))
 have h4:=h.eO _ (V6 hx)
 rw[(VZ.1 hx).2] at h2
 omega
theorem IT {l:List bj} {bf:List Int} (h:qQ l bf) (i:Nat):aW (ow bf i) fun x=>0<=x/\x<256:=by
 unfold ow
 refine ar (fun h1=> ?_) fun h1=>aj ii
 have e1:((i:Int)+1)=((i+1:Nat):Int):=by omega
 rw[e1] at*
 refine aX ii ii fun x hx _=> ?_
 rw[show(((i+1:Nat):Int)).toNat=i+1 by omega] at hx
 have:=zx h hx
 exact au ⟨by omega,by omega⟩ (aj ⟨by omega,by omega⟩)
structure EX (v:Int) (e e':List Sv.Edge):Prop where
 eb:(∀y∈e,EB y)->∀y∈e',EB y
 len:e'.length<=e.length+1
 old:∀x∈e,∃y∈e',y.to=x.to
 new:∃y∈e',y.to=v
theorem Pf {l:List bj} {bf:List Int} (h:qQ l bf) {i:Nat} (hi:i<bf.length) {c v:Int} {m:List (Int×Int)} (hv:cx c m=some v) {e:List Sv.Edge} (he:e.length<=i):aW (rR bf i c m e) (EX v e):=by
 unfold rR
 have hl:=h.len
 refine aX ii ii fun lo hlo hm=> ?_
 obtain⟨h1,h2⟩:=h.eO lo hm
 refine au ⟨h1,h2⟩ (aq (IT h i) fun x hx=> ?_)
 rw[hv]
 refine qX ii ⟨fun hb y hy=> ?_,by simp,fun y hy=>⟨y,Wu _ hy,rfl⟩,⟨_,WB _ (V1.2 rfl),rfl⟩⟩
 rcases V8.1 hy with hy|hy
 ·exact hb y hy
 ·rw[V1.1 hy]
  exact⟨h1,h2,hx.1,hx.2⟩
theorem EO {l:List bj} {bf:List Int} (h:qQ l bf) {i:Nat} (hi:i<bf.length) {c v:Int} {m:List (Int×Int)} (hv:cx c m=some v) {e:List Sv.Edge} (he:e.length<=i) (hb:∀y∈e,EB y):aW (yi bf i c m e) (EX v e):=by
 unfold yi
 have hB:=Pf h hi hv he
 refine ar (fun h0=> ?_) fun _=>hB
 refine aX ii ii fun p hp hpm=> ?_
 rw[hv]
 refine ar (fun h1=> ?_) fun _=>hB
 refine aX ii ii fun p' hp' _=> ?_
 rw[hp] at hp'
 cases hp'
 obtain⟨b1,b2,b3,b4⟩:=hb p hpm
 refine au ⟨b3,b4⟩ (aX ii ii fun ct hct _=>ar (fun h2=> ?_) fun _=>hB)
 refine aq (IT h i) fun x hx=> ?_
 have e0:ot e ((e.length:Int)-1) (fun p=>⟨p.lo,x,p.to⟩)=some (e.set (e.length-1) ⟨p.lo,x,p.to⟩):=by
  unfold ot cJ
  rw[HP ii,hp,show((e.length:Int)-1).toNat=e.length-1 by omega]
  rfl
 rw[e0]
 rw[show((e.length:Int)-1).toNat=e.length-1 by omega] at hp
 have hlt:e.length-1<e.length:=by omega
 have hin:∃y∈e.set (e.length-1) ⟨p.lo,x,p.to⟩,y.to=p.to:=⟨⟨p.lo,x,p.to⟩,Wj.2 ⟨e.length-1,by rw[WV];simp[hlt]⟩,rfl⟩
 refine aj ⟨fun hb y hy=> ?_,by rw[Wb];omega,fun y hy=> ?_,by rw[<-h1];exact hin⟩
 ·rcases WT hy with hy|rfl
  ·exact hb y hy
  ·exact⟨b1,b2,hx.1,hx.2⟩
 ·obtain⟨j,hj⟩:=Wj.1 hy
  by_cases ej:j=e.length-1
  ·subst ej
   rw[hp] at hj
   cases hj
   exact hin
  ·exact⟨y,Wj.2 ⟨j,by rw[WV];simp[show e.length-1≠j from fun h=>ej h.symm,hj]⟩,rfl⟩
def TH (c:List Nat) (o:List Int) (e:List Sv.Edge) (to:Int):Prop:=∃y∈e,∃(j:Nat) (s:Int),y.to=(j:Int)/\o[j]? =some s/\bg c s=bg c to
structure CE (n:Nat) (c:List Nat) (live:List Bool) (bf:List Int) (r:List Int) (o:List Int) (e:List Sv.Edge) (p:List Int×List (Int×Int)×List Sv.Edge):Prop where
 ext:∃ox,p.1=o++ox
 mj:MJ n c live p.1
 mp:p.2.1=mF c p.1
 eb:∀y∈p.2.2,EB y
 len:p.2.2.length<=bf.length
 old:∀x∈e,∃y∈p.2.2,y.to=x.to
 new:∀to∈r,live.getD (bg c to) false=true->TH c p.1 p.2.2 to
theorem qH {l:List bj} {bf:List Int} (h:qQ l bf) {n:Nat} (hn:n<1000000000) {c:List Nat} {live:List Bool} (hc:c.length=n) (hlt:∀s,s<n->c.getD s 0<n) (hl:live.length=n):
  ∀{r:List Int} {i:Nat} {o:List Int} {e:List Sv.Edge},i+r.length=bf.length->(∀t∈r,0<=t/\t<n)->MJ n c live o->(∀y∈e,EB y)->e.length<=i->aW (qI bf (NI c) live r i o (mF c o) e) (CE n c live bf r o e)
 |[],i,o,e,h1,_,h3,h4,h5=>aj ⟨⟨[],by simp⟩,h3,rfl,h4,(by show e.length<=bf.length;simp at h1;omega),fun x hx=>⟨x,hx,rfl⟩,fun t ht=>(by cases ht)⟩
 |to::r,i,o,e,h1,h2,h3,h4,h5=>by
  rw[V5] at h1
  obtain⟨t0,t1⟩:=h2 to (V0 ..)
  have htc:to.toNat<c.length:=by omega
  have hcl:=hlt to.toNat ii
  have ho:=h3.le hlt
  have hk:=h.len
  have e1:((i:Int)+1)=((i+1:Nat):Int):=by omega
  have hcx:(NI c)[to.toNat]? =some ((bg c to:Nat):Int):=by
   unfold bg
   rw[Wt,VV htc,cy (VV htc)]
   rfl
  have hr2:∀t∈r,0<=t/\t<n:=fun t ht=>h2 t (VX _ ht)
  unfold qI
  refine aX t0 (by rw[V4];omega) fun x hx _=> ?_
  rw[hcx] at hx
  cases hx
  have hcl':bg c to<n:=hcl
  refine aX ii ii fun y hy _=> ?_
  rw[show(((bg c to:Nat):Int)).toNat=bg c to by omega] at hy
  refine ar (fun hy1=> ?_) fun hy1=> ?_
  ·split
   ·rename_i v hv
    obtain⟨j,s,hvj,hos,hcs⟩:=RA hv
    refine au ii (aq (EO h ii hv h5 h4) fun e' hE=> ?_)
    rw[e1]
    have hlen:=hE.len
    refine(qH h hn hc hlt hl (r:=r) (i:=i+1) (o:=o) (e:=e') ii hr2 h3 (hE.eb h4) ii).mono fun p hp=> ?_
    refine⟨hp.ext,hp.mj,hp.mp,hp.eb,hp.len,fun x hx=> ?_,fun t ht hlv=> ?_⟩
    ·obtain⟨y,g1,g2⟩:=hE.old x hx
     obtain⟨z,g3,g4⟩:=hp.old y g1
     exact⟨z,g3,g4.trans g2⟩
    ·rcases V9.1 ht with rfl|ht
     ·obtain⟨y,g1,g2⟩:=hE.new
      obtain⟨z,g3,g4⟩:=hp.old y g1
      obtain⟨ox,hox⟩:=hp.ext
      exact⟨z,g3,j,s,by rw[g4,g2,hvj],by rw[hox,Wi (VZ.1 hos).1];exact hos,by omega⟩
     ·exact hp.new t ht hlv
   ·rename_i hv
    have hno:=RB hv
    have hv':=qz (v:=(o.length:Int)) hv
    have h3':MJ n c live (o++[to]):=by
     refine⟨fun s hs=> ?_,fun s hs=> ?_,?_⟩
     ·rcases V8.1 hs with hs|hs
      ·exact h3.eO s hs
      ·rw[V1.1 hs];exact⟨t0,t1⟩
     ·rcases V8.1 hs with hs|hs
      ·exact h3.lv s hs
      ·rw[V1.1 hs,cy hy];exact hy1
     ·rw[W2,XT]
      refine⟨h3.nd,by simp,fun a ha b hb=> ?_⟩
      obtain⟨s,hs,rfl⟩:=WQ.1 ha
      simp only[WM,X4,V1] at hb
      subst hb
      intro e
      exact hno s hs (by rw[e])
    rw[<-AZ] at hv'
    refine bw ii (au ii ?_)
    rw[<-AZ]
    refine aq (EO h ii hv' h5 h4) fun e' hE=> ?_
    rw[e1]
    have hlen:=hE.len
    refine(qH h hn hc hlt hl (r:=r) (i:=i+1) (o:=o++[to]) (e:=e') ii hr2 h3' (hE.eb h4) ii).mono fun p hp=> ?_
    obtain⟨ox,hox⟩:=hp.ext
    refine⟨⟨to::ox,by rw[hox];simp⟩,hp.mj,hp.mp,hp.eb,hp.len,fun x hx=> ?_,fun t ht hlv=> ?_⟩
    ·obtain⟨y,g1,g2⟩:=hE.old x hx
     obtain⟨z,g3,g4⟩:=hp.old y g1
     exact⟨z,g3,g4.trans g2⟩
    ·rcases V9.1 ht with rfl|ht
     ·obtain⟨y,g1,g2⟩:=hE.new
      obtain⟨z,g3,g4⟩:=hp.old y g1
      exact⟨z,g3,o.length,t,by rw[g4,g2],by rw[hox,WG,Wh (V2 _),Xh];rfl,rfl⟩
     ·exact hp.new t ht hlv
  ·rw[e1]
   refine(qH h hn hc hlt hl (r:=r) (i:=i+1) (o:=o) (e:=e) ii hr2 h3 h4 ii).mono fun p hp=> ?_
   refine⟨hp.ext,hp.mj,hp.mp,hp.eb,hp.len,hp.old,fun t ht hlv=> ?_⟩
   rcases V9.1 ht with rfl|ht
   ·rw[cy hy] at hlv;exact absurd hlv hy1
   ·exact hp.new t ht hlv
structure CS (next:List (List Int)) (acc:List Bool) (c:List Nat) (live:List Bool) (o:List Int) (s:Int) (st:bj):Prop where
 acc:st.acc=acc.getD s.toNat false
 len:st.aI.length<=256
 eb:∀y∈st.aI,EB y
 lead:∀to∈next.getD s.toNat [],live.getD (bg c to) false=true->TH c o st.aI to
theorem CS.ext {next:List (List Int)} {acc:List Bool} {c:List Nat} {live:List Bool} {o:List Int} {s:Int} {st:bj} (h:CS next acc c live o s st) (ox:List Int):CS next acc c live (o++ox) s st:=
 ⟨h.acc,h.len,h.eb,fun to h1 h2=>by
  obtain⟨y,hy,j,s',g1,g2,g3⟩:=h.lead to h1 h2
  exact⟨y,hy,j,s',g1,by rw[Wi (VZ.1 g2).1];exact g2,g3⟩⟩
theorem ER {l:List bj} {bf:List Int} (h:qQ l bf) {n:Nat} {next:List (List Int)} {acc:List Bool} (hT:Tb n bf.length next) (hn:n<1000000000) (ha:acc.length=n) {c:List Nat} {live:List Bool} (hc:c.length=n) (hlt:∀s,s<n->c.getD s 0<n) (hl:live.length=n):
  ∀{f:Nat} {o:List Int} {out:List bj},MJ n c live o->out.length<=o.length->n+1<=f+out.length->(∀(j:Nat) (st:bj),out[j]? =some st->∃s,o[j]? =some s/\CS next acc c live o s st)->
   aW (pC bf next acc (NI c) live f out.length o (mF c o) out) fun r=>∃ox,MJ n c live (o++ox)/\r.length=(o++ox).length/\∀(j:Nat) (st:bj),r[j]? =some st->∃s,(o++ox)[j]? =some s/\CS next acc c live (o++ox) s st
 |0,o,out,h1,h2,h3,_=>by have:=h1.le hlt;omega
 |f+1,o,out,h1,h2,h3,h4=>by
  have hk:=h.len
  have ho:=h1.le hlt
  unfold pC
  refine au ii (ar (fun h5=> ?_) fun h5=>aj ⟨[],by rw[Wy];exact h1,by rw[Wy];omega,by rw[Wy];exact h4⟩)
  refine aX ii ii fun s hs hsm=> ?_
  obtain⟨s0,s1⟩:=h1.eO s hsm
  refine aX s0 ii fun a hacc _=>aX ii ii fun s' hs' _=> ?_
  rw[hs] at hs'
  cases hs'
  refine aX s0 (by rw[hT.len];exact s1) fun row hrow hrm=>au (by rw[hT.row row hrm];omega) ?_
  rw[show((out.length:Nat):Int).toNat=out.length by omega] at hs
  refine aq (qH h hn hc hlt hl (r:=row) (i:=0) (o:=o) (e:=[]) (by rw[hT.row row hrm];omega) (hT.eO row hrm) h1 (fun y hy=>by cases hy) (V2 _)) fun p hp=> ?_
  obtain⟨p1,p2,p3⟩:=p
  obtain⟨⟨ox,hox⟩,g2,g3,g4,g5,g6,g7⟩:=hp
  simp only at hox g2 g3 g4 g5 g6 g7⊢
  subst hox g3
  refine bw ii ?_
  have e1:((out.length:Int)+1)=(((out++[(⟨a,p3⟩:bj)]).length:Nat):Int):=by simp
  rw[e1]
  have hfin:∀(j:Nat) (st:bj),(out++[(⟨a,p3⟩:bj)])[j]? =some st->∃s,(o++ox)[j]? =some s/\CS next acc c live (o++ox) s st:=fun j st hj=>by
   rcases X8 j out.length with g|g|g
   ·rw[Wi g] at hj
    obtain⟨s',r1,r2⟩:=h4 j st hj
    exact⟨s',by rw[Wi ii];exact r1,r2.ext ox⟩
   ·subst g
    rw[Wh (V2 _),Xh] at hj
    cases hj
    refine⟨s,by rw[Wi ii];exact hs,?_,(by show p3.length<=256;omega),g4,fun to ht hlv=>g7 to (by rwa [cy hrow] at ht) hlv⟩
    exact(cy hacc).symm
   ·rw[Wh ii,show j-out.length=(j-out.length-1)+1 by omega] at hj;cases hj
  refine aW.mono (ER h hT hn ha hc hlt hl (f:=f) (o:=o++ox) (out:=out++[⟨a,p3⟩]) g2 (by simp;omega) (by simp;omega) hfin) ?_
  rintro r ⟨oy,q1,q2,q3⟩
  exact⟨ox++oy,by rw[<-WG];exact q1,by rw[<-WG];exact q2,by rw[<-WG];exact q3⟩
def Lv (l:List bj):Nat->Nat->Prop
 |0,s=>∃x,l[s]? =some x/\x.acc=true
 |k+1,s=>∃x,l[s]? =some x/\∃e∈x.aI,0<=e.to/\Lv l k e.to.toNat
structure Canon (n:Nat) (r:List bj):Prop extends AB n r where
 live:∀j,j<r.length->∃k,Lv r k j
theorem Canon.nil (n:Nat):Canon n []:=⟨AB.nil n,fun j h=>by cases h⟩
theorem SH {l:List bj} {bf:List Int} (h:qQ l bf) {n:Nat} {next:List (List Int)} {acc:List Bool} (hT:Tb n bf.length next) (hn0:0<n) (hn:n<1000000000) (ha:acc.length=n) {c:List Nat} (hc:c.length=n) (hlt:∀s,s<n->c.getD s 0<n) (hS:Fh n next c) (hA:∀s t,s<n->t<n->c.getD s 0=c.getD t 0->acc.getD s false=acc.getD t false):
  aW (Pd bf next acc (NI c)) (Canon n):=by
 unfold Pd
 refine aq (yT hT hn h.len ha hc hlt hS hA) fun live hL=> ?_
 have hc0:(NI c)[0]? =some ((bg c 0:Nat):Int):=by
  unfold bg
  rw[Wt,VV ii,cy (VV ii)]
  rfl
 have h0:=hlt 0 hn0
 refine aX ii (by rw[V4];omega) fun x hx _=> ?_
 rw[show(0:Int).toNat=0 from rfl,hc0] at hx
 cases hx
 have h0':bg c 0<n:=h0
 refine aX ii (by rw[hL.len];omega) fun b hb _=> ?_
 rw[show(((bg c 0:Nat):Int)).toNat=bg c 0 by omega] at hb
 refine ar (fun hb1=> ?_) fun _=>aj (Canon.nil n)
 refine aX ii (by rw[V4];omega) fun x hx _=> ?_
 rw[show(0:Int).toNat=0 from rfl,hc0] at hx
 cases hx
 have hmj:MJ n c live [0]:=⟨fun s hs=>by rw[V1.1 hs];omega,fun s hs=>by rw[V1.1 hs,cy hb];exact hb1,by simp⟩
 have e0:[(((bg c 0:Nat):Int),(0:Int))]=mF c [0]:=rfl
 rw[e0,hT.len]
 refine(ER h hT hn ha hc hlt hL.len (f:=n+1) (o:=[0]) (out:=[]) hmj (by simp) (by simp) fun j st hj=>by cases hj).mono fun r ⟨ox,q1,q2,q3⟩=> ?_
 have hor:=q1.le hlt
 have key:∀(k j:Nat) (s:Int),([0]++ox)[j]? =some s->TG next acc k s.toNat->Lv r k j:=fun k=>by
  induction k with
  |zero=>
   intro j s hs hv
   have hj:j<r.length:=by rw[q2];exact(VZ.1 hs).1
   obtain⟨s',g1,g2⟩:=q3 j _ (VV hj)
   rw[hs] at g1
   cases g1
   exact⟨_,VV hj,by rw[g2.acc];exact hv⟩
  |succ k ih=>
   intro j s hs hv
   have hj:j<r.length:=by rw[q2];exact(VZ.1 hs).1
   obtain⟨s',g1,g2⟩:=q3 j _ (VV hj)
   rw[hs] at g1
   cases g1
   obtain⟨to,t1,t2⟩:=hv
   have hsn:=q1.eO s (V6 hs)
   have hto:=hT.eO _ (hT.at_ (s:=s.toNat) ii).1 to t1
   have hlv:live.getD (bg c to) false=true:=hL.all hT k to.toNat ii t2
   obtain⟨y,hy,j',s',e1,e2,e3⟩:=g2.lead to t1 hlv
   have hsn':=q1.eO s' (V6 e2)
   refine⟨_,VV hj,y,hy,by omega,?_⟩
   rw[e1,show((j':Nat):Int).toNat=j' by omega]
   exact ih j' s' e2 (tW hT hS hA k to.toNat s'.toNat ii ii e3.symm t2)
 refine⟨⟨by omega,fun st hst=> ?_,fun st hst=> ?_⟩,fun j hj=> ?_⟩
 ·obtain⟨j,hj⟩:=Wj.1 hst
  obtain⟨s,_,g⟩:=q3 j st hj
  exact g.len
 ·obtain⟨j,hj⟩:=Wj.1 hst
  obtain⟨s,_,g⟩:=q3 j st hj
  exact g.eb
 ·obtain⟨s,g1,g2⟩:=q3 j _ (VV hj)
  have hm:=V6 g1
  obtain⟨t,k,t1,t2,t3⟩:=hL.snd _ (q1.lv s hm)
  have:=q1.eO s hm
  exact⟨k,key k j s g1 (tW hT hS hA k t s.toNat t1 ii t2 t3)⟩
theorem AV {l:List bj} {n:Nat} (h:AB n l) (hn:n<900000000):aW (mB l) fun p=>Canon (l.length+1) p.1/\(p.2=0->WF l):=by
 have hl:=h.len
 unfold mB
 refine aq (Ma h ii) fun ok hok=>ar (fun h1=> ?_) fun _=>aj ⟨Canon.nil _,fun e=>by cases e⟩
 have hw:=hok h1
 refine ar (fun _=>aj ⟨Canon.nil _,fun _=>hw⟩) fun h0=> ?_
 refine aq (Ey h hn) fun t ht=> ?_
 have hT:=ht.tb hw
 have ha:t.2.2.length=l.length+1:=by rw[ht.acc];simp
 refine aq (C2 hT ii ii ht.bf.len ha) fun cls ⟨c,m,e,hP,hS,hA⟩=> ?_
 subst e
 refine aq (SH ht.bf hT ii ii ha hP.len (fun s hs=>Xe (hP.lt s hs) hP.le) hS hA) fun r hr=>aj ⟨hr,fun _=>hw⟩
structure Gd (n:Nat) (l:List bj):Prop extends AB n l where
 wf:WF l
 live:∀j,j<l.length->∃k,Lv l k j
theorem Gd.nil (n:Nat):Gd n []:=⟨AB.nil n,fun s h=>(by cases h),fun j h=>by cases h⟩
theorem Gd.mono {n m:Nat} {l:List bj} (h:Gd n l) (hn:n<=m):Gd m l:=⟨h.toAB.mono hn,h.wf,h.live⟩
theorem Eg {α:Type} {g:α->α->Option Bool} {b:List α} (hg:∀x y,y∈b->aW (g x y) fun r=>r=true->x=y):∀{r:List α} {i:Nat},i+r.length=b.length->aW (iQ g b r i) fun t=>t=true->r=b.drop i
 |[],i,h=>aj fun _=>by
  rw[WA] at h
  exact(WJ ii).symm
 |x::r,i,h=>by
  rw[V5] at h
  unfold iQ
  refine aX ii ii fun y hy hm=>aq (hg x y hm) fun t ht=>ar (fun h1=> ?_) fun _=>aj fun h=>by cases h
  have e1:((i:Int)+1)=((i+1:Nat):Int):=by omega
  rw[e1]
  refine(Eg hg (r:=r) (i:=i+1) ii).mono fun t h2 h3=> ?_
  rw[show((i:Int)).toNat=i by omega] at hy
  have hi:i<b.length:=by omega
  rw[Wo hi,h2 h3,ht h1]
  rw[VV hi] at hy
  cases hy
  rfl
theorem eqFM_tot {α:Type} {g:α->α->Option Bool} {a b:List α} (hg:∀x y,y∈b->aW (g x y) fun r=>r=true->x=y) (ha:a.length<=1000000000):aW (ju g a b) fun t=>t=true->a=b:=by
 unfold ju
 refine ar (fun h=>au ha ?_) fun _=>aj fun h=>by cases h
 exact Eg hg (r:=a) (i:=0) ii
theorem Ei {x y:Sv.Edge} (h:Bj x y=true):x=y:=by
 unfold Bj at h
 simp only[Wa,WY,and_true] at h
 obtain⟨h1,h2,h3⟩:=h
 cases x
 cases y
 simp only at h1 h2 h3
 rw[h1,h2,h3]
theorem mL {b:List Sv.Edge}:∀{r:List Sv.Edge} {i:Nat},i+r.length=b.length->aW (iR b r i) fun t=>t=true->r=b.drop i
 |[],i,h=>aj fun _=>by
  rw[WA] at h
  exact(WJ ii).symm
 |x::r,i,h=>by
  rw[V5] at h
  unfold iR
  refine aX ii ii fun y hy hm=>ar (fun h1=> ?_) fun _=>aj fun h=>by cases h
  have e1:((i:Int)+1)=((i+1:Nat):Int):=by omega
  rw[e1]
  refine(mL (r:=r) (i:=i+1) ii).mono fun t h2 h3=> ?_
  rw[show((i:Int)).toNat=i by omega] at hy
  have hi:i<b.length:=by omega
  rw[Wo hi,h2 h3,Ei h1]
  rw[VV hi] at hy
  cases hy
  rfl
theorem J9 {x y:bj} (h:x.aI.length<=1000000000):aW (sd x y) fun t=>t=true->x=y:=by
 unfold sd
 refine ar (fun h1=> ?_) fun _=>aj fun h=>by cases h
 unfold oa
 refine ar (fun h2=>au h ((mL (r:=x.aI) (i:=0) ii).mono fun t h3 h4=> ?_)) fun _=>aj fun h=>by cases h
 have:=h3 h4
 rw[Xn] at this
 cases x
 cases y
 simp only at this h1
 rw[this,eq_of_beq h1]
theorem zp {α:Type} {g:α->α->Option Bool} {b:List α}:∀{r:List α} {i:Nat},(∀x∈r,∀y∈b,aW (g x y) fun r=>r=true->x=y)->i+r.length=b.length->aW (iQ g b r i) fun t=>t=true->r=b.drop i
 |[],i,_,h=>aj fun _=>by
  rw[WA] at h
  exact(WJ ii).symm
 |x::r,i,hg,h=>by
  rw[V5] at h
  unfold iQ
  refine aX ii ii fun y hy hm=>aq (hg x (V0 ..) y hm) fun t ht=>ar (fun h1=> ?_) fun _=>aj fun h=>by cases h
  have e1:((i:Int)+1)=((i+1:Nat):Int):=by omega
  rw[e1]
  refine(zp (r:=r) (i:=i+1) (fun x hx=>hg x (VX _ hx)) ii).mono fun t h2 h3=> ?_
  rw[show((i:Int)).toNat=i by omega] at hy
  have hi:i<b.length:=by omega
  rw[Wo hi,h2 h3,ht h1]
  rw[VV hi] at hy
  cases hy
  rfl
theorem KY {α:Type} {g:α->α->Option Bool} {a b:List α} (hg:∀x∈a,∀y∈b,aW (g x y) fun r=>r=true->x=y) (ha:a.length<=1000000000):aW (ju g a b) fun t=>t=true->a=b:=by
 unfold ju
 refine ar (fun h=>au ha ?_) fun _=>aj fun h=>by cases h
 exact zp (r:=a) (i:=0) hg ii
theorem nu {n:Nat} {a b:List bj} (h:AB n a) (hn:n<=1000000000):aW (pV a b) fun t=>t=true->a=b:=
 KY (fun x hx y _=>J9 (by have:=h.row x hx;omega)) (by have:=h.len;omega)
theorem iU {l:List bj} {n:Nat} (h:AB n l) (hn:n<900000000):aW (iA l) fun b=>b=true->Gd n l:=by
 unfold iA
 refine aq (AV h hn) fun p ⟨h1,h2⟩=>ar (fun h3=> ?_) fun _=>aj fun h=>by cases h
 refine(nu h ii).mono fun t ht e=>⟨h,h2 h3,?_⟩
 have:=ht e
 rw[this]
 exact h1.live
theorem qt {l:List bj} {n:Nat} (h:AB n l) (hn:n<900000000):aW (fq l) (Gd n):=by
 unfold fq
 refine aq (iU h hn) fun b hb=>ar (fun h1=>aj (hb h1)) fun _=>aj (Gd.nil n)
theorem Ev:∀{l out:List bj} {n:Nat},n<=1000000000->(∀s∈l,s.aI.length<=256)->out.length+l.length<=n->aW (GO l out) fun r=>r=out++l
 |[],out,n,_,_,_=>aj (by simp)
 |s::r,out,n,hn,h,h1=>by
  rw[V5] at h1
  unfold GO By
  rw[VY]
  have:=h s (V0 ..)
  refine au ii ?_
  rw[VU]
  refine bw ii ((Ev (l:=r) (n:=n) hn (fun s hs=>h s (VX _ hs)) (by simp;omega)).mono fun q hq=> ?_)
  rw[hq]
  simp
theorem wi {l:List bj} {n:Nat} (h:AB n l) (hn:n<=1000000000):aW (jJ l) fun r=>r=l:=by
 unfold jJ
 have:=h.len
 exact au ii ((Ev (n:=n) hn h.row (by simp;omega)).mono fun r hr=>by rw[hr];rfl)
theorem pR {n:Nat} {l:List bj} (h:Gd n l) (hn:n<=1000000000) {s b:Int}:aW (jf l s b) fun x=> -1<=x/\x<l.length:=by
 unfold jf
 refine ar (fun _=>aj ii) fun h1=>ar (fun _=>aj ii) fun h2=> ?_
 refine aX ii ii fun x hx hm=>au (by have:=h.row x hm;omega) ?_
 have key:∀es:List Sv.Edge,(∀e∈es,0<=e.to/\e.to<l.length)->aW (iH b es) fun x=> -1<=x/\x<l.length:=fun es=>by
  induction es with
  |nil=>intro _;exact aj ii
  |cons e r ih=>
   intro he
   have h3:=he e (V0 ..)
   have h4:=ih fun e' h'=>he e' (VX _ h')
   unfold iH
   exact ar (fun _=>ar (fun _=>aj ii) fun _=>h4) fun _=>h4
 exact key x.aI fun e he=>((h.wf x hm).one e he).2
theorem sV {l:List bj} {s:Int}:aW (iu l s) fun _=>True:=by
 unfold iu
 exact ar (fun h1=>ar (fun h2=>aX h1 h2 fun x _ _=>aj trivial) fun _=>aj trivial) fun _=>aj trivial
theorem rJ:∀{es:List Sv.Edge} {a:List Bool},(∀e∈es,EB e)->a.length=256->a[0]? =some true->aW (gn es a) fun r=>r.length=256/\r[0]? =some true
 |[],a,_,h1,h2=>aj ⟨h1,h2⟩
 |e::r,a,he,h1,h2=>by
  obtain⟨b1,b2,b3,b4⟩:=he e (V0 ..)
  have hr:=fun e' h'=>he e' (VX _ h')
  have st:∀(a:List Bool) (j:Nat),a.length=256->a[0]? =some true->j<256->(a.set j true)[0]? =some true:=fun a j h1 h2 h3=>(dG ii 0).2 (.inl h2)
  unfold gn
  refine hM b1 ii h1 (ar (fun h3=> ?_) fun _=>rJ hr (by rw[Wb];exact h1) (st a _ h1 h2 ii))
  refine au ⟨b3,b4⟩ (hM ii ii (by rw[Wb];exact h1) ?_)
  exact rJ hr (by rw[Wb,Wb];exact h1) (st _ _ (by rw[Wb];exact h1) (st a _ h1 h2 ii) ii)
theorem zy {n:Nat} {l:List bj} (h:AB n l) {s:Int} {a:List Bool} (h1:a.length=256) (h2:a[0]? =some true):aW (we l s a) fun r=>r.length=256/\r[0]? =some true:=by
 unfold we
 refine ar (fun _=>aj ⟨h1,h2⟩) fun h3=>ar (fun _=>aj ⟨h1,h2⟩) fun h4=> ?_
 exact aX ii ii fun x _ hm=>au (by have:=h.row x hm;omega) (rJ (h.eb x hm) h1 h2)
theorem my {x y:dw}:Gg x y=true↔x=y:=by
 unfold Gg
 simp only[Wa,WY,and_true]
 cases x
 cases y
 simp
theorem qm {p:dw}:∀{r:List dw} {i:Nat},aW (gb p r i) fun k=>(k= -1/\∀q∈r,q≠p)\/((i:Int)<=k/\k<i+r.length)
 |[],i=>aj (.inl ⟨rfl,fun q hq=>by cases hq⟩)
 |x::r,i=>by
  unfold gb
  refine ar (fun h=>aj (.inr (by simp;omega))) fun h=> ?_
  have e1:((i:Int)+1)=((i+1:Nat):Int):=by omega
  rw[e1]
  refine(qm (r:=r) (i:=i+1)).mono fun k hk=> ?_
  rcases hk with⟨h1,h2⟩|h1
  ·refine .inl ⟨h1,fun q hq=> ?_⟩
   rcases V9.1 hq with rfl|hq
   ·exact fun e=>h (my.2 e.symm)
   ·exact h2 q hq
  ·refine .inr ?_
   rw[V5]
   omega
def I2 (B:Nat) (p:dw):Nat:=(p.a+1).toNat*B+(p.b+1).toNat
structure PJ (A B:Nat) (l:List dw):Prop where
 eO:∀p∈l,-1<=p.a/\p.a<A/\ -1<=p.b/\p.b<B
 nd:l.Nodup
theorem PJ.le {A B:Nat} {l:List dw} (h:PJ A B l):l.length<=(A+1)*(B+1):=by
 have hlt:∀p∈l,I2 (B+1) p<(A+1)*(B+1):=fun p hp=>by
  obtain⟨h1,h2,h3,h4⟩:=h.eO p hp
  unfold I2
  have h5:(p.a+1).toNat+1<=A+1:=by omega
  have h6:=W7 (B+1) h5
  rw[Nat.succ_mul] at h6
  omega
 have:=iX (n:=(A+1)*(B+1)) (l:=l.map (I2 (B+1))) ?_ fun x hx=>by
  obtain⟨p,hp,rfl⟩:=WQ.1 hx
  exact hlt p hp
 ·rwa [V4] at this
 ·rw[Xk,Yb]
  refine(Xk.1 h.nd).imp_of_mem fun{p q} hp hq hne e=>hne ?_
  obtain⟨h1,h2,h3,h4⟩:=h.eO p hp
  obtain⟨g1,g2,g3,g4⟩:=h.eO q hq
  unfold I2 at e
  have m1:((p.a+1).toNat*(B+1)+(p.b+1).toNat)/(B+1)=(p.a+1).toNat:=by
   rw[X3,Nat.mul_add_div ii,Nat.div_eq_of_lt ii];rfl
  have m2:((q.a+1).toNat*(B+1)+(q.b+1).toNat)/(B+1)=(q.a+1).toNat:=by
   rw[X3,Nat.mul_add_div ii,Nat.div_eq_of_lt ii];rfl
  rw[e,m2] at m1
  rw[m1] at e
  have ea:p.a=q.a:=by omega
  have eb:p.b=q.b:=by omega
  cases p
  cases q
  simp only at ea eb
  rw[ea,eb]
theorem PJ.push {A B:Nat} {l:List dw} (h:PJ A B l) {p:dw} (hp: -1<=p.a/\p.a<A/\ -1<=p.b/\p.b<B) (hn:∀q∈l,q≠p):PJ A B (l++[p]):=
 ⟨fun q hq=>by
  rcases V8.1 hq with hq|hq
  ·exact h.eO q hq
  ·rw[V1.1 hq];exact hp,by
  rw[XT]
  exact⟨h.nd,by simp,fun q hq r hr=>by rw[V1.1 hr];exact hn q hq⟩⟩
theorem rb {α:Type} {e:List Sv.Edge} {c:Nat} (hc:c<256) {f:List Sv.Edge->Option α} {Q:α->Prop} (hne:e≠[]) (hb:∀y∈e,EB y) (hl:e.length<=256) (k:∀e':List Sv.Edge,e'≠[]->(∀y∈e',EB y)->e'.length=e.length->aW (f e') Q):
  aW ((aR e).bind fun _=>(ot e (e.length-1) fun q=>⟨q.lo,c,q.to⟩).bind f) Q:=by
 have h0:0<e.length:=Xq.2 hne
 refine au ii (Am ii ii fun q hq hm=>k _ ?_ (fun y hy=> ?_) (by rw[Wb]))
 ·exact List.ne_nil_of_length_pos (by rw[Wb];exact h0)
 ·rcases WT hy with hy|rfl
  ·exact hb y hy
  ·obtain⟨b1,b2,b3,b4⟩:=hb q hm
   exact⟨b1,b2,by show(0:Int)<=(c:Int);omega,by show(c:Int)<256;omega⟩
theorem nG {n:Nat} {a b:List bj} (ha:Gd n a) (hb:Gd n b) (hn:n<=20000) {p:dw} {at':List Bool} (h1:at'.length=256) (h2:at'[0]? =some true):
  ∀{m c:Nat} {l:List dw} {e:List Sv.Edge},m+c=256->PJ (a.length+1) (b.length+1) l->(∀y∈e,EB y)->e.length<=c->(0<c->e≠[])->aW (dk a b p at' m c l e) fun q=>(∃lx,q.1=l++lx)/\PJ (a.length+1) (b.length+1) q.1/\(∀y∈q.2,EB y)/\q.2.length<=256
 |0,c,l,e,h,h3,h4,h5,h6=>aj ⟨⟨[],by simp⟩,h3,h4,by show e.length<=256;omega⟩
 |m+1,c,l,e,h,h3,h4,h5,h6=>by
  have hA:=ha.len
  have hB:=hb.len
  have hll:l.length<=400080004:=by
   have:=h3.le
   have h7:(a.length+1+1)*(b.length+1+1)<=20002*20002:=Xb ii ii
   omega
  have e1:((c:Int)+1)=((c+1:Nat):Int):=by omega
  unfold dk
  refine An ii ii h1 fun x hx=> ?_
  rw[show((c:Int)).toNat=c by omega] at hx
  rw[e1]
  have hEB:∀v:Int,EB ⟨c,0,v⟩:=fun v=>⟨by show(0:Int)<=(c:Int);omega,by show(c:Int)<256;omega,by show(0:Int)<=0;omega,by show(0:Int)<256;omega⟩
  have hadd:∀v:Int,∀y∈e++[(⟨c,0,v⟩:Sv.Edge)],EB y:=fun v y hy=>by
   rcases V8.1 hy with hy|hy
   ·exact h4 y hy
   ·rw[V1.1 hy];exact hEB v
  refine ar (fun hx1=> ?_) fun hx1=> ?_
  ·refine aq (pR ha ii) fun x1 hx2=>aq (pR hb ii) fun y1 hy2=> ?_
   have hidx:aW (nQ l ⟨x1,y1⟩) fun k=>(k= -1/\∀q∈l,q≠⟨x1,y1⟩)\/(0<=k/\k<l.length):=by
    unfold nQ
    refine au ii ((qm (r:=l) (i:=0)).mono fun k hk=> ?_)
    rcases hk with hk|hk
    ·exact .inl hk
    ·exact .inr ⟨by omega,by omega⟩
   refine aq hidx fun k hk=>ar (fun hk1=> ?_) fun hk1=> ?_
   ·have hno:∀q∈l,q≠⟨x1,y1⟩:=by
     rcases hk with⟨_,g⟩|g
     ·exact g
     ·omega
    have h3':PJ (a.length+1) (b.length+1) (l++[⟨x1,y1⟩]):=h3.push ⟨hx2.1,by show x1<_;omega,hy2.1,by show y1<_;omega⟩ hno
    refine bw ii (bw ii (rb ii (by simp) (hadd _) (by simp;omega) fun e' g1 g2 g3=> ?_))
    refine(nG ha hb hn h1 h2 (m:=m) (c:=c+1) ii h3' g2 (by rw[g3];simp;omega) fun _=>g1).mono fun q ⟨⟨lx,q1⟩,q2,q3,q4⟩=>⟨⟨⟨x1,y1⟩::lx,by rw[q1];simp⟩,q2,q3,q4⟩
   ·refine bw ii (rb ii (by simp) (hadd _) (by simp;omega) fun e' g1 g2 g3=> ?_)
    exact nG ha hb hn h1 h2 (m:=m) (c:=c+1) ii h3 g2 (by rw[g3];simp;omega) fun _=>g1
  ·have hc0:0<c:=by
    rcases W8 c with rfl|g
    ·rw[h2] at hx;cases hx;exact absurd rfl hx1
    ·exact g
   refine rb ii (h6 hc0) h4 ii fun e' g1 g2 g3=> ?_
   exact nG ha hb hn h1 h2 (m:=m) (c:=c+1) ii h3 g2 (by rw[g3];omega) fun _=>g1
theorem re {n:Nat} {a b:List bj} (ha:Gd n a) (hb:Gd n b) (hn:n<=20000) {is:Bool->Bool->Option Bool} (his:∀x y,aW (is x y) fun _=>True):
  ∀{f:Nat} {l:List dw} {out:List bj},PJ (a.length+1) (b.length+1) l->AB out.length out->out.length<=l.length->(a.length+2)*(b.length+2)+1<=f+out.length->aW (oH a b is f out.length l out) fun r=>AB ((a.length+2)*(b.length+2)) r
 |0,l,out,h1,h2,h3,h4=>by have:l.length<=(a.length+2)*(b.length+2):=h1.le;omega
 |f+1,l,out,h1,h2,h3,h4=>by
  have hA:=ha.len
  have hB:=hb.len
  have hle:l.length<=(a.length+2)*(b.length+2):=h1.le
  have hll:(a.length+2)*(b.length+2)<=20002*20002:=Xb ii ii
  unfold oH
  refine au ii (ar (fun h5=> ?_) fun h5=>aj ⟨by omega,h2.row,h2.eb⟩)
  refine aX ii ii fun p hp hm=>aq sV fun x _=>aq sV fun y _=>aq (his x y) fun acc _=> ?_
  refine aq (zy (a:=kR) ha.toAB (by unfold kR;rw[V5,Wc]) rfl) fun a1 ⟨g1,g2⟩=>aq (zy hb.toAB g1 g2) fun a2 ⟨g3,g4⟩=> ?_
  refine aq (nG ha hb ii g3 g4 (m:=256) (c:=0) (l:=l) (e:=[]) rfl h1 (fun y hy=>by cases hy) (V2 _) fun h=>by omega) fun q ⟨⟨lx,q1⟩,q2,q3,q4⟩=> ?_
  refine bw ii ?_
  have e1:((out.length:Int)+1)=(((out++[(⟨acc,q.2⟩:bj)]).length:Nat):Int):=by simp
  rw[e1]
  have hq:=W4 List.length q1
  rw[V7] at hq
  refine re ha hb hn his (f:=f) (l:=q.1) (out:=out++[⟨acc,q.2⟩]) q2 ⟨V2 _,fun s hs=> ?_,fun s hs=> ?_⟩ (by simp;omega) (by simp;omega)
  ·rcases V8.1 hs with hs|hs
   ·exact h2.row s hs
   ·rw[V1.1 hs];exact q4
  ·rcases V8.1 hs with hs|hs
   ·exact h2.eb s hs
   ·rw[V1.1 hs];exact q3
def fX (a b:List bj):Nat:=(a.length+2)*(b.length+2)+1
theorem mv {n:Nat} {a b:List bj} (ha:AB n a) (hb:AB n b) (hn:n<=20000) {is:Bool->Bool->Option Bool} (his:∀x y,aW (is x y) fun _=>True):aW (fW is a b) (Canon (fX a b)):=by
 unfold fW
 have hgl:∀{l:List bj},AB n l->aW (fq l) fun r=>Gd n r/\r.length<=l.length:=fun{l} h=>by
  obtain⟨r,e,hr⟩:=qt h ii
  refine⟨r,e,hr,?_⟩
  unfold fq at e
  obtain⟨b,e1,_⟩:=iU h ii
  rw[e1,VU] at e
  split at e<;>cases e
  ·exact V2 _
  ·exact Wd _
 refine aq (hgl ha) fun a' ⟨ha',la⟩=>aq (hgl hb) fun b' ⟨hb',lb⟩=> ?_
 have hle:(a'.length+2)*(b'.length+2)<=(a.length+2)*(b.length+2):=Xb ii ii
 have h1:=ha.len
 have h2:=hb.len
 have hll:(a.length+2)*(b.length+2)<=20002*20002:=Xb ii ii
 refine aq (re ha' hb' hn his (l:=[⟨0,0⟩]) (out:=[]) ⟨fun p hp=> ?_,by simp⟩ (AB.nil 0) (by simp) (by simp)) fun out hout=> ?_
 ·rw[V1.1 hp]
  show(-1:Int)<=0/\(0:Int)<(a'.length+1:Nat)/\(-1:Int)<=0/\(0:Int)<(b'.length+1:Nat)
  omega
 ·refine aq (AV hout ii) fun p ⟨hp,_⟩=>aj ?_
  have:=hout.len
  exact⟨hp.toAB.mono (by unfold fX;omega),hp.live⟩
theorem Canon.mono {n m:Nat} {l:List bj} (h:Canon n l) (hn:n<=m):Canon m l:=⟨h.toAB.mono hn,h.live⟩
theorem tD (x y:Bool):aW (Tq x y) fun _=>True:=by unfold Tq;split<;>exact aj trivial
theorem PA (x y:Bool):aW (PB x y) fun _=>True:=by unfold PB;split<;>exact aj trivial
theorem lf (x y:Bool):aW (lh x y) fun _=>True:=by unfold lh;split<;>exact aj trivial
theorem D0 {l:List bj} {n:Nat} (h:AB n l) (hn:n<900000000):aW (fq l) fun r=>Gd n r/\r.length<=l.length:=by
 obtain⟨r,e,hr⟩:=qt h hn
 refine⟨r,e,hr,?_⟩
 unfold fq at e
 obtain⟨b,e1,_⟩:=iU h hn
 rw[e1,VU] at e
 split at e<;>cases e
 ·exact V2 _
 ·exact Wd _
theorem mN {n:Nat} {a:List bj} (ha:AB n a) (hn:n<=20000):aW ((fq a).bind fun b=>jJ b) fun r=>Gd n r/\r.length<=a.length:=by
 refine aq (D0 ha ii) fun r ⟨h1,h2⟩=>(wi h1.toAB ii).mono fun q hq=> ?_
 rw[hq]
 exact⟨h1,h2⟩
theorem AI {n:Nat} {a b:List bj} (ha:AB n a) (hb:AB n b) (hn:n<=20000):aW (Tp a b) fun r=>Canon (fX a b) r/\(b=[]->r.length<=a.length):=by
 have hle1:a.length<=fX a b:=by
  unfold fX
  have:=Xz (a.length+2) (show 0<b.length+2 by omega)
  omega
 have hle2:b.length<=fX a b:=by
  unfold fX
  have:=Nat.le_mul_of_pos_left (b.length+2) (show 0<a.length+2 by omega)
  omega
 unfold Tp
 refine ar (fun _=>(mN hb hn).mono fun r ⟨h1,h2⟩=>⟨⟨⟨by omega,h1.row,h1.eb⟩,h1.live⟩,fun e=>by subst e;have:r.length<=0:=h2;omega⟩) fun _=>ar (fun _=>(mN ha hn).mono fun r ⟨h1,h2⟩=>⟨⟨⟨by omega,h1.row,h1.eb⟩,h1.live⟩,fun _=>h2⟩) fun h0=> ?_
 exact(mv ha hb hn tD).mono fun r h=>⟨h,fun e=>by subst e;exact absurd rfl h0⟩
theorem Pz {n:Nat} {a b:List bj} (ha:AB n a) (hb:AB n b) (hn:n<=20000):aW (th a b) (Canon (fX a b)):=by
 unfold th
 exact ar (fun _=>aj (Canon.nil _)) fun _=>ar (fun _=>aj (Canon.nil _)) fun _=>mv ha hb hn PA
theorem pb {n:Nat} {a b:List bj} (ha:AB n a) (hb:AB n b) (hn:n<=20000):aW (jP a b) (Canon (fX a b)):=by
 have hle1:a.length<=fX a b:=by
  unfold fX
  have:=Xz (a.length+2) (show 0<b.length+2 by omega)
  omega
 unfold jP
 exact ar (fun _=>aj (Canon.nil _)) fun _=>ar (fun _=>(mN ha hn).mono fun r ⟨h1,h2⟩=>⟨⟨by omega,h1.row,h1.eb⟩,h1.live⟩) fun _=>mv ha hb hn lf
def CW (a:List bj) (less:List Bool):List Bool:=a.map fun x=>x.aI.any fun e=>less.getD e.to.toNat false
def oq (a:List bj):Nat->List Bool
 |0=>a.map (·.acc)
 |k+1=>CW a (oq a k)
theorem pZ (a:List bj):∀k,(oq a k).length=a.length
 |0=>by simp[oq]
 |k+1=>by simp[oq,CW]
theorem nz {a:List bj} (hw:WF a):∀(k s:Nat),s<a.length->((oq a k)[s]? =some true↔Lv a k s)
 |0,s,hs=>by
  unfold oq Lv
  rw[Wt,VV hs]
  constructor
  ·intro h
   simp only[Xv,WN] at h
   exact⟨_,rfl,h⟩
  ·rintro⟨x,h1,h2⟩
   cases h1
   simp[h2]
 |k+1,s,hs=>by
  have hm:=WC hs
  unfold oq CW Lv
  rw[Wt,VV hs]
  simp only[Xv,WN,Yy]
  have key:∀e∈a[s].aI,((oq a k).getD e.to.toNat false=true↔Lv a k e.to.toNat):=fun e he=>by
   have h1:=(hw _ hm).one e he
   have h2:e.to.toNat<a.length:=by omega
   rw[<-nz hw k _ h2,Wg,VV (by rw[pZ];exact h2)]
   simp
  constructor
  ·rintro⟨e,h1,h2⟩
   exact⟨_,rfl,e,h1,((hw _ hm).one e h1).2.1,(key e h1).1 h2⟩
  ·rintro⟨x,h1,e,h2,h3,h4⟩
   cases h1
   exact⟨e,h2,(key e h2).2 h4⟩
theorem BJ {less:List Bool} {n s:Nat} (hn:less.length=n):∀{es:List Sv.Edge} {o:List Bool} {x:Bool},(∀e∈es,0<=e.to/\e.to<n)->o[s]? =some x->aW (TE less s es o) fun r=>r=o.set s (x||es.any fun e=>less.getD e.to.toNat false)
 |[],o,x,_,h=>aj (by
  obtain⟨h1,h2⟩:=VZ.1 h
  rw[List.any_nil,Bool.or_false,<-h2,List.set_getElem_self])
 |e::r,o,x,he,h=>by
  have hs:=(VZ.1 h).1
  obtain⟨h1,h2⟩:=he e (V0 ..)
  have hr:=fun e' h'=>he e' (VX _ h')
  have hself:∀v:Bool,(o.set s v)[s]? =some v:=fun v=>by rw[WV];simp[hs]
  unfold TE
  refine aX ii ii fun x' hx _=> ?_
  rw[show((s:Int)).toNat=s by omega,h] at hx
  cases hx
  refine ar (fun hx1=> ?_) fun hx1=> ?_
  ·refine fh ii ii ((BJ hn (es:=r) (x:=true) hr (hself true)).mono fun q hq=> ?_)
   rw[hq,Yc,hx1]
   simp
  ·refine aX h1 ii fun y hy _=>fh ii ii ?_
   rw[show((s:Int)).toNat=s by omega]
   refine(BJ hn (es:=r) (x:=y) hr (hself y)).mono fun q hq=> ?_
   rw[hq,Yc,List.any_cons,cy hy]
   have:x=false:=by simpa using hx1
   rw[this,Bool.false_or]
theorem Jh {a:List bj} {less:List Bool} (hw:WF a) (hr:∀s∈a,s.aI.length<=256) (hl:less.length=a.length):∀{r:List bj} {i:Nat} {o:List Bool},a.drop i=r->o.length=a.length->(∀j,i<=j->j<a.length->o[j]? =some false)->aW (Vr a less r i o) fun q=>q=o.take i++CW r less
 |[],i,o,h,ho,_=>aj (by
  have:a.length<=i:=by rw[Yj] at h;exact h
  rw[Xa ii]
  simp[CW])
 |x::r,i,o,h,ho,h0=>by
  have hi:i<a.length:=by
   rcases WI i a.length with g|g
   ·exact g
   ·rw[WJ g] at h;cases h
  have hx:a[i]? =some x:=by
   rw[Wo hi] at h
   injection h with h1 _
   rw[<-h1];exact VV hi
  have hd:a.drop (i+1)=r:=by rw[<-XK,h];rfl
  have hm:=V6 hx
  unfold Vr
  refine aX ii ii fun x' hx' _=> ?_
  rw[show((i:Int)).toNat=i by omega,hx] at hx'
  cases hx'
  refine au (by have:=hr x hm;omega) (aq (BJ hl (x:=false) (fun e he=>((hw x hm).one e he).2) (h0 i (V2 _) hi)) fun q hq=> ?_)
  subst hq
  rw[Bool.false_or]
  have e1:((i:Int)+1)=((i+1:Nat):Int):=by omega
  rw[e1]
  refine(Jh hw hr hl hd (by rw[Wb];exact ho) fun j h1 h2=> ?_).mono fun q hq=> ?_
  ·rw[WV]
   simp[show i≠j by omega,h0 j ii h2]
  ·rw[hq,W6,WV]
   simp[show i<o.length by omega,CW,Xx]
theorem Pa {a:List bj} {n:Nat} (h:Gd n a) (hn:n<1000000000) {less:List Bool} (hl:less.length=a.length):aW (Pb a less) fun r=>r=CW a less:=by
 have:=h.len
 unfold Pb
 refine au ii (au ii ((Jh h.wf h.row hl (r:=a) (i:=0) (o:=List.replicate a.length false) rfl (by simp) fun j _ h2=>by rw[W5,HP h2]).mono fun q hq=> ?_))
 rw[hq]
 simp
abbrev Ml (a:List bj) (k:Nat):List (List Bool):=(List.range k).map (oq a)
theorem Ap {a:List bj} {k j:Nat} (h:j<k):(Ml a k)[j]? =some (oq a j):=by
 rw[Wt,Yl h];rfl
def VI (m:Nat) (p:l4×Bool):Prop:=p.2=false/\∃w,p.1=[w]/\w.length=m
theorem Hr {a:List bj} {n:Nat} (h:Gd n a) (hn:n<1000000000) {tb:List (List Bool)} {k:Nat} (htb:tb[k]? =some (oq a k)) (hk:k<1000000000) {rec:S8} {pre:List UInt8} (hp:pre.length<1000000000) (hrec:∀(t:Int) (b:UInt8),0<=t->t<a.length->Lv a k t.toNat->aW (rec t (pre++[b]) []) (VI (pre.length+k+1))):
  ∀{es:List Sv.Edge},(∀e∈es,EB e)->(∀e∈es,e.lo<=e.hi/\0<=e.to/\e.to<a.length)->(∃e∈es,Lv a k e.to.toNat)->aW (PV rec tb ((k+1:Nat):Int) pre es []) (VI (pre.length+k+1))
 |[],_,_,⟨e,he,_⟩=>by cases he
 |e::r,hb,hw,hex=>by
  obtain⟨b1,b2,b3,b4⟩:=hb e (V0 ..)
  obtain⟨w1,w2,w3⟩:=hw e (V0 ..)
  have htl:=(VZ.1 htb).1
  have hrow:(oq a k).length=a.length:=pZ a k
  unfold PV Qa
  refine au ⟨b1,b2⟩ ?_
  rw[VY]
  refine au ⟨b3,b4⟩ ?_
  rw[HP w1,VY]
  refine au ⟨by omega,by omega⟩ ?_
  rw[VY]
  refine aX ii ii fun row hr _=> ?_
  rw[show(((k+1:Nat):Int)-1).toNat=k by omega,htb] at hr
  cases hr
  rw[VY]
  refine aX w2 ii fun ok hok _=> ?_
  cases ok with
  |true=>
   have hlv:Lv a k e.to.toNat:=(nz h.wf k _ ii).1 hok
   rw[HP rfl,VY]
   refine au ⟨b1,b2⟩ ?_
   rw[VY]
   refine bw hp ?_
   rw[VY]
   refine aq (hrec e.to _ w2 w3 hlv) fun p hp2=> ?_
   rw[TP (by rw[hp2.1];decide)]
   exact aj ⟨rfl,hp2.2⟩
  |false=>
   rw[TP (by decide)]
   refine Hr h hn htb hk hp hrec (es:=r) (fun e' h'=>hb e' (VX _ h')) (fun e' h'=>hw e' (VX _ h')) ?_
   obtain⟨e',h1,h2⟩:=hex
   rcases V9.1 h1 with rfl|h1
   ·rw[(nz h.wf k _ ii).2 h2] at hok
    cases hok
   ·exact⟨e',h1,h2⟩
theorem Hq {a:List bj} {n:Nat} (h:Gd n a) (hn:n<1000000000) {tb:List (List Bool)}:∀{k:Nat} {s:Int} {pre:List UInt8},(∀j,j<k->tb[j]? =some (oq a j))->k<1000000000->pre.length+k<1000000000->0<=s->s<a.length->Lv a k s.toNat->aW (LO a tb 1 k s pre []) (VI (pre.length+k))
 |0,s,pre,_,_,hp,_,_,_=>by
  unfold LO wvY
  refine bw (by simp) (au (by simp) ?_)
  rw[HP (by simp)]
  exact aj ⟨rfl,pre,rfl,rfl⟩
 |k+1,s,pre,htb,hk,hp,hs0,UQ,hlv=>by
  unfold LO
  obtain⟨x,hx,e,he,_,hl⟩:=hlv
  refine aX hs0 UQ fun x' hx' hm=> ?_
  rw[hx] at hx'
  cases hx'
  refine au (by have:=h.row x hm;omega) ?_
  refine(Hr h hn (htb k ii) ii ii (fun t b h1 h2 h3=> ?_) (h.eb x hm) (h.wf x hm).one ⟨e,he,hl⟩).mono fun p hp=>by rwa [Xt] at hp
  have:=Hq h hn (tb:=tb) (k:=k) (s:=t) (pre:=pre++[b]) (fun j hj=>htb j ii) ii (by simp;omega) h1 h2 h3
  rw[V7,Ws] at this
  rwa [show pre.length+1+k=pre.length+k+1 by omega] at this
def Hk (a:List bj) (k s:Nat):Prop:=Lv a k s/\∀j,j<k->¬Lv a j s
theorem Rv {a:List bj} {s:Nat}:∀{k:Nat},Lv a k s->∃m,Hk a m s:=fun{k}=>by
 induction k using Nat.strongRecOn with
 |ind k ih=>
  intro h
  by_cases g:∃j,j<k/\Lv a j s
  ·obtain⟨j,h1,h2⟩:=g
   exact ih j h1 h2
  ·exact⟨k,h,fun j h1 h2=>g ⟨j,h1,h2⟩⟩
theorem Lv.lt {a:List bj} {k s:Nat} (h:Lv a k s):s<a.length:=by
 cases k with
 |zero=>obtain⟨x,h1,_⟩:=h;exact(VZ.1 h1).1
 |succ k=>obtain⟨x,h1,_⟩:=h;exact(VZ.1 h1).1
theorem qd {a:List bj}:∀{k s:Nat},Hk a k s->∀d,d<=k->∃t,Hk a d t
 |0,s,h,d,hd=>⟨s,by rw[Yh.1 hd];exact h⟩
 |k+1,s,h,d,hd=>by
  by_cases e:d=k+1
  ·exact⟨s,by rw[e];exact h⟩
  ·obtain⟨⟨x,h1,y,h2,h3,h4⟩,h5⟩:=h
   exact qd (k:=k) (s:=y.to.toNat) ⟨h4,fun j hj hl=>h5 (j+1) ii ⟨x,h1,y,h2,h3,hl⟩⟩ d ii
theorem Ru {a:List bj} {k s:Nat} (h:Hk a k s):k<a.length:=by
 have hr:∃f:Nat->Nat,∀d,d<k+1->Hk a d (f d):=⟨fun d=>if g:d<k+1 then(qd h d ii).choose else 0,fun d g=>by
  simp only[g,dif_pos]
  exact(qd h d ii).choose_spec⟩
 obtain⟨f,hf⟩:=hr
 exact Gf (m:=k+1) f (fun i hi=>(hf i hi).1.lt) fun i j hi hj e=>by
  rcases X8 i j with g|g|g
  ·exact absurd (e▸(hf i hi).1) ((hf j hj).2 i g)
  ·exact g
  ·exact absurd (e▸(hf j hj).1) ((hf i hi).2 j g)
theorem DS {v:Bool}:∀{l:List Bool} {i:Int},v∈l->aW (Gx v l i) fun k=>i<=k
 |[],i,h=>by cases h
 |x::r,i,h=>by
  unfold Gx
  refine ar (fun _=>aj (Wv _)) fun g=> ?_
  have hr:v∈r:=by
   rcases V9.1 h with rfl|h
   ·exact(g (by simp)).elim
   ·exact h
  exact(DS hr).mono fun k hk=>by omega
theorem OP {l:List Bool} {v:Bool} (h:l.length<=1000000000) (hv:v∈l):K7 l v=some true:=by
 obtain⟨k,h1,h2⟩:=DS (i:=0) hv
 unfold K7
 rw[show aR l=some () from HP h,VU,h1,VU,Xd h2]
def NoW (m:Nat) (p:l4×Bool):Prop:=∃w,p.1=[w]/\w.length<=m
theorem Hw {a:List bj} {n:Nat} (h:Gd n a) (hn:n<400000000) {k m:Nat} (hkm:k<=m) (hm:m<a.length) {rec:Nat->List (List Bool)->l4->Option (l4×Bool)} (hmin:Hk a m 0) (hrec:k<m->aW (rec (k+1) (Ml a (k+1)) []) (NoW m)):aW (wdX rec a 1 k (Ml a (k+1)) []) (NoW m):=by
 have hlen:=h.len
 have hrl:=pZ a k
 have htl:(Ml a (k+1)).length=k+1:=by simp
 unfold wdX
 refine aX ii ii fun r hr _=> ?_
 rw[show((k:Int)).toNat=k by omega,Ap (k:=k+1) (j:=k) ii] at hr
 cases hr
 have hlv:=hmin.1
 have hnot:=hmin.2
 obtain⟨t,ht,_⟩:=qd hmin k hkm
 rw[OP ii (V6 ((nz h.wf k t ht.lt).2 ht)),VU,HP rfl]
 refine au ii (au ⟨by omega,by omega⟩ (au ii ?_))
 have hlast:((Ml a (k+1)).take (k+1)).drop k=[oq a k]:=by
  rw[Xa ii,Wo ii,WJ ii]
  have:=Ap (a:=a) (k:=k+1) (j:=k) ii
  rw[VV ii] at this
  injection this with this
  rw[this]
 rw[hlast]
 unfold HW
 rw[VY]
 refine aX (Wv _) (by simp) fun r hr _=> ?_
 cases hr
 rw[VY]
 refine aX (Wv _) ii fun b hb _=> ?_
 cases b with
 |true=>
  have hlv:=(nz h.wf k 0 ii).1 hb
  have hkm':k=m:=by
   rcases WI k m with g|g
   ·exact absurd hlv (hnot k g)
   ·omega
  rw[HP rfl]
  refine aq (Hq h ii (k:=k) (s:=0) (pre:=[]) (fun j hj=>Ap ii) ii (by simp;omega) (Wv _) ii hlv) fun p hp=> ?_
  rw[TP (by rw[hp.1];decide)]
  obtain⟨_,w,h1,h2⟩:=hp
  exact aj ⟨w,h1,by rw[h2];simp;omega⟩
 |false=>
  rw[TP (by decide),VU,HP rfl]
  rcases WI k m with g|g
  ·exact hrec g
  ·have hkm':k=m:=by omega
   subst hkm'
   have:=(nz h.wf k 0 ii).2 hlv
   rw[show(0:Int).toNat=0 from rfl,this] at hb
   cases hb
theorem Hx {a:List bj} {n:Nat} (h:Gd n a) (hn:n<400000000) {m:Nat} (hm:m<a.length) (hmin:Hk a m 0):∀{f k:Nat},k<=m->m+1<=f+k->aW (PW a 1 f k (Ml a (max k 1)) []) (NoW m)
 |0,k,h1,h2=>by omega
 |f+1,k,h1,h2=>by
  have hlen:=h.len
  unfold PW
  refine au ii ?_
  rw[HP ii]
  have hrec:k<m->aW (PW a 1 f (k+1) (Ml a (k+1)) []) (NoW m):=fun g=>by
   have:=Hx h hn hm hmin (f:=f) (k:=k+1) ii ii
   rwa [show max (k+1) 1=k+1 by omega] at this
  refine ar (fun hk=> ?_) fun hk=> ?_
  ·have hmax:max k 1=k:=by omega
   rw[hmax]
   have htl:(Ml a k).length=k:=by simp
   refine au ⟨by omega,by omega⟩ (aX ii ii fun r hr _=> ?_)
   rw[show((k:Int)-1).toNat=k-1 by omega,Ap (show k-1<k by omega)] at hr
   cases hr
   refine aq (Pa h ii (pZ a _)) fun r' hr'=>bw ii ?_
   have e:Ml a k++[r']=Ml a (k+1):=by
    unfold Ml
    rw[List.range_succ,W2,hr']
    have:CW a (oq a (k-1))=oq a k:=by
     conv=>rhs;rw[show k=(k-1)+1 by omega]
     rfl
    rw[this]
    rfl
   rw[e]
   exact Hw h hn h1 hm hmin hrec
  ·have hk0:k=0:=by omega
   subst hk0
   exact Hw h hn h1 hm hmin hrec
theorem Hy {a:List bj} (hn:a.length<1000000000):∀{r:List bj} {i:Nat} {l:List Bool},a.drop i=r->l.length=i->aW (TS a r i l) fun q=>q=l++r.map (·.acc)
 |[],i,l,_,_=>aj (by simp)
 |x::r,i,l,h,hl=>by
  have hi:i<a.length:=by
   rcases WI i a.length with g|g
   ·exact g
   ·rw[WJ g] at h;cases h
  have hx:a[i]? =some x:=by
   rw[Wo hi] at h
   injection h with h1 _
   rw[<-h1];exact VV hi
  have hd:a.drop (i+1)=r:=by rw[<-XK,h];rfl
  unfold TS
  refine aX ii ii fun x' hx' _=> ?_
  rw[show((i:Int)).toNat=i by omega,hx] at hx'
  cases hx'
  have e1:((i:Int)+1)=((i+1:Nat):Int):=by omega
  rw[e1]
  refine bw ii ((Hy hn hd (by simp[hl])).mono fun q hq=> ?_)
  rw[hq]
  simp
theorem FI {a:List bj} {n:Nat} (h:AB n a) (hn:n<400000000):aW (ug a 1) fun l=>l=[]/\fq a=some []\/∃w,l=[w]/\w.length<=n/\fq a≠some []:=by
 unfold ug Ae
 rw[TP (by decide)]
 obtain⟨a',hg,ha,hle⟩:=D0 h (show n<900000000 by omega)
 rw[hg,VU,VU]
 have hl:=h.len
 unfold wdM
 rw[VY]
 refine au ii ?_
 rw[VY]
 refine aq (Hy ii (r:=a') (i:=0) (l:=[]) rfl rfl) fun r hr=> ?_
 subst hr
 rcases W8 a'.length with h0|h0
 ·unfold Hz PW
  rw[VY]
  refine au ii ?_
  rw[TP ii]
  exact aj (.inl ⟨rfl,by rw[Wn.1 h0]⟩)
 ·obtain⟨k,hk⟩:=ha.live 0 h0
  obtain⟨m,hm⟩:=Rv hk
  have hml:=Ru hm
  refine aq (Hx ha hn hml hm (f:=Hz a' 1) (k:=0) (Wd _) (by
   unfold Hz
   rw[TP (by decide)]
   have:(1:Int).toNat=1:=rfl
   rw[this]
   omega)) fun p hp=>aj ?_
  obtain⟨w,hp,hw⟩:=hp
  exact .inr ⟨w,hp,by omega,fun e=>by rw[Wm e] at h0;exact Nat.lt_irrefl 0 h0⟩
theorem vD {a:List bj} {n:Nat} (h:AB n a) (hn:n<400000000):aW (ln a) fun r=>r.1.length<=n/\(r.2=true↔fq a≠some []):=by
 unfold ln
 refine aq (FI h hn) fun l hl=> ?_
 rcases hl with⟨rfl,hg⟩|⟨w,rfl,hw,hg⟩
 ·exact au (by simp) (by rw[HP (by simp)];exact aj ⟨Wd _,by simp,fun e=>(e hg).elim⟩)
 ·refine au (by simp) ?_
  rw[TP (by simp)]
  exact aX (Wv _) (by simp) fun x hx _=>by
   cases hx
   exact aj ⟨hw,fun _=>hg,fun _=>rfl⟩
theorem pf {a:List bj} {n:Nat} (h:AB n a) (hn:n<400000000):aW (ln a) fun r=>r.1.length<=n:=(vD h hn).mono fun r hr=>hr.1
end Go.Proofs.YtcejopopgcglpaaGreatDoor
