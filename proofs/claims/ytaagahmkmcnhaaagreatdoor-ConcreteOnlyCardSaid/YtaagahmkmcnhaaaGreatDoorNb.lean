/- For ConcreteOnly and ConcreteBack: numbers, scalars, classes, values. -/
import Derived.Test.YtaagahmkmcnhaaaGreatDoorNa
import Derived.Test.YtaagahmkmcnhaaaGreatDoorMe
set_option linter.unusedVariables false
set_option linter.unusedSimpArgs false
set_option linter.unusedSectionVars false
namespace Go.Proofs.YtaagahmkmcnhaaaGreatDoor
open Sv
theorem Ml (x y:Int):bu (IZ x y) fun _=>True:=by
 unfold IZ Iu
 rw[HP,HP,Ti (by decide),Ti (by decide)]
 exact ak (fun _=>aj trivial) fun _=>ak (fun _=>aj trivial) fun _=>aj trivial
theorem KD {n:Nat} {a b:List ba} (ha:a.length<=n) (hb:b.length<=n) (hn:n<=19000):mi a b<400000000:=by
 unfold mi
 have:(a.length+2)*(b.length+2)<=19002*19002:=UI ii ii
 omega
theorem Ck {α:Type} {cmp:α->α->Option Int} {A:α->Prop} (hc:∀x y,A x->A y->bu (cmp x y) fun _=>True):∀{f:Nat} {l:List α} {j:Nat},(∀x∈l,A x)->j<l.length->l.length<=12->j<f->bu (lO cmp 0 f l j) fun r=>r.length=l.length/\(∀x∈r,A x)/\r.Perm l
 |0,l,j,_,_,_,h=>by omega
 |f+1,l,j,hl,hj,h12,hf=>by
  unfold lO
  refine ak (fun h0=> ?_) fun _=>aj ⟨rfl,hl,List.Perm.refl _⟩
  have e1:((j:Int)-1)=((j-1:Nat):Int):=by omega
  refine a7 ii ii fun x hx hxm=>ar ⟨by omega,by omega⟩ ?_
  rw[e1]
  refine a7 ii ii fun y hy hym=>au (hc x y (hl x hxm) (hl y hym)) fun c _=>ak (fun _=> ?_) fun _=>aj ⟨rfl,hl,List.Perm.refl _⟩
  refine a7 ii ii fun y' hy' _=>a7 ii ii fun x' hx' _=> ?_
  rw[hy] at hy'
  cases hy'
  rw[hx] at hx'
  cases hx'
  rw[show((j:Int)).toNat=j by omega] at hx
  rw[show(((j-1:Nat):Int)).toNat=j-1 by omega] at hy
  refine eZ ii ii (eZ ii (by rw[Tx];omega) ?_)
  rw[show((j:Int)).toNat=j by omega,show(((j-1:Nat):Int)).toNat=j-1 by omega]
  have hA:∀z∈(l.set j y).set (j-1) x,A z:=fun z hz=>by
   rcases Uy hz with hz|rfl
   ·rcases Uy hz with hz|rfl
    ·exact hl z hz
    ·exact hl _ hym
   ·exact hl _ hxm
  refine(Ck hc (f:=f) (l:=(l.set j y).set (j-1) x) (j:=j-1) hA (by simp;omega) (by simp;omega) ii).mono fun r ⟨g1,g2,g3⟩=>⟨by rw[g1];simp,g2,g3.trans ?_⟩
  have hy':=(Tk.1 hy).2
  have hx':=(Tk.1 hx).2
  have:= @List.set_set_perm _ l j (j-1) hj ii
  rwa [hy',hx'] at this
theorem Cm {α:Type} {cmp:α->α->Option Int} {A:α->Prop} (hc:∀x y,A x->A y->bu (cmp x y) fun _=>True):∀{f:Nat} {l:List α} {i n:Nat},(∀x∈l,A x)->l.length=n->n<=12->n<f+i->1<=f->bu (fM cmp 0 n f l i) fun r=>r.length=l.length/\(∀x∈r,A x)/\r.Perm l
 |0,l,i,n,hl,hn,h12,hf,h1=>by omega
 |f+1,l,i,n,hl,hn,h12,hf,h1=>by
  have e1:((i:Int)+1)=((i+1:Nat):Int):=by omega
  unfold fM
  refine ak (fun h0=> ?_) fun _=>aj ⟨rfl,hl,List.Perm.refl _⟩
  refine au (Ck hc (f:=l.length+1) (l:=l) (j:=i) hl ii ii ii) fun r ⟨g1,g2,g3⟩=>ar ⟨by omega,by omega⟩ ?_
  rw[e1]
  exact(Cm hc (f:=f) (l:=r) (i:=i+1) (n:=n) g2 ii h12 ii ii).mono fun q ⟨h1,h2,h3⟩=>⟨by omega,h2,h3.trans g3⟩
theorem Ka {α:Type} {cmp:α->α->Option Int} {A:α->Prop} (hc:∀x y,A x->A y->bu (cmp x y) fun _=>True) {l:List α} (hl:∀x∈l,A x) (h12:l.length<=12):bu (iJ cmp l) fun r=>r.length=l.length/\(∀x∈r,A x)/\r.Perm l:=by
 unfold iJ
 refine ar ii ?_
 rw[Th ii]
 exact Cm hc (f:=l.length+1) (i:=1) (n:=l.length) hl rfl h12 ii ii
structure rG (B:Int) (k:Nat) (l:List Sv.Span):Prop where
 len:l.length<=k
 eG:∀s∈l,-B<=s.lo/\s.lo<=B/\ -B<=s.hi/\s.hi<=B
theorem rG.mono {B C:Int} {k m:Nat} {l:List Sv.Span} (h:rG B k l) (hB:B<=C) (hk:k<=m):rG C m l:=⟨TR h.len hk,fun s hs=>by have:=h.eG s hs;omega⟩
def Hk (k:Nat) (l:List Sv.Span):Prop:=l.length<=k/\∀s∈l,-9223372036854775808<=s.lo/\s.lo<9223372036854775808/\ -9223372036854775808<=s.hi/\s.hi<9223372036854775808
theorem rG.Ng {B:Int} {k:Nat} {l:List Sv.Span} (h:rG B k l) (hB:B<=1000000000000000000):Hk k l:=⟨h.len,fun s hs=>by have:=h.eG s hs;omega⟩
structure Sp (l:List Sv.Span):Prop where
 ord:∀s∈l,s.lo<=s.hi
 pw:l.Pairwise fun x y=>x.hi<y.lo
theorem Sp.nil:Sp []:=⟨fun s h=>(by cases h),List.Pairwise.nil⟩
theorem Sp.push {l:List Sv.Span} (h:Sp l) {p s:Sv.Span} (hp:l[l.length-1]? =some p) (h1:p.hi<s.lo) (h2:s.lo<=s.hi):Sp (l++[s]):=by
 refine⟨fun z hz=> ?_,T1.2 ⟨h.pw,by simp,fun z hz y hy=> ?_⟩⟩
 ·rcases Tz.1 hz with hz|hz
  ·exact h.ord z hz
  ·rw[To.1 hz];exact h2
 ·rw[To.1 hy]
  obtain⟨i,hi⟩:=TJ.1 hz
  obtain⟨hil,hiz⟩:=Tk.1 hi
  obtain⟨hpl,hpz⟩:=Tk.1 hp
  by_cases e:i=l.length-1
  ·subst e
   rw[hp] at hi
   cases hi
   exact h1
  ·have:=T5.1 h.pw i (l.length-1) hil hpl ii
   rw[hiz,hpz] at this
   have:=h.ord p (Ts hp)
   omega
theorem Sp.last {l:List Sv.Span} (h:Sp l) {p:Sv.Span} (hp:l[l.length-1]? =some p) {v:Int} (hv:p.hi<=v):Sp (l.set (l.length-1) ⟨p.lo,v⟩):=by
 obtain⟨hpl,hpz⟩:=Tk.1 hp
 have hpo:=h.ord p (Ts hp)
 refine⟨fun z hz=> ?_,T5.2 fun i j hi hj hij=> ?_⟩
 ·rcases Uy hz with hz|rfl
  ·exact h.ord z hz
  ·show p.lo<=v
   omega
 ·rw[Tx] at hi hj
  have h1:=T5.1 h.pw i j hi hj hij
  rw[List.getElem_set,List.getElem_set,Ti ii]
  split
  ·rename_i e
   subst e
   rw[hpz] at h1
   exact h1
  ·exact h1
theorem ri {next:Int->Option Int} {B:Int} (hB:B<=1000000000000000000) (hn:∀x,-B<=x->x<=B->bu (next x) fun m=>x<=m):∀{r out:List Sv.Span} {k:Nat},k<=1000000->rG B k r->(∀s∈r,s.lo<=s.hi)->rG B k out->Sp out->r.length+out.length<=k->bu (iK next r out) fun o=>rG B k o/\Sp o
 |[],out,k,_,_,_,h,h',_=>aj ⟨h,h'⟩
 |s::r,out,k,hk,h1,ho,h2,h2',h3=>by
  rw[Tu] at h3
  have hs:=h1.eG s (Tn ..)
  have hso:=ho s (Tn ..)
  have hr:rG B k r:=⟨by omega,fun s hs=>h1.eG s (Tm _ hs)⟩
  have hro:∀s∈r,s.lo<=s.hi:=fun s hs=>ho s (Tm _ hs)
  have hadd:Sp (out++[s])->bu ((push out s).bind fun out=>iK next r out) fun o=>rG B k o/\Sp o:=fun hsp=>b7 ii (ri hB hn hk hr hro ⟨by simp;omega,fun z hz=>by
   rcases Tz.1 hz with hz|hz
   ·exact h2.eG z hz
   ·rw[To.1 hz];exact hs⟩ hsp (by simp;omega))
  unfold iK
  refine ar ii (ak (fun h0=> ?_) fun h0=>hadd ?_)
  ·refine a7 ii ii fun p hp hpm=>au (hn p.hi (by have:=h2.eG p hpm;omega) (by have:=h2.eG p hpm;omega)) fun q hq=> ?_
   rw[show((out.length:Int)-1).toNat=out.length-1 by omega] at hp
   refine ak (fun _=> ?_) fun h5=>hadd (h2'.push hp ii hso)
   refine a7 ii ii fun p' hp' hpm'=>FI ii ii fun z hz hzm=> ?_
   rw[show((out.length:Int)-1).toNat=out.length-1 by omega] at hp' hz⊢
   rw[hp] at hp' hz
   cases hp'
   cases hz
   have key: -B<=mx p.hi s.hi/\mx p.hi s.hi<=B/\p.hi<=mx p.hi s.hi:=by
    have g1:=h2.eG p hzm
    unfold mx;split<;>omega
   refine ri hB hn hk hr hro ⟨by rw[Tx];exact h2.len,fun y hy=> ?_⟩ (h2'.last hp key.2.2) (by rw[Tx];omega)
   rcases Uy hy with hy|rfl
   ·exact h2.eG y hy
   ·have g1:=h2.eG p hzm
    exact⟨g1.1,g1.2.1,key.1,key.2.1⟩
  ·have:out=[]:=TH.1 ii
   subst this
   exact⟨fun z hz=>by rw[To.1 hz];exact hso,by simp⟩
theorem uU {next:Int->Option Int} {B:Int} (hB:B<=1000000000000000000) (hn:∀x,-B<=x->x<=B->bu (next x) fun m=>x<=m) {l:List Sv.Span} {k:Nat} (hk:k<=12) (h:rG B k l) (ho:∀s∈l,s.lo<=s.hi):bu (jZ next l) fun o=>rG B k o/\Sp o:=by
 have hl:=h.len
 unfold jZ
 refine ar ii (au (Ka (A:=fun s=>(-B<=s.lo/\s.lo<=B/\ -B<=s.hi/\s.hi<=B)/\s.lo<=s.hi) (fun x y _ _=>by
  unfold yE
  exact au (Ml _ _) fun _ _=>aj trivial) (fun s hs=>⟨h.eG s hs,ho s hs⟩) ii) fun r ⟨g1,g2,_⟩=>ar ii ?_)
 exact ri hB hn ii ⟨by omega,fun s hs=>(g2 s hs).1⟩ (fun s hs=>(g2 s hs).2) ⟨TC _,fun s hs=>by cases hs⟩ Sp.nil (by simp;omega)
theorem zM:∀{r out:List Sv.Span} {k:Nat},k<=1000000->rG 100000000000 k out->(∀s∈out,s.lo<=s.hi)->r.length+out.length<=k->bu (Jv r out) fun o=>rG 100000000000 k o/\∀s∈o,s.lo<=s.hi
 |[],out,k,_,h,h',_=>aj ⟨h,h'⟩
 |x::r,out,k,hk,h,h',hl=>by
  rw[Tu] at hl
  unfold Jv
  refine ak (fun h0=>b7 ii ?_) fun _=>zM hk h h' ii
  refine zM hk ⟨by simp;omega,fun z hz=> ?_⟩ (fun z hz=> ?_) (by simp;omega)
  rotate_left
  ·rcases Tz.1 hz with hz|hz
   ·exact h' z hz
   ·rw[To.1 hz];exact h0
  rcases Tz.1 hz with hz|hz
  ·exact h.eG z hz
  ·rw[To.1 hz]
   have g1: -100000000000<=mx x.lo (-100000000000):=by unfold mx;split<;>omega
   have g2:mn x.hi 100000000000<=100000000000:=by unfold mn;split<;>omega
   exact⟨g1,Vj h0 g2,Vj g1 h0,g2⟩
theorem J5 {n:Int} (h1: -1000000000000000<=n) (h2:n<9223372036854775808):bu (Bi n) fun m=>n<=m:=by
 unfold Bi
 refine ak (fun h=>ar ⟨by omega,?_⟩ (aj ii)) fun _=>aj (TM _)
 by_cases e:n=9223372036854775807
 ·subst e
  exact absurd h (by decide)
 ·omega
theorem J7 {n:Int} (h1: -9223372036854775808<=n) (h2:n<=1000000000000000):bu (zf n) fun m=>m<=n:=by
 unfold zf
 refine ak (fun h=>ar ⟨?_,by omega⟩ (aj ii)) fun _=>aj (TM _)
 by_cases e:n= -9223372036854775808
 ·subst e
  exact absurd h (by decide)
 ·omega
theorem zO:∀{r out:List Sv.Span} {k:Nat},k<=1000000->Hk k r->rG 1000000000000000 k out->(∀s∈out,s.lo<=s.hi)->r.length+out.length<=k->bu (Jw r out) fun o=>rG 1000000000000000 k o/\∀s∈o,s.lo<=s.hi
 |[],out,k,_,_,h,h',_=>aj ⟨h,h'⟩
 |x::r,out,k,hk,hi,h,h',hl=>by
  rw[Tu] at hl
  have hx:=hi.2 x (Tn ..)
  have hr:Hk k r:=⟨by omega,fun s hs=>hi.2 s (Tm _ hs)⟩
  unfold Jw
  refine au (J5 (n:=mx x.lo (-1000000000000000)) (by unfold mx;split<;>omega) (by unfold mx;split<;>omega)) fun lo hlo=> ?_
  refine au (J7 (n:=mn x.hi 1000000000000000) (by unfold mn;split<;>omega) (by unfold mn;split<;>omega)) fun hi' hhi=> ?_
  have g1: -1000000000000000<=lo:=Vj (by unfold mx;split<;>omega) hlo
  have g2:hi'<=1000000000000000:=Vj hhi (by unfold mn;split<;>omega)
  refine ak (fun h0=>b7 ii ?_) fun _=>zO hk hr h h' ii
  refine zO hk hr ⟨by simp;omega,fun z hz=> ?_⟩ (fun z hz=> ?_) (by simp;omega)
  rotate_left
  ·rcases Tz.1 hz with hz|hz
   ·exact h' z hz
   ·rw[To.1 hz];exact h0
  rcases Tz.1 hz with hz|hz
  ·exact h.eG z hz
  ·rw[To.1 hz]
   show -1000000000000000<=lo/\lo<=_/\ -1000000000000000<=hi'/\hi'<=_
   omega
structure NB (k:Nat) (n:cO):Prop where
 i:rG 100000000000 k n.ints
 f:rG 1000000000000000 k n.bz
 si:Sp n.ints
 sf:Sp n.bz
structure sJ (k:Nat) (n:cO):Prop where
 i:Hk k n.ints
 f:Hk k n.bz
theorem NB.i64 {k:Nat} {n:cO} (h:NB k n):sJ k n:=⟨h.i.Ng ii,h.f.Ng ii⟩
theorem xi {n:Int} (h1: -1000000000000<=n) (h2:n<=1000000000000):bu (whole n) fun m=>m=n+1:=by
 unfold whole
 exact ar ⟨by omega,by omega⟩ (aj rfl)
theorem ML {n:Int} (h1: -1000000000000<=n) (h2:n<=1000000000000):bu (back n) fun m=>m=n-1:=by
 unfold back
 exact ar ⟨by omega,by omega⟩ (aj rfl)
theorem yT {n:Int} (h1: -10000000000000000<=n) (h2:n<=10000000000000000):bu (after n) fun m=>n<m/\m<=n+2:=by
 unfold after
 exact ar ⟨by omega,by omega⟩ (ak (fun _=>ar ⟨by omega,by omega⟩ (aj ⟨by omega,by omega⟩)) fun _=>aj ⟨by omega,by omega⟩)
theorem Fe {n:Int} (h1: -10000000000000000<=n) (h2:n<=10000000000000000):bu (before n) fun m=>n-2<=m/\m<n:=by
 unfold before
 exact ar ⟨by omega,by omega⟩ (ak (fun _=>ar ⟨by omega,by omega⟩ (aj ⟨by omega,by omega⟩)) fun _=>aj ⟨by omega,by omega⟩)
theorem ec {k:Nat} (hk:k<=12) {s:cO} (h:sJ k s):bu (fG s) (NB k):=by
 have h1:=h.i.1
 have h2:=h.f.1
 have nil:∀B,rG B k []:=fun B=>⟨TC _,fun s hs=>by cases hs⟩
 unfold fG
 refine ar ii (au (zM (k:=k) ii (nil _) (fun s hs=>by cases hs) (by simp;omega)) fun i ⟨hi,hio⟩=>ar ii (au (zO (k:=k) ii h.f (nil _) (fun s hs=>by cases hs) (by simp;omega)) fun f ⟨hf,hfo⟩=> ?_))
 refine au (uU ii (fun x h1 h2=>(xi ii ii).mono fun _ h=>by omega) hk hi hio) fun i' ⟨hi',hi2⟩=>au (uU ii (fun x h1 h2=>(yT ii ii).mono fun _ h=>by omega) hk hf hfo) fun f' ⟨hf',hf2⟩=>aj ⟨hi',hf',hi2,hf2⟩
def ov (x y:Sv.Span):Bool:=decide (mx x.lo y.lo<=mn x.hi y.hi)
def Mj (a b:List Sv.Span):Nat:=(a.map fun x=>b.countP (ov x)).sum
theorem mK (x:Sv.Span) (a b:List Sv.Span):Mj (x::a) b=b.countP (ov x)+Mj a b:=by simp[Mj]
theorem PG (a:List Sv.Span) (y:Sv.Span) (b:List Sv.Span):Mj a (y::b)=a.countP (fun x=>ov x y)+Mj a b:=by
 induction a with
 |nil=>rfl
 |cons x a ih=>
  rw[mK,mK,ih,UH,UH]
  omega
theorem Qu {x y:Sv.Span} (h:x.hi<y.lo\/y.hi<x.lo):ov x y=false:=by
 unfold ov
 rw[decide_eq_false_iff_not]
 intro h1
 have g1:x.lo<=mx x.lo y.lo/\y.lo<=mx x.lo y.lo:=by unfold mx;split<;>omega
 have g2:mn x.hi y.hi<=x.hi/\mn x.hi y.hi<=y.hi:=by unfold mn;split<;>omega
 omega
theorem Sp.tail {x:Sv.Span} {l:List Sv.Span} (h:Sp (x::l)):Sp l:=⟨fun s hs=>h.ord s (Tm _ hs),(TW.1 h.pw).2⟩
theorem ES:∀(n:Nat) {a b:List Sv.Span},a.length+b.length<=n->Sp a->Sp b->Mj a b<=a.length+b.length
 |_,[],b,_,_,_=>TC _
 |_,x::a,[],_,_,_=>by
  have:Mj (x::a) []=0:=by
   unfold Mj
   generalize x::a=l
   induction l with
   |nil=>rfl
   |cons z l ih=>rw[Uo,List.sum_cons,ih];rfl
  rw[this]
  exact TC _
 |0,x::a,y::b,h,_,_=>by simp at h
 |n+1,x::a,y::b,h,ha,hb=>by
  rw[Tu,Tu] at*
  have hb':∀z∈b,y.hi<z.lo:=(TW.1 hb.pw).1
  have ha':∀z∈a,x.hi<z.lo:=(TW.1 ha.pw).1
  have hy:=hb.ord y (Tn ..)
  have hx:=ha.ord x (Tn ..)
  have i1:=ES n (a:=a) (b:=y::b) (by rw[Tu];omega) ha.tail hb
  have i2:=ES n (a:=x::a) (b:=b) (by rw[Tu];omega) ha hb.tail
  rw[Tu] at i1 i2
  by_cases h1:x.hi<=y.hi
  ·have:(y::b).countP (ov x)<=1:=by
    rw[UH]
    have:b.countP (ov x)=0:=List.countP_eq_zero.2 fun z hz=>by rw[Qu (.inl (by have:=hb' z hz;omega))];decide
    split<;>omega
   rw[mK]
   omega
  ·have:(x::a).countP (fun x=>ov x y)<=1:=by
    rw[UH]
    have:a.countP (fun x=>ov x y)=0:=List.countP_eq_zero.2 fun z hz=>by
     show¬ov z y=true
     rw[Qu (.inr (by have:=ha' z hz;omega))];decide
    split<;>omega
   rw[PG]
   omega
theorem rA {B:Int} {x:Sv.Span} (hx: -B<=x.lo/\x.lo<=B/\ -B<=x.hi/\x.hi<=B):∀{r out:List Sv.Span},(∀s∈r,-B<=s.lo/\s.lo<=B/\ -B<=s.hi/\s.hi<=B)->(∀s∈out,-B<=s.lo/\s.lo<=B/\ -B<=s.hi/\s.hi<=B)->r.length+out.length<1000000000->bu (ou x r out) fun o=>o.length=out.length+r.countP (ov x)/\∀s∈o,-B<=s.lo/\s.lo<=B/\ -B<=s.hi/\s.hi<=B
 |[],out,_,h,_=>aj ⟨rfl,h⟩
 |y::r,out,hr,h,hl=>by
  rw[Tu] at hl
  have hy:=hr y (Tn ..)
  have hr':=fun s hs=>hr s (Tm _ hs)
  unfold ou
  refine ak (fun h0=>b7 ii ?_) fun h0=> ?_
  ·refine(rA hx (r:=r) hr' (fun s hs=> ?_) (by simp;omega)).mono fun o ⟨g1,g2⟩=>⟨?_,g2⟩
   ·rcases Tz.1 hs with hs|hs
    ·exact h s hs
    ·rw[To.1 hs]
     have g1: -B<=mx x.lo y.lo/\mx x.lo y.lo<=B:=by unfold mx;split<;>omega
     have g2: -B<=mn x.hi y.hi/\mn x.hi y.hi<=B:=by unfold mn;split<;>omega
     exact⟨g1.1,g1.2,g2.1,g2.2⟩
   ·have:ov x y=true:=by unfold ov;exact Uc h0
    rw[g1,UH,this]
    simp
    omega
  ·refine(rA hx (r:=r) hr' h ii).mono fun o ⟨g1,g2⟩=>⟨?_,g2⟩
   have:ov x y=false:=by unfold ov;exact Uf h0
   rw[g1,UH,this]
   simp
theorem Mi {B:Int} {b:List Sv.Span} {k:Nat} (hb:rG B k b) (hk:k<=1000) (r:List Sv.Span):∀(out:List Sv.Span),(∀s∈r,-B<=s.lo/\s.lo<=B/\ -B<=s.hi/\s.hi<=B)->(∀s∈out,-B<=s.lo/\s.lo<=B/\ -B<=s.hi/\s.hi<=B)->out.length+Mj r b<900000000->bu (Aj b r out) fun o=>o.length=out.length+Mj r b/\∀s∈o,-B<=s.lo/\s.lo<=B/\ -B<=s.hi/\s.hi<=B:=by
 induction r with
 |nil=>
  intro out _ h _
  exact aj ⟨by simp[Mj],h⟩
 |cons x r ih=>
  intro out hr h hl
  rw[mK] at hl
  have hbl:=hb.len
  unfold Aj
  refine ar ii (au (rA (hr x (Tn ..)) hb.eG h ii) fun o ⟨g1,g2⟩=> ?_)
  have hcp:b.countP (ov x)<=b.length:=List.countP_le_length
  refine(ih o (fun s hs=>hr s (Tm _ hs)) g2 ii).mono fun q ⟨h1,h2⟩=>⟨?_,h2⟩
  rw[h1,g1,mK]
  omega
theorem vB {B:Int} {a b:List Sv.Span} {k m:Nat} (ha:rG B k a) (hb:rG B m b) (hk:k<=1000) (hm:m<=1000) (sa:Sp a) (sb:Sp b):bu (jU a b) (rG B (k+m)):=by
 have h1:=ha.len
 have h2:=hb.len
 unfold jU
 have hc:=ES _ (Tp _) sa sb
 refine ar ii ((Mi hb hm a [] ha.eG (fun s hs=>by cases hs) (by rw[T0];omega)).mono fun o ⟨g1,g2⟩=>⟨?_,g2⟩)
 rw[g1,T0]
 omega
theorem sh {b:List Sv.Span}:∀{r:List Sv.Span} {i:Nat},i+r.length=b.length->bu (iU b r i) fun t=>t=true->r=b.drop i
 |[],i,h=>aj fun _=>by
  rw[T0] at h
  exact(TV ii).symm
 |x::r,i,h=>by
  rw[Tu] at h
  unfold iU
  refine a7 ii ii fun y hy hm=>ak (fun h1=> ?_) fun _=>aj fun h=>by cases h
  have e1:((i:Int)+1)=((i+1:Nat):Int):=by omega
  rw[e1]
  refine(sh (r:=r) (i:=i+1) ii).mono fun t h2 h3=> ?_
  rw[show((i:Int)).toNat=i by omega] at hy
  have hi:i<b.length:=by omega
  have hxy:x=y:=by
   unfold D4 at h1
   simp only[Tw,Ul,and_true] at h1
   cases x
   cases y
   simp only at h1
   rw[h1.1,h1.2]
  rw[TN hi,h2 h3,hxy]
  rw[Tj hi] at hy
  cases hy
  rfl
theorem mG {a b:List Sv.Span} (h:a.length<=1000000000):bu (gW a b) fun t=>t=true->a=b:=by
 unfold gW
 exact ak (fun h1=>ar h (sh (r:=a) (i:=0) ii)) fun _=>aj fun h=>by cases h
theorem H7 {a b:cO} {k:Nat} (hk:k<=12) (h:sJ k a):bu (xu a b) fun t=>t=true->a=b:=by
 have h1:=h.i.1
 have h2:=h.f.1
 unfold xu
 refine au (mG ii) fun p hp=>ak (fun h3=>(mG ii).mono fun t ht e=> ?_) fun _=>aj fun h=>by cases h
 have g1:=hp h3
 have g2:=ht e
 cases a
 cases b
 simp only at g1 g2
 rw[g1,g2]
theorem DV {a:cO} {k:Nat} (hk:k<=12) (h:sJ k a):bu (oG a) fun t=>t=true->NB k a:=by
 unfold oG
 exact au (ec hk h) fun b hb=>(H7 hk h).mono fun t ht e=>by rw[ht e];exact hb
theorem MR {a b:cO} {k m:Nat} (hkm:k+m<=12) (ha:sJ k a) (hb:sJ m b):bu (Fk a b) (NB (k+m)):=by
 unfold Fk
 refine au (ec ii ha) fun x hx=>au (ec ii hb) fun y hy=> ?_
 refine au (vB hx.i hy.i ii ii hx.si hy.si) fun i hi=>au (vB hx.f hy.f ii ii hx.sf hy.sf) fun f hf=> ?_
 exact ec hkm ⟨hi.Ng ii,hf.Ng ii⟩
theorem u5 {next prev:Int->Option Int} {B:Int} (hB:B<=1000000000000000000) (hn:∀x,-B<=x->x<=B->bu (next x) fun m=> -B-2<=m/\m<=B+2) (hp:∀x,-B<=x->x<=B->bu (prev x) fun m=> -B-2<=m/\m<=B+2) {hi:Int} (hhi: -B<=hi/\hi<=B) {k:Nat} (hk:k<=1000):
  ∀{r:List Sv.Span} {lo:Int} {out:List Sv.Span},(∀s∈r,-B<=s.lo/\s.lo<=B/\ -B<=s.hi/\s.hi<=B)-> -B-2<=lo/\lo<=B+2->rG (B+2) k out->r.length+1+out.length<=k->bu (rp next prev hi r lo out) (rG (B+2) k)
 |[],lo,out,_,hlo,ho,hl=>by
  unfold rp
  refine ak (fun h0=>qM ii ⟨by simp;simp at hl;omega,fun z hz=> ?_⟩) fun _=>aj ho
  rcases Tz.1 hz with hz|hz
  ·exact ho.eG z hz
  ·rw[To.1 hz]
   show -(B+2)<=lo/\lo<=B+2/\ -(B+2)<=hi/\hi<=B+2
   omega
 |s::r,lo,out,hr,hlo,ho,hl=>by
  rw[Tu] at hl
  have hs:=hr s (Tn ..)
  have hr':=fun s hs=>hr s (Tm _ hs)
  unfold rp
  refine au (hp s.lo hs.1 hs.2.1) fun h hh=>ak (fun h0=>b7 ii ?_) fun _=> ?_
  ·refine au (hn s.hi hs.2.2.1 hs.2.2.2) fun l hl'=>u5 hB hn hp hhi hk hr' hl' ⟨by simp;omega,fun z hz=> ?_⟩ (by simp;omega)
   rcases Tz.1 hz with hz|hz
   ·exact ho.eG z hz
   ·rw[To.1 hz]
    show -(B+2)<=lo/\lo<=B+2/\ -(B+2)<=h/\h<=B+2
    omega
  ·exact au (hn s.hi hs.2.2.1 hs.2.2.2) fun l hl'=>u5 hB hn hp hhi hk hr' hl' ho ii
theorem yB {next prev:Int->Option Int} {B:Int} (hB:B<=1000000000000000000) (hn:∀x,-B<=x->x<=B->bu (next x) fun m=> -B-2<=m/\m<=B+2) (hp:∀x,-B<=x->x<=B->bu (prev x) fun m=> -B-2<=m/\m<=B+2) {l:List Sv.Span} {all:Sv.Span} (ha: -B<=all.lo/\all.lo<=B/\ -B<=all.hi/\all.hi<=B) {k:Nat} (hk:k<=100) (h:rG B k l):bu (ow next prev l all) (rG (B+2) (k+1)):=by
 have hl:=h.len
 unfold ow LN
 rw[Tl]
 refine ar ii (au (u5 hB hn hp ha.2.2 (k:=k+1) ii h.eG ii ⟨TC _,fun s hs=>by cases hs⟩ (by simp;omega)) fun r hr=>aj hr)
theorem KZ {a:cO} {k:Nat} (hk:k<=11) (h:sJ k a):bu (En a) (NB (k+1)):=by
 unfold En Jo Cj yh
 refine au (ec ii h) fun x hx=> ?_
 rw[HP,HP]
 refine a7 (TM _) (by simp) fun ai hai _=> ?_
 cases hai
 rw[HP]
 refine au (yB (B:=100000000000) ii (fun x h1 h2=>(xi ii ii).mono fun m hm=>by omega) (fun x h1 h2=>(ML ii ii).mono fun m hm=>by omega) (all:=⟨-100000000000,100000000000⟩) (by decide) ii hx.i) fun i hi=> ?_
 refine a7 (TM _) (by simp) fun af haf _=> ?_
 cases haf
 rw[HP]
 refine au (yB (B:=1000000000000000) ii (fun x h1 h2=>(yT ii ii).mono fun m hm=>by omega) (fun x h1 h2=>(Fe ii ii).mono fun m hm=>by omega) (all:=⟨-999999999999999,999999999999999⟩) (by decide) ii hx.f) fun f hf=> ?_
 exact ec ii ⟨hi.Ng ii,hf.Ng ii⟩
theorem Es {a b:cO} {k m:Nat} (hkm:k+m<=11) (ha:sJ k a) (hb:sJ m b):bu (kZ a b) (NB (k+m+1)):=by
 unfold kZ
 exact au (KZ ii hb) fun c hc=>(MR ii ha hc.i64).mono fun r hr=>hr
theorem Eo {u v:Int} (hu: -1000000000000000000<=u/\u<=1000000000000000000) (hv: -1000000000000000000<=v/\v<=1000000000000000000):bu (q7 u v) fun _=>True:=by
 unfold q7
 exact ar ⟨by omega,by omega⟩ (ar ⟨by omega,by omega⟩ (ak (fun _=>aj trivial) fun _=>ak (fun _=>aj trivial) fun _=>aj trivial))
def LB (p:Int×Bool):Prop:= -1000000000000000<=p.1/\p.1<=1000000000000000
theorem Be {u best:Int} {found:Bool} (hu: -1000000000000000<=u/\u<=1000000000000000) (hb: -1000000000000000<=best/\best<=1000000000000000):bu (take u best found) LB:=by
 unfold take
 exact ak (fun _=>au (Eo ii ii) fun c _=>ak (fun _=>aj hu) fun _=>aj hb) fun _=>aj hu
theorem r5 {s:Sv.Span} {m B:Int} (hs: -B<=s.lo/\s.lo<=B/\ -B<=s.hi/\s.hi<=B) (hm: -B<=m/\m<=B):bu (nearest s m) fun x=> -B<=x/\x<=B:=by
 unfold nearest
 exact ak (fun _=>aj ⟨hs.1,hs.2.1⟩) fun _=>ak (fun _=>aj hs.2.2) fun _=>aj hm
theorem Ca:∀{l:List Sv.Span} {best:Int} {found:Bool},(∀s∈l,-100000000000<=s.lo/\s.lo<=100000000000/\ -100000000000<=s.hi/\s.hi<=100000000000)->LB (best,found)->bu (uQ l best found) LB
 |[],best,found,_,h=>aj h
 |y::r,best,found,hl,h=>by
  unfold uQ
  refine au (r5 (B:=100000000000) (hl y (Tn ..)) ii) fun n hn=>ar ⟨by omega,by omega⟩ (au (Be ii h) fun p hp=>Ca (fun s hs=>hl s (Tm _ hs)) hp)
theorem B8:∀{l:List Sv.Span} {best:Int} {found:Bool},(∀s∈l,-1000000000000000<=s.lo/\s.lo<=1000000000000000/\ -1000000000000000<=s.hi/\s.hi<=1000000000000000)->LB (best,found)->bu (uP l best found) LB
 |[],best,found,_,h=>aj h
 |y::r,best,found,hl,h=>by
  unfold uP
  refine au (r5 (B:=1000000000000000) (hl y (Tn ..)) ii) fun n hn=>au (Be hn h) fun p hp=>B8 (fun s hs=>hl s (Tm _ hs)) hp
theorem uM {s:cO} {k:Nat} (hk:k<=12) (h:sJ k s):bu (iC s) LB:=by
 unfold iC
 refine au (ec hk h) fun x hx=> ?_
 have h1:=hx.i.len
 have h2:=hx.f.len
 exact ar ii (au (Ca hx.i.eG (by unfold LB;decide)) fun p hp=>ar ii (B8 hx.f.eG hp))
structure SB (k n:Nat) (s:bX):Prop where
 i:Hk k s.ints
 f:Hk k s.bz
 a:AB n s.strs
structure SG (k n:Nat) (s:bX):Prop where
 nb:NB k ⟨s.ints,s.bz⟩
 a:Gd n s.strs
theorem SG.sb {k n:Nat} {s:bX} (h:SG k n s):SB k n s:=⟨h.nb.i.Ng ii,h.nb.f.Ng ii,h.a.toAB⟩
theorem SB.mono {k n k' n':Nat} {s:bX} (h:SB k n s) (hk:k<=k') (hn:n<=n'):SB k' n' s:=⟨⟨TR h.i.1 hk,h.i.2⟩,⟨TR h.f.1 hk,h.f.2⟩,h.a.mono hn⟩
theorem Hk.nil (k:Nat):Hk k []:=⟨TC _,fun s h=>by cases h⟩
theorem NB.nil (k:Nat):NB k ⟨[],[]⟩:=⟨⟨TC _,fun s h=>by cases h⟩,⟨TC _,fun s h=>by cases h⟩,Sp.nil,Sp.nil⟩
theorem tm (k n:Nat):SG k n bw:=⟨NB.nil k,Gd.nil n⟩
theorem DU {k n:Nat} (hk:k<=12) (hn:n<400000000) {s:bX} (h:SB k n s):bu (iy s) fun b=>b=true->SG k n s:=by
 unfold iy
 refine au (DV hk ⟨h.i,h.f⟩) fun c hc=>ak (fun h1=>(mS h.a ii).mono fun b hb e=>⟨hc h1,hb e⟩) fun _=>aj fun h=>by cases h
theorem rk {k n:Nat} (hk:k<=12) (hn:n<400000000) {s:bX} (h:SB k n s):bu (mD s) fun r=>SG k n r/\r.strs.length<=s.strs.length:=by
 unfold mD
 exact au (DU hk hn h) fun c hc=>ak (fun h1=>aj ⟨hc h1,Tp _⟩) fun _=>aj ⟨tm k n,TC _⟩
structure LD (n:Nat) (d:aO):Prop where
 eq:d=nY d.c.kind d.c.num d.c.str
 num: -1000000000000000<=d.c.num/\d.c.num<=1000000000000000
 str:d.c.str.length<=n
theorem LD.of {n:Nat} {k m:Int} {s:List UInt8} (h1: -1000000000000000<=m/\m<=1000000000000000) (h2:s.length<=n):LD n (nY k m s):=⟨rfl,h1,h2⟩
theorem Ev {k n:Nat} (hk:k<=12) (hn:n<400000000) {s:bX} (h:SB k n s):bu (jY s) fun r=>LD n r.1:=by
 unfold jY
 refine au (rk hk hn h) fun a ⟨ha,_⟩=>au (uM hk ⟨ha.sb.i,ha.sb.f⟩) fun p hp=>au (Ez ha.a.toAB hn) fun q hq=> ?_
 have z:∀k m:Int,-1000000000000000<=m/\m<=1000000000000000->LD n (nY k m []):=fun k m h=>LD.of h (TC _)
 exact ak (fun _=>aj (z _ _ (by decide))) fun _=>ak (fun _=>aj (z _ _ (by decide))) fun _=>ak (fun _=>aj (z _ _ (by decide))) fun _=>ak (fun _=>aj (z _ _ hp)) fun _=>ak (fun _=>aj (LD.of (by decide) hq)) fun _=>aj (z _ _ (by decide))
theorem xg {s:List UInt8} (hs:s.length<1000000):∀{n i:Nat} {out:List ba},i+n=s.length->AB i out->out.length=i->bu (od s n i out) fun o=>AB s.length o/\o.length=s.length
 |0,i,out,h,h1,h2=>aj ⟨h1.mono ii,by omega⟩
 |n+1,i,out,h,h1,h2=>by
  have e1:((i:Int)+1)=((i+1:Nat):Int):=by omega
  unfold od
  refine a7 ii ii fun b hb _=>b7 ii ?_
  rw[e1]
  have hbb:=b.toNat_lt
  refine xg hs (n:=n) (i:=i+1) ii ⟨by simp;omega,fun x hx=> ?_,fun x hx=> ?_⟩ (by simp;omega)
  ·rcases Tz.1 hx with hx|hx
   ·exact h1.row x hx
   ·rw[To.1 hx];exact TS rfl
  ·rcases Tz.1 hx with hx|hx
   ·exact h1.eb x hx
   ·rw[To.1 hx]
    intro e he
    rw[To.1 he]
    exact⟨by show(0:Int)<=(b.toNat:Int);omega,by show(b.toNat:Int)<256;omega,by show(0:Int)<=(b.toNat:Int);omega,by show(b.toNat:Int)<256;omega⟩
theorem Hz {s:List UInt8} (hs:s.length<1000000):bu (oa s) fun o=>AB (s.length+1) o:=by
 unfold oa
 refine ar ii (au (xg hs (n:=s.length) (i:=0) (out:=[]) ii (AB.nil 0) rfl) fun o ⟨h1,h2⟩=>qM ii ⟨by simp;omega,fun x hx=> ?_,fun x hx=> ?_⟩)
 ·rcases Tz.1 hx with hx|hx
  ·exact h1.row x hx
  ·rw[To.1 hx];exact TC _
 ·rcases Tz.1 hx with hx|hx
  ·exact h1.eb x hx
  ·rw[To.1 hx]
   intro e he
   cases he
theorem kz (d:cJ aO):bu (jk d) fun _=>True:=by
 unfold jk
 exact ak (fun _=>ak (fun _=>aj trivial) fun _=>aj trivial) fun _=>aj trivial
theorem vb (u:Int):bu (sH u) fun b=>b=true-> -1000000000000000<=u/\u<=1000000000000000:=by
 unfold sH
 exact ak (fun h=>aj fun e=>by have:=TF e;omega) fun _=>aj fun h=>by cases h
theorem NX {a:Int} (h: -1000000000000000-1<=a/\a<=1000000000000000+1): -1000000000001<=a.tdiv 10000/\a.tdiv 10000<=1000000000001:=by
 rcases Int.le_total 0 a with h0|h0
 ·rw[Int.tdiv_eq_ediv_of_nonneg h0]
  omega
 ·have e:a= -(-a):=by omega
  rw[e,Int.neg_tdiv,Int.tdiv_eq_ediv_of_nonneg ii]
  omega
theorem oY {u:Int} (h: -1000000000000000-1<=u/\u<=1000000000000000+1):bu (lb u) fun m=> -1000000000002<=m/\m<=1000000000001:=by
 have:=NX h
 unfold lb
 exact ar ⟨by omega,by omega⟩ (ak (fun _=>ar ⟨by omega,by omega⟩ (aj ii)) fun _=>aj ii)
theorem yb {v:List UInt8}:∀{l:List (List UInt8)} {i:Int},bu (uX v l i) fun _=>True
 |[],i=>aj trivial
 |x::r,i=>by
  unfold uX
  exact ak (fun _=>aj trivial) fun _=>yb
theorem Mf {l:List (List UInt8)} {v:List UInt8} (h:l.length<=1000000000):bu (IW l v) fun _=>True:=by
 unfold IW OW
 rw[Tl]
 exact ar h (au yb fun _ _=>aj trivial)
theorem sT {a b:Int} (ha: -1000000000000000000<=a/\a<=1000000000000000000) (hb: -1000000000000000000<=b/\b<=1000000000000000000):Hk 1 [⟨a,b⟩]:=⟨Tp _,fun s hs=>by
 rw[To.1 hs]
 show _<=a/\a<_/\_<=b/\b<_
 omega⟩
theorem E9 (u:Int):bu (pf u) fun p=>NB 1 p.1:=by
 unfold pf
 refine au (Mf (TS rfl)) fun c _=>ak (fun _=>au (vb u) fun ok hok=>ak (fun h1=> ?_) fun _=>aj (NB.nil 1)) fun _=>aj (NB.nil 1)
 obtain⟨u1,u2⟩:=hok h1
 refine ar ⟨by omega,by omega⟩ (au (oY ii) fun f1 hf1=>au (ec (k:=1) ii ⟨sT ii ii,sT ii ii⟩) fun less _=> ?_)
 refine ar ⟨by omega,by omega⟩ (au (oY ii) fun g hg=>ar ⟨by omega,by omega⟩ (au (oY ii) fun h hh=> ?_))
 exact au (ec (k:=1) ii ⟨sT ii ii,sT ii ii⟩) fun one hone=>aj hone
theorem sg0 (a b c:Bool):SB 1 0 ⟨a,b,c,[],[],[]⟩:=⟨Hk.nil 1,Hk.nil 1,AB.nil 0⟩
inductive VK:List (dH Va)->List Int->Prop
 |nil:VK [] []
 |cons {k:dH Va} {ks:List (dH Va)} {s:Int} {v:List Int}: -1<=s->s<k.set.length->VK ks v->VK (k::ks) (s::v)
inductive VF (L:Nat):List (dO Va)->List Int->Prop
 |nil:VF L [] []
 |cons {f:dO Va} {fs:List (dO Va)} {s:Int} {v:List Int}:(s= -1\/s=L/\L<=f.label.length)->VF L fs v->VF L (f::fs) (s::v)
def Qf (c:aM Va) (v:List Int):Prop:=∃a b L,v=a++b/\VK c.az a/\L<=81/\VF L c.fields b
theorem VK.len {ks:List (dH Va)} {v:List Int} (h:VK ks v):v.length=ks.length:=by
 induction h with
 |nil=>rfl
 |cons _ _ _ ih=>simp[ih]
theorem VF.len {L:Nat} {fs:List (dO Va)} {v:List Int} (h:VF L fs v):v.length=fs.length:=by
 induction h with
 |nil=>rfl
 |cons _ _ ih=>simp[ih]
theorem sN {α β:Type} {p q:List α} {s:α} {i:Int} {f:α->Option β} {Q:β->Prop} (hi:i=p.length) (k:bu (f s) Q):bu ((cN (p++s::q) i).bind f) Q:=by
 refine a7 ii (by simp;omega) fun x hx _=> ?_
 rw[show i.toNat=p.length by omega,TG (Tp _),Uv] at hx
 cases hx
 exact k
theorem Rh {α:Type} (p q:List α) (s t:α):(p++s::q).set p.length t=p++t::q:=by
 rw[Vt _ _ (Tp _),Uv]
 rfl
theorem Bb {α β:Type} {p q:List α} {s t:α} {i:Int} {f:List α->Option β} {Q:β->Prop} (hi:i=p.length) (k:bu (f (p++t::q)) Q):bu ((kS (p++s::q) i t).bind f) Q:=by
 refine eZ ii (by simp;omega) ?_
 rw[show i.toNat=p.length by omega,Rh]
 exact k
theorem Cg:∀{r:List Int} {out:List UInt8},(∀n∈r,-1<=n/\n<1000000000)->out.length+22*r.length<=1000000->bu (EC r out) fun _=>True
 |[],out,_,_=>aj trivial
 |n::r,out,h,hl=>by
  rw[Tu] at hl
  have hn:=h n (Tn ..)
  have h4:(fW n).length<=21:=Go.Lib.itoa_length_le n ii ii
  unfold EC
  exact ar ⟨by omega,by omega⟩ (ar ii (Cg (fun m hm=>h m (Tm _ hm)) (by simp;omega)))
theorem Lo {v:List Int} (h:∀n∈v,-1<=n/\n<1000000000) (hl:v.length<=1000):bu (zX v) fun _=>True:=by
 unfold zX
 exact ar ii (Cg h (by simp;omega))
def KG (n:Nat) (ks:List (dH Va)):Prop:=∀k∈ks,Gd n k.set
theorem VK.eG {n:Nat} {ks:List (dH Va)} {v:List Int} (h:VK ks v) (hk:KG n ks):∀x∈v,-1<=x/\x<n:=by
 induction h with
 |nil=>intro x hx;cases hx
 |cons h1 h2 _ ih=>
  intro x hx
  rcases Tv.1 hx with rfl|hx
  ·have:=(hk _ (Tn ..)).len
   omega
  ·exact ih (fun k hk'=>hk k (Tm _ hk')) x hx
theorem VF.eG {L:Nat} {fs:List (dO Va)} {v:List Int} (h:VF L fs v):∀x∈v,x= -1\/x=L:=by
 induction h with
 |nil=>intro x hx;cases hx
 |cons h1 _ ih=>
  intro x hx
  rcases Tv.1 hx with rfl|hx
  ·rcases h1 with h1|h1
   ·exact .inl h1
   ·exact .inr h1.1
  ·exact ih x hx
theorem AG:∀{n i:Nat} {out:List Int},i+n=out.length->bu (S0 n i out) fun o=>o=out.take i++List.replicate n (-1)
 |0,i,out,h=>aj (by simp at h;rw[h];simp)
 |n+1,i,out,h=>by
  have hi:i<out.length:=by omega
  have e1:((i:Int)+1)=((i+1:Nat):Int):=by omega
  unfold S0
  refine eZ ii ii ?_
  rw[show((i:Int)).toNat=i by omega,e1]
  refine(AG (n:=n) (i:=i+1) (out:=out.set i (-1)) (by rw[Tx];omega)).mono fun o ho=> ?_
  rw[ho,Ux,Ud]
  simp[hi,UM,U3]
theorem ti {n:Nat} {b i:Int}:∀{es:List Sv.Edge} {p q:List Int} {s:Int},(∀e∈es,0<=e.to/\e.to<n)->i=p.length-> -1<=s->s<n->bu (JA b i es (p++s::q)) fun o=>∃t:Int,o=p++t::q/\ -1<=t/\t<n
 |[],p,q,s,_,_,h1,h2=>aj ⟨s,rfl,h1,h2⟩
 |e::r,p,q,s,he,hi,h1,h2=>by
  have h3:=he e (Tn ..)
  have hr:=fun e' h'=>he e' (Tm _ h')
  unfold JA
  exact ak (fun _=>ak (fun _=>Bb hi (ti hr hi ii h3.2)) fun _=>ti hr hi h1 h2) fun _=>ti hr hi h1 h2
theorem Hh {n:Nat} (hn:n<1000000000) {b:Int}:∀{ks:List (dH Va)} {a vp vq done rest:List Int} {i:Int},KG n ks->VK ks a->i=vp.length->i=done.length->bu (Jz (vp++(a++vq)) b ks i (done++(List.replicate ks.length (-1)++rest))) fun o=>∃a',o=done++(a'++rest)/\VK ks a'
 |[],a,vp,vq,done,rest,i,_,h,_,_=>aj ⟨[],rfl,.nil⟩
 |k::ks,a,vp,vq,done,rest,i,hk,h,h1,h2=>by
  cases h with
  |cons s0 s1 h=>
   rename_i s v
   have hg:=hk k (Tn ..)
   have hks:KG n ks:=fun k' h'=>hk k' (Tm _ h')
   have step:∀t:Int,-1<=t->t<k.set.length->bu (Jz (vp++((s::v)++vq)) b ks (i+1) (done++t::(List.replicate ks.length (-1)++rest))) fun o=>∃a',o=done++(a'++rest)/\VK (k::ks) a':=fun t t0 t1=>by
    have e1:vp++((s::v)++vq)=(vp++[s])++(v++vq):=by simp
    have e2:done++t::(List.replicate ks.length (-1)++rest)=(done++[t])++(List.replicate ks.length (-1)++rest):=by simp
    rw[e1,e2]
    refine(Hh hn (ks:=ks) (i:=i+1) hks h (by simp;omega) (by simp;omega)).mono fun o ⟨a',q1,q2⟩=>⟨t::a',by rw[q1];simp,.cons t0 t1 q2⟩
   have e3:vp++((s::v)++vq)=vp++s::(v++vq):=by simp
   have e4:done++(List.replicate (k::ks).length (-1)++rest)=done++(-1)::(List.replicate ks.length (-1)++rest):=by simp[U3]
   rw[e4]
   unfold Jz
   rw[e3]
   refine sN h1 (ak (fun _=> ?_) fun hs=> ?_)
   ·rw[<-e3]
    exact step (-1) ii ii
   ·refine a7 ii s1 fun x hx hm=>ar (by have:=hg.row x hm;omega) ?_
    refine au (ti (n:=k.set.length) (fun e he=>((hg.wf x hm).one e he).2) h2 ii ii) fun o ⟨t,q1,q2,q3⟩=> ?_
    rw[q1,<-e3]
    exact step t q2 q3
theorem Hi {b m:Int} {L:Nat} (hL:L<=81):∀{fs:List (dO Va)} {a vp vq done:List Int} {i:Int},(∀f∈fs,f.label.length<=80)->VF L fs a->m+i=vp.length->m+i=done.length->bu (Fm (vp++a) b m fs i (done++List.replicate fs.length (-1))) fun o=>∃a',o=done++a'/\VF (L+1) fs a'
 |[],a,vp,vq,done,i,_,h,_,_=>aj ⟨[],by simp,.nil⟩
 |f::fs,a,vp,vq,done,i,hf,h,h1,h2=>by
  cases h with
  |cons s0 h=>
   rename_i s v
   have hl:=hf f (Tn ..)
   have hfs:∀f∈fs,f.label.length<=80:=fun f' h'=>hf f' (Tm _ h')
   have step:∀t:Int,(t= -1\/t=(L+1:Nat)/\L+1<=f.label.length)->bu (Fm (vp++s::v) b m fs (i+1) (done++t::List.replicate fs.length (-1))) fun o=>∃a',o=done++a'/\VF (L+1) (f::fs) a':=fun t ht=>by
    have e1:vp++s::v=(vp++[s])++v:=by simp
    have e2:done++t::List.replicate fs.length (-1)=(done++[t])++List.replicate fs.length (-1):=by simp
    rw[e1,e2]
    refine(Hi hL (fs:=fs) (vq:=vq) (i:=i+1) hfs h (by simp;omega) (by simp;omega)).mono fun o ⟨a',q1,q2⟩=>⟨t::a',by rw[q1];simp,.cons ht q2⟩
   have e4:done++List.replicate (f::fs).length (-1)=done++(-1)::List.replicate fs.length (-1):=by simp[U3]
   rw[e4]
   unfold Fm
   refine sN h1 (ak (fun hs=>ar ii (ak (fun hlt=> ?_) fun _=>step (-1) (.inl rfl))) fun _=>step (-1) (.inl rfl))
   have hsL:s=L/\L<=f.label.length:=by
    rcases s0 with g|g
    ·omega
    ·exact g
   refine a7 hs hlt fun c hc _=>ak (fun _=>ar ⟨by omega,by omega⟩ (Bb h2 (step (s+1) (.inr ⟨by omega,by omega⟩)))) fun _=>step (-1) (.inl rfl)
theorem VF.zero {L:Nat} {fs:List (dO Va)} {v:List Int} (h:VF L fs v) (hf:∀f∈fs,f.label.length<=80) (hL:80<L):VF 0 fs v:=by
 induction h with
 |nil=>exact .nil
 |cons h1 _ ih=>
  have hl:=hf _ (Tn ..)
  refine .cons (.inl ?_) (ih fun f h'=>hf f (Tm _ h'))
  rcases h1 with h1|h1
  ·exact h1
  ·omega
structure SCk (n:Nat) (c:aM Va):Prop where
 kl:c.az.length<=100
 fl:c.fields.length<=100
 kg:KG n c.az
 Np:∀f∈c.fields,f.label.length<=80
theorem Dq {n:Nat} (hn:n<1000000000) {c:aM Va} (hc:SCk n c) {v:List Int} (h:Qf c v) {b:Int}:bu (AF c v b) (Qf c):=by
 obtain⟨a,d,L,rfl,h1,h2,h3⟩:=h
 have l1:=h1.len
 have l2:=h3.len
 have g1:=hc.kl
 have g2:=hc.fl
 unfold AF
 refine ar (by simp;omega) (au (AG (n:=(a++d).length) (i:=0) (out:=List.replicate (a++d).length 0) (by simp)) fun out ho=>ar ii ?_)
 have ho':out=[]++(List.replicate c.az.length (-1)++List.replicate c.fields.length (-1)):=by
  rw[ho,Tt,l1,l2]
  simp[VR]
 rw[ho']
 refine au (Hh hn (ks:=c.az) (vp:=[]) (vq:=d) (i:=0) hc.kg h1 rfl rfl) fun o ⟨a',q1,q2⟩=>ar ii ?_
 rw[q1,UC]
 have l3:=q2.len
 refine(Hi h2 (fs:=c.fields) (vp:=a) (vq:=[]) (done:=a') (i:=0) hc.Np h3 ii ii).mono fun o ⟨d',r1,r2⟩=> ?_
 rcases TX L 81 with g|g
 ·exact⟨a',d',L+1,r1,q2,by omega,r2⟩
 ·exact⟨a',d',0,r1,q2,by omega,r2.zero hc.Np ii⟩
theorem FQ:∀{es:List Sv.Edge} {a:List Bool},a.length=257->(∀e∈es,EB e)->bu (Rd es a) fun r=>r.length=257
 |[],a,h,_=>aj h
 |e::r,a,h,he=>by
  obtain⟨b1,b2,b3,b4⟩:=he e (Tn ..)
  unfold Rd
  exact ar ⟨b3,b4⟩ (gY b1 ii h (gY ii ii (by rw[Tx];exact h) (FQ (by rw[Tx,Tx];exact h) fun e' h'=>he e' (Tm _ h'))))
theorem FO {n:Nat}:∀{ks:List (dH Va)} {a vp vq:List Int} {i:Int} {t:List Bool},KG n ks->VK ks a->i=vp.length->t.length=257->bu (N3 (vp++(a++vq)) ks i t) fun r=>r.length=257
 |[],a,vp,vq,i,t,_,_,_,h=>aj h
 |k::ks,a,vp,vq,i,t,hk,hv,hi,ht=>by
  cases hv with
  |cons s0 s1 hv=>
   rename_i s v
   have hg:=hk k (Tn ..)
   have hks:KG n ks:=fun k' h'=>hk k' (Tm _ h')
   have e1:vp++((s::v)++vq)=(vp++[s])++(v++vq):=by simp
   have e3:vp++((s::v)++vq)=vp++s::(v++vq):=by simp
   have step:∀t:List Bool,t.length=257->bu (N3 (vp++((s::v)++vq)) ks (i+1) t) fun r=>r.length=257:=fun t ht=>by
    rw[e1]
    exact FO (ks:=ks) (i:=i+1) hks hv (by simp;omega) ht
   unfold N3
   rw[e3]
   refine sN hi (ak (fun _=>by rw[<-e3];exact step t ht) fun hs=>a7 ii s1 fun x hx hm=>ar (by have:=hg.row x hm;omega) (au (FQ ht (hg.eb x hm)) fun t' ht'=>by rw[<-e3];exact step t' ht'))
theorem FP {m:Int}:∀{fs:List (dO Va)} {a vp:List Int} {i:Int} {t:List Bool},a.length=fs.length->(∀f∈fs,f.label.length<=80)->m+i=vp.length->t.length=257->bu (Nf (vp++a) m fs i t) fun r=>r.length=257
 |[],a,vp,i,t,_,_,_,h=>aj h
 |f::fs,[],vp,i,t,ha,_,_,_=>by simp at ha
 |f::fs,s::v,vp,i,t,ha,hf,hi,ht=>by
  have hlb:=hf f (Tn ..)
  have e1:vp++s::v=(vp++[s])++v:=by simp
  have step:∀t:List Bool,t.length=257->bu (Nf (vp++s::v) m fs (i+1) t) fun r=>r.length=257:=fun t ht=>by
   rw[e1]
   exact FP (fs:=fs) (i:=i+1) (by simpa using ha) (fun f' h'=>hf f' (Tm _ h')) (by simp;omega) ht
  unfold Nf
  refine sN hi (ak (fun hs=>ar ii (ak (fun hlt=>a7 hs hlt fun b _ _=> ?_) fun _=>step t ht)) fun _=>step t ht)
  have hb:=b.toNat_lt
  exact gY ii ii ht (gY ii ii (by rw[Tx];exact ht) (step _ (by rw[Tx,Tx];exact ht)))
theorem ze {a:List Bool} (ha:a.length=257):∀{n c:Nat} {out:List Int},n+c=256->out.length<=c->bu (Nd a n c out) fun r=>r.length<=256
 |0,c,out,h,h1=>aj ii
 |n+1,c,out,h,h1=>by
  have e1:((c:Int)+1)=((c+1:Nat):Int):=by omega
  unfold Nd
  refine y9 ii ii ha fun x _=> ?_
  rw[e1]
  exact ak (fun _=>ar ⟨by omega,by omega⟩ (b7 ii (ze ha ii (by simp;omega)))) fun _=>ze ha ii ii
theorem tG {n:Nat} {c:aM Va} (hc:SCk n c) {v:List Int} (h:Qf c v):bu (oI c v) fun r=>r.length<=256:=by
 obtain⟨a,d,L,rfl,h1,h2,h3⟩:=h
 have g1:=hc.kl
 have g2:=hc.fl
 have l1:=h1.len
 unfold oI
 refine ar ii (au (FO (ks:=c.az) (vp:=[]) (vq:=d) (i:=0) (t:=MM) hc.kg h1 rfl (by unfold MM;rw[Tu,Ty])) fun t ht=>ar ii (au (FP (fs:=c.fields) (a:=d) (vp:=a) (i:=0) h3.len hc.Np ii ht) fun t' ht'=>ze ht' (n:=256) (c:=0) (out:=[]) rfl (Tp _)))
theorem Qf.key {n:Nat} (hn:n<1000000000) {c:aM Va} (hc:SCk n c) {v:List Int} (h:Qf c v):bu (zX v) fun _=>True:=by
 obtain⟨a,d,L,rfl,h1,h2,h3⟩:=h
 have g1:=hc.kl
 have g2:=hc.fl
 have l1:=h1.len
 have l2:=h3.len
 refine Lo (fun x hx=> ?_) (by simp;omega)
 rcases Tz.1 hx with hx|hx
 ·have:=h1.eG hc.kg x hx
  omega
 ·have:=h3.eG x hx
  omega
theorem VK.zero:∀{ks:List (dH Va)},(∀k∈ks,0<k.set.length)->VK ks (List.replicate ks.length 0)
 |[],_=> .nil
 |k::ks,h=>by
  have h0:=h k (Tn ..)
  exact .cons ii ii (VK.zero fun k' h'=>h k' (Tm _ h'))
theorem VF.start:∀{fs:List (dO Va)},VF 0 fs (List.replicate fs.length 0)
 |[]=> .nil
 |f::fs=> .cons (.inr ⟨rfl,TC _⟩) VF.start
theorem It {k n:Nat} (hk:k<=12) (hn:n<400000000) {s:bX} (h:SB k n s):bu (rZ s) fun _=>True:=by
 have h1:=h.i.1
 have h2:=h.f.1
 have h3:=h.a.len
 unfold rZ
 exact ak (fun _=>aj trivial) fun _=>ak (fun _=>aj trivial) fun _=>ak (fun _=>aj trivial) fun _=>ar ii (ar ii (ar ii (aj trivial)))
end Go.Proofs.YtaagahmkmcnhaaaGreatDoor
