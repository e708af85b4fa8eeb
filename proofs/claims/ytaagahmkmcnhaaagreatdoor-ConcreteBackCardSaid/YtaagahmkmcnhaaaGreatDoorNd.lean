/- For ConcreteOnly and ConcreteBack: sets, classes that cover, instances. -/
import Derived.Test.YtaagahmkmcnhaaaGreatDoorNc
import Derived.Test.YtaagahmkmcnhaaaGreatDoorMf
set_option linter.unusedVariables false
set_option linter.unusedSimpArgs false
set_option linter.unusedSectionVars false
namespace Go.Proofs.YtaagahmkmcnhaaaGreatDoor
open Sv
theorem fe:ka=some true:=by kernel_rfl
def fy (l:List Sv.Span) (u:Int):Prop:=∃s∈l,s.lo<=u/\u<=s.hi
theorem dY (u:Int):¬fy [] u:=fun⟨s,h,_⟩=>by cases h
theorem dL {s:Sv.Span} {l:List Sv.Span} {u:Int}:fy (s::l) u↔(s.lo<=u/\u<=s.hi)\/fy l u:=by
 unfold fy
 constructor
 ·rintro⟨x,hx,h⟩
  rcases Tv.1 hx with rfl|hx
  ·exact .inl h
  ·exact .inr ⟨x,hx,h⟩
 ·rintro(h|⟨x,hx,h⟩)
  ·exact⟨s,Tn ..,h⟩
  ·exact⟨x,Tm _ hx,h⟩
theorem jP {l r:List Sv.Span} {u:Int}:fy (l++r) u↔fy l u\/fy r u:=by
 induction l with
 |nil=>exact⟨.inr,fun h=>h.elim (fun h=>(dY u h).elim) id⟩
 |cons s l ih=>rw[Vf,dL,dL,ih,or_assoc]
theorem fa {s:Sv.Span} {u:Int}:fy [s] u↔s.lo<=u/\u<=s.hi:=by
 rw[dL]
 exact⟨fun h=>h.elim id fun h=>(dY u h).elim,.inl⟩
abbrev n4 (l:List Sv.Span):Prop:=l.Pairwise fun x y=>x.hi<y.lo
theorem OU {α:Type} {cmp:α->α->Option Int} {l:List α} (h:∀(i:Nat) (x y:α) (c:Int),l[i]? =some x->l[i+1]? =some y->cmp y x=some c->0<=c):∀{f j:Nat} {r:List α},lO cmp 0 f l j=some r->r=l
 |0,_,_,e=>by cases e
 |f+1,j,r,e=>by
  unfold lO at e
  by_cases g:(j:Int)>0
  ·rw[Th g] at e
   obtain⟨j1,x,h1,h2,e⟩:=av e
   obtain⟨_,e⟩:=ah e
   obtain⟨j2,y,h3,h4,e⟩:=av e
   obtain⟨c,h5,e⟩:=aa e
   have:j1=j2+1:=by omega
   subst this
   have:=h j2 y x c h4 h2 h5
   rw[Ti ii] at e
   exact(TD e).symm
  ·rw[Ti g] at e
   exact(TD e).symm
theorem Gy {α:Type} {cmp:α->α->Option Int} {l:List α} (h:∀(i:Nat) (x y:α) (c:Int),l[i]? =some x->l[i+1]? =some y->cmp y x=some c->0<=c) {n:Int}:∀{f i:Nat} {r:List α},fM cmp 0 n f l i=some r->r=l
 |0,_,_,e=>by cases e
 |f+1,i,r,e=>by
  unfold fM at e
  by_cases g:(i:Int)<n
  ·rw[Th g] at e
   obtain⟨l',h1,e⟩:=aa e
   rw[OU h h1] at e
   obtain⟨_,e⟩:=ah e
   have e1:((i:Int)+1)=((i+1:Nat):Int):=by omega
   rw[e1] at e
   exact Gy h e
  ·rw[Ti g] at e
   exact(TD e).symm
theorem N4 {α:Type} {cmp:α->α->Option Int} {l r:List α} (h:∀(i:Nat) (x y:α) (c:Int),l[i]? =some x->l[i+1]? =some y->cmp y x=some c->0<=c) (e:iJ cmp l=some r):r=l:=by
 unfold iJ at e
 obtain⟨_,e⟩:=ah e
 by_cases g:(l.length:Int)<=12
 ·rw[Th g] at e
  exact Gy h (i:=1) e
 ·rw[Ti g] at e
  cases e
theorem n4.at_ {l:List Sv.Span} (h:n4 l) {i:Nat} {x y:Sv.Span} (hx:l[i]? =some x) (hy:l[i+1]? =some y):x.hi<y.lo:=by
 obtain⟨h1,h2⟩:=Tk.1 hx
 obtain⟨h3,h4⟩:=Tk.1 hy
 have:=T5.1 h i (i+1) h1 h3 ii
 rwa [h2,h4] at this
theorem xp {l r:List Sv.Span} (h:n4 l) (ho:∀s∈l,s.lo<=s.hi) (e:iJ yE l=some r):r=l:=N4 (fun i x y c hx hy hc=>by
 have h1:=h.at_ hx hy
 have h2:=ho x (Ts hx)
 unfold yE IZ Iu at hc
 simp only[HP,Uz,Vk] at hc
 rw[Ti ii,Th ii] at hc
 cases hc
 decide) e
structure Cn (next:Int->Option Int) (P:Int->Prop) (B:Int) (l:List Sv.Span):Prop where
 eG:∀s∈l,-B<=s.lo/\s.hi<=B/\s.lo<=s.hi/\P s.lo/\P s.hi
 ap:l.Pairwise fun x y=>x.hi<y.lo/\∀m,next x.hi=some m->m<y.lo
theorem Cn.xa {next:Int->Option Int} {P:Int->Prop} {B:Int} {l:List Sv.Span} (h:Cn next P B l):n4 l:=h.ap.imp fun h=>h.1
theorem Cn.ord {next:Int->Option Int} {P:Int->Prop} {B:Int} {l:List Sv.Span} (h:Cn next P B l):∀s∈l,s.lo<=s.hi:=fun s hs=>(h.eG s hs).2.2.1
section
variable {next:Int->Option Int} {P:Int->Prop} {B:Int}
theorem nB (hnx:∀x m,next x=some m->x<m/\∀u,P u->x<u->m<=u):∀{r out o:List Sv.Span},Cn next P B out->(∀s∈r,-B<=s.lo/\s.hi<=B/\s.lo<=s.hi/\P s.lo/\P s.hi)->n4 (out++r)->iK next r out=some o->Cn next P B o/\∀u,P u->(fy o u↔fy out u\/fy r u)
 |[],out,o,h,_,_,e=>by
  cases e
  exact⟨h,fun u _=>⟨.inl,fun g=>g.elim id fun g=>(dY u g).elim⟩⟩
 |s::r,out,o,h,hr,ha,e=>by
  have hs:=hr s (Tn ..)
  have hr':=fun x hx=>hr x (Tm s hx)
  unfold iK at e
  obtain⟨_,e⟩:=ah e
  rcases List.eq_nil_or_concat out with rfl|⟨q,p,rfl⟩
  ·rw[Ti (by simp)] at e
   obtain⟨_,e⟩:=ay e
   obtain⟨g1,g2⟩:=nB hnx (out:=[s]) ⟨fun x hx=>by rw[To.1 hx];exact hs,T7 _ _⟩ hr' ha e
   refine⟨g1,fun u hu=> ?_⟩
   rw[g2 u hu,fa,dL]
   exact⟨.inr,fun g=>g.elim (fun g=>(dY u g).elim) id⟩
  ·rw[UJ] at h ha e⊢
   have hp:=h.eG p (by simp)
   have hap:=T1.1 h.ap
   have haa:=T1.1 ha
   have hps:p.hi<s.lo:=haa.2.2 p (by simp) s (by simp)
   rw[Th (by rw[Tt,TQ];omega)] at e
   obtain⟨j,p',hj,hp',e⟩:=av e
   have:j=q.length:=by rw[Tt,TQ] at hj;omega
   subst this
   rw[TG (Tp _),Uv] at hp'
   cases hp'
   obtain⟨m,hm,e⟩:=aa e
   have hmx:=hnx p.hi m hm
   by_cases g:s.lo<=m
   ·rw[Th g] at e
    obtain⟨j,p',hj',hp',e⟩:=av e
    have:j=q.length:=by omega
    subst this
    rw[TG (Tp _),Uv] at hp'
    cases hp'
    obtain⟨j,p',hj',hp',e⟩:=bV e
    have:j=q.length:=by omega
    subst this
    rw[TG (Tp _),Uv] at hp'
    cases hp'
    have emx:mx p.hi s.hi=s.hi:=by unfold mx;rw[Th ii]
    rw[Vt _ _ (Tp _),Uv,emx] at e
    have e:iK next r (q++[⟨p.lo,s.hi⟩])=some o:=e
    obtain⟨g1,g2⟩:=nB hnx (out:=q++[⟨p.lo,s.hi⟩]) ⟨fun x hx=>by
     rcases Tz.1 hx with hx|hx
     ·exact h.eG x (Ua _ hx)
     ·rw[To.1 hx]
      exact⟨hp.1,hs.2.1,by show p.lo<=s.hi;omega,hp.2.2.2.1,hs.2.2.2.2⟩,T1.2 ⟨hap.1,T7 _ _,fun x hx y hy=>by
     rw[To.1 hy]
     exact hap.2.2 x hx p (by simp)⟩⟩ hr' (T1.2 ⟨T1.2 ⟨(T1.1 haa.1).1,T7 _ _,fun x hx y hy=>by
      rw[To.1 hy]
      exact(T1.1 haa.1).2.2 x hx p (by simp)⟩,(TW.1 haa.2.1).2,fun x hx y hy=>by
      rcases Tz.1 hx with hx|hx
      ·exact haa.2.2 x (Ua _ hx) y (Tm _ hy)
      ·rw[To.1 hx]
       exact(TW.1 haa.2.1).1 y hy⟩) e
    refine⟨g1,fun u hu=> ?_⟩
    rw[g2 u hu,jP,fa,jP,fa,dL]
    have:(p.lo<=u/\u<=s.hi)↔(p.lo<=u/\u<=p.hi)\/(s.lo<=u/\u<=s.hi):=by
     constructor
     ·intro x
      by_cases y:u<=p.hi
      ·exact .inl ⟨x.1,y⟩
      ·have:=hmx.2 u hu ii
       exact .inr ⟨by omega,x.2⟩
     ·rintro(x|x)<;>omega
    show(fy q u\/(p.lo<=u/\u<=s.hi))\/fy r u↔_
    rw[this]
    constructor
    ·rintro((g|g|g)|g)
     ·exact .inl (.inl g)
     ·exact .inl (.inr g)
     ·exact .inr (.inl g)
     ·exact .inr (.inr g)
    ·rintro((g|g)|g|g)
     ·exact .inl (.inl g)
     ·exact .inl (.inr (.inl g))
     ·exact .inl (.inr (.inr g))
     ·exact .inr g
   ·rw[Ti g] at e
    obtain⟨_,e⟩:=ay e
    obtain⟨g1,g2⟩:=nB hnx (out:=(q++[p])++[s]) ⟨fun x hx=>by
     rcases Tz.1 hx with hx|hx
     ·exact h.eG x hx
     ·rw[To.1 hx]
      exact hs,T1.2 ⟨h.ap,T7 _ _,fun x hx y hy=>by
     rw[To.1 hy]
     refine⟨haa.2.2 x hx s (by simp),fun m' hm'=> ?_⟩
     rcases Tz.1 hx with hx|hx
     ·have:=(hap.2.2 x hx p (by simp)).2 m' hm'
      omega
     ·rw[To.1 hx,hm] at hm'
      cases hm'
      omega⟩⟩ hr' (by rw[TP];exact ha) e
    refine⟨g1,fun u hu=> ?_⟩
    rw[g2 u hu,jP,fa,dL,or_assoc]
theorem Ch (hnx:∀x m,next x=some m->x<m):∀{r out o:List Sv.Span},((out++r).Pairwise fun x y=>x.hi<y.lo/\∀m,next x.hi=some m->m<y.lo)->iK next r out=some o->o=out++r
 |[],out,o,_,e=>by
  cases e
  rw[TK]
 |s::r,out,o,h,e=>by
  have h':((out++[s])++r).Pairwise fun x y=>x.hi<y.lo/\∀m,next x.hi=some m->m<y.lo:=by rw[TP];exact h
  have fin:∀{o},iK next r (out++[s])=some o->o=out++s::r:=fun e=>by
   have:=Ch hnx h' e
   rw[this,TP]
   rfl
  unfold iK at e
  obtain⟨_,e⟩:=ah e
  by_cases g0:(out.length:Int)>0
  ·rw[Th g0] at e
   obtain⟨j,p,hj,hp,e⟩:=av e
   obtain⟨m,hm,e⟩:=aa e
   have:=((T1.1 h).2.2 p (Ts hp) s (by simp)).2 m hm
   rw[Ti ii] at e
   obtain⟨_,e⟩:=ay e
   exact fin e
  ·rw[Ti g0] at e
   obtain⟨_,e⟩:=ay e
   exact fin e
theorem uV (hnx:∀x m,next x=some m->x<m/\∀u,P u->x<u->m<=u) {l o:List Sv.Span} (hr:∀s∈l,-B<=s.lo/\s.hi<=B/\s.lo<=s.hi/\P s.lo/\P s.hi) (ha:n4 l) (e:jZ next l=some o):Cn next P B o/\∀u,P u->(fy o u↔fy l u):=by
 unfold jZ at e
 obtain⟨_,e⟩:=ah e
 obtain⟨l',h1,e⟩:=aa e
 rw[xp ha (fun s hs=>(hr s hs).2.2.1) h1] at e
 obtain⟨_,e⟩:=ah e
 obtain⟨g1,g2⟩:=nB hnx (out:=[]) ⟨fun s hs=>(by cases hs),List.Pairwise.nil⟩ hr ha e
 exact⟨g1,fun u hu=>(g2 u hu).trans ⟨fun g=>g.elim (fun g=>(dY u g).elim) id,.inr⟩⟩
theorem xZ (hnx:∀x m,next x=some m->x<m) {l o:List Sv.Span} (h:Cn next P B l) (e:jZ next l=some o):o=l:=by
 unfold jZ at e
 obtain⟨_,e⟩:=ah e
 obtain⟨l',h1,e⟩:=aa e
 rw[xp h.xa h.ord h1] at e
 obtain⟨_,e⟩:=ah e
 exact Ch hnx (out:=[]) h.ap e
end
def qF (_:Int):Prop:=True
def fO (u:Int):Prop:=u % 10000≠0
theorem l7 (u:Int):u.tmod 10000=0↔u % 10000=0:=⟨fun h=>Int.emod_eq_zero_of_dvd (Int.dvd_of_tmod_eq_zero h),fun h=>Int.tmod_eq_zero_of_dvd (Int.dvd_of_emod_eq_zero h)⟩
theorem tA:∀x m,whole x=some m->x<m/\∀u,qF u->x<u->m<=u:=fun x m h=>by
 unfold whole at h
 obtain⟨_,h⟩:=ah h
 cases h
 exact⟨by omega,fun u _ hu=>by omega⟩
theorem vX:∀x m,after x=some m->x<m/\∀u,fO u->x<u->m<=u:=fun x m h=>by
 unfold after at h
 obtain⟨_,h⟩:=ah h
 by_cases g:(x+1).tmod 10000=0
 ·rw[Th g] at h
  obtain⟨_,h⟩:=ah h
  cases h
  rw[l7] at g
  exact⟨by omega,fun u hu h1=>by
   unfold fO at hu
   by_cases e:u=x+1
   ·subst e;exact(hu g).elim
   ·omega⟩
 ·rw[Ti g] at h
  cases h
  exact⟨by omega,fun u _ hu=>by omega⟩
theorem P0:∀x m,back x=some m->m<x/\∀u,qF u->u<x->u<=m:=fun x m h=>by
 unfold back at h
 obtain⟨_,h⟩:=ah h
 cases h
 exact⟨by omega,fun u _ hu=>by omega⟩
theorem Ji:∀x m,before x=some m->m<x/\∀u,fO u->u<x->u<=m:=fun x m h=>by
 unfold before at h
 obtain⟨_,h⟩:=ah h
 by_cases g:(x-1).tmod 10000=0
 ·rw[Th g] at h
  obtain⟨_,h⟩:=ah h
  cases h
  rw[l7] at g
  exact⟨by omega,fun u hu h1=>by
   unfold fO at hu
   by_cases e:u=x-1
   ·subst e;exact(hu g).elim
   ·omega⟩
 ·rw[Ti g] at h
  cases h
  exact⟨by omega,fun u _ hu=>by omega⟩
theorem oo {a b u:Int}:mx a b<=u↔a<=u/\b<=u:=by unfold mx;split<;>omega
theorem p8 {a b u:Int}:u<=mn a b↔u<=a/\u<=b:=by unfold mn;split<;>omega
theorem Df {out r:List Sv.Span} {x:Sv.Span} (h:n4 (out++x::r)):n4 (out++r):=h.sublist (List.Sublist.append (List.Sublist.refl _) (List.sublist_cons_self ..))
theorem Hd {out r:List Sv.Span} {x y:Sv.Span} (h:n4 (out++x::r)) (h1:x.lo<=y.lo) (h2:y.hi<=x.hi):n4 ((out++[y])++r):=by
 have ha:=T1.1 h
 have hb:=TW.1 ha.2.1
 rw[TP]
 refine T1.2 ⟨ha.1,TW.2 ⟨fun z hz=> ?_,hb.2⟩,fun a haa z hz=> ?_⟩
 ·have:=hb.1 z hz
  omega
 ·rcases Tv.1 hz with rfl|hz
  ·have:=ha.2.2 a haa x (Tn ..)
   omega
  ·exact ha.2.2 a haa z (Tm _ hz)
theorem zN:∀{r out o:List Sv.Span},n4 (out++r)->(∀s∈out,-100000000000<=s.lo/\s.hi<=100000000000/\s.lo<=s.hi/\qF s.lo/\qF s.hi)->Jv r out=some o->n4 o/\(∀s∈o,-100000000000<=s.lo/\s.hi<=100000000000/\s.lo<=s.hi/\qF s.lo/\qF s.hi)/\∀u,fy o u↔fy out u\/(fy r u/\ -100000000000<=u/\u<=100000000000)
 |[],out,o,ha,h,e=>by
  cases e
  rw[TK] at ha
  exact⟨ha,h,fun u=>⟨.inl,fun g=>g.elim id fun g=>(dY u g.1).elim⟩⟩
 |x::r,out,o,ha,h,e=>by
  unfold Jv at e
  by_cases g:mx x.lo (-100000000000)<=mn x.hi 100000000000
  ·rw[Th g] at e
   obtain⟨_,e⟩:=ay e
   have g1:x.lo<=mx x.lo (-100000000000):=(oo.1 (TM _)).1
   have g2:mn x.hi 100000000000<=x.hi:=(p8.1 (TM _)).1
   obtain⟨h1,h2,h3⟩:=zN (Hd ha (y:=⟨mx x.lo (-100000000000),mn x.hi 100000000000⟩) g1 g2) (fun s hs=>by
    rcases Tz.1 hs with hs|hs
    ·exact h s hs
    ·rw[To.1 hs]
     exact⟨(oo.1 (TM _)).2,(p8.1 (TM _)).2,g,trivial,trivial⟩) e
   refine⟨h1,h2,fun u=> ?_⟩
   rw[h3,jP,fa,dL,oo,p8]
   constructor
   ·rintro((y|y)|y)
    ·exact .inl y
    ·exact .inr ⟨.inl ⟨y.1.1,y.2.1⟩,y.1.2,y.2.2⟩
    ·exact .inr ⟨.inr y.1,y.2⟩
   ·rintro(y|⟨y|y,z⟩)
    ·exact .inl (.inl y)
    ·exact .inl (.inr ⟨⟨y.1,z.1⟩,y.2,z.2⟩)
    ·exact .inr ⟨y,z⟩
  ·rw[Ti g] at e
   obtain⟨h1,h2,h3⟩:=zN (Df ha) h e
   refine⟨h1,h2,fun u=> ?_⟩
   rw[h3,dL]
   constructor
   ·rintro(y|y)
    ·exact .inl y
    ·exact .inr ⟨.inr y.1,y.2⟩
   ·rintro(y|⟨y|y,z⟩)
    ·exact .inl y
    ·exact(g (Vj (oo.2 ⟨y.1,z.1⟩) (p8.2 ⟨y.2,z.2⟩))).elim
    ·exact .inr ⟨y,z⟩
theorem J6 {n m:Int} (h:Bi n=some m):n<=m/\fO m/\∀u,fO u->(n<=u↔m<=u):=by
 unfold Bi at h
 by_cases g:n.tmod 10000=0
 ·rw[Th g] at h
  obtain⟨_,h⟩:=ah h
  cases h
  rw[l7] at g
  refine⟨by omega,by unfold fO;omega,fun u hu=>⟨fun x=> ?_,fun x=>by omega⟩⟩
  unfold fO at hu
  by_cases e:u=n
  ·subst e;exact(hu g).elim
  ·omega
 ·rw[Ti g] at h
  cases h
  rw[l7] at g
  exact⟨TM _,g,fun u _=>UF⟩
theorem J8 {n m:Int} (h:zf n=some m):m<=n/\fO m/\∀u,fO u->(u<=n↔u<=m):=by
 unfold zf at h
 by_cases g:n.tmod 10000=0
 ·rw[Th g] at h
  obtain⟨_,h⟩:=ah h
  cases h
  rw[l7] at g
  refine⟨by omega,by unfold fO;omega,fun u hu=>⟨fun x=> ?_,fun x=>by omega⟩⟩
  unfold fO at hu
  by_cases e:u=n
  ·subst e;exact(hu g).elim
  ·omega
 ·rw[Ti g] at h
  cases h
  rw[l7] at g
  exact⟨TM _,g,fun u _=>UF⟩
theorem zP:∀{r out o:List Sv.Span},n4 (out++r)->(∀s∈out,-1000000000000000<=s.lo/\s.hi<=1000000000000000/\s.lo<=s.hi/\fO s.lo/\fO s.hi)->Jw r out=some o->n4 o/\(∀s∈o,-1000000000000000<=s.lo/\s.hi<=1000000000000000/\s.lo<=s.hi/\fO s.lo/\fO s.hi)/\∀u,fO u->(fy o u↔fy out u\/(fy r u/\ -1000000000000000<=u/\u<=1000000000000000))
 |[],out,o,ha,h,e=>by
  cases e
  rw[TK] at ha
  exact⟨ha,h,fun u _=>⟨.inl,fun g=>g.elim id fun g=>(dY u g.1).elim⟩⟩
 |x::r,out,o,ha,h,e=>by
  unfold Jw at e
  obtain⟨lo,hlo,e⟩:=aa e
  obtain⟨hi,hhi,e⟩:=aa e
  obtain⟨l1,l2,l3⟩:=J6 hlo
  obtain⟨k1,k2,k3⟩:=J8 hhi
  have m1:=oo.1 l1
  have m2:=p8.1 k1
  have key:∀u,fO u->((lo<=u/\u<=hi)↔((x.lo<=u/\u<=x.hi)/\ -1000000000000000<=u/\u<=1000000000000000)):=fun u hu=>by
   rw[<-l3 u hu,<-k3 u hu,oo,p8]
   omega
  by_cases g:lo<=hi
  ·rw[Th g] at e
   obtain⟨_,e⟩:=ay e
   obtain⟨h1,h2,h3⟩:=zP (Hd ha (y:=⟨lo,hi⟩) m1.1 m2.1) (fun s hs=>by
    rcases Tz.1 hs with hs|hs
    ·exact h s hs
    ·rw[To.1 hs]
     exact⟨m1.2,m2.2,g,l2,k2⟩) e
   refine⟨h1,h2,fun u hu=> ?_⟩
   rw[h3 u hu,jP,fa,dL]
   show(fy out u\/(lo<=u/\u<=hi))\/_↔_
   rw[key u hu]
   constructor
   ·rintro((y|y)|y)
    ·exact .inl y
    ·exact .inr ⟨.inl y.1,y.2⟩
    ·exact .inr ⟨.inr y.1,y.2⟩
   ·rintro(y|⟨y|y,z⟩)
    ·exact .inl (.inl y)
    ·exact .inl (.inr ⟨y,z⟩)
    ·exact .inr ⟨y,z⟩
  ·rw[Ti g] at e
   obtain⟨h1,h2,h3⟩:=zP (Df ha) h e
   refine⟨h1,h2,fun u hu=> ?_⟩
   rw[h3 u hu,dL]
   constructor
   ·rintro(y|y)
    ·exact .inl y
    ·exact .inr ⟨.inr y.1,y.2⟩
   ·rintro(y|⟨y|y,z⟩)
    ·exact .inl y
    ·have:=(key u hu).2 ⟨y,z⟩
     omega
    ·exact .inr ⟨y,z⟩
structure CN (n:cO):Prop where
 i:Cn whole qF 100000000000 n.ints
 f:Cn after fO 1000000000000000 n.bz
theorem rb {s r:cO} (hi:n4 s.ints) (hf:n4 s.bz) (e:fG s=some r):CN r/\(∀u,fy r.ints u↔fy s.ints u/\ -100000000000<=u/\u<=100000000000)/\∀u,fO u->(fy r.bz u↔fy s.bz u/\ -1000000000000000<=u/\u<=1000000000000000):=by
 unfold fG at e
 obtain⟨_,e⟩:=ah e
 obtain⟨i,h1,e⟩:=aa e
 obtain⟨_,e⟩:=ah e
 obtain⟨f,h2,e⟩:=aa e
 obtain⟨i',h3,e⟩:=aa e
 obtain⟨f',h4,e⟩:=aa e
 cases e
 obtain⟨a1,a2,a3⟩:=zN (out:=[]) hi (fun s hs=>by cases hs) h1
 obtain⟨b1,b2,b3⟩:=zP (out:=[]) hf (fun s hs=>by cases hs) h2
 obtain⟨c1,c2⟩:=uV tA a2 a1 h3
 obtain⟨d1,d2⟩:=uV vX b2 b1 h4
 exact⟨⟨c1,d1⟩,fun u=>((c2 u trivial).trans (a3 u)).trans ⟨fun g=>g.elim (fun g=>(dY u g).elim) id,.inr⟩,fun u hu=>((d2 u hu).trans (b3 u hu)).trans ⟨fun g=>g.elim (fun g=>(dY u g).elim) id,.inr⟩⟩
theorem K8:∀{r out o:List Sv.Span},(∀s∈r,-100000000000<=s.lo/\s.hi<=100000000000/\s.lo<=s.hi/\qF s.lo/\qF s.hi)->Jv r out=some o->o=out++r
 |[],out,o,_,e=>by cases e;rw[TK]
 |x::r,out,o,h,e=>by
  have hx:=h x (Tn ..)
  have e1:mx x.lo (-100000000000)=x.lo:=by unfold mx;rw[Ti ii]
  have e2:mn x.hi 100000000000=x.hi:=by unfold mn;rw[Ti ii]
  unfold Jv at e
  rw[e1,e2,Th hx.2.2.1] at e
  obtain⟨_,e⟩:=ay e
  rw[K8 (fun s hs=>h s (Tm _ hs)) e,TP]
  rfl
theorem K9:∀{r out o:List Sv.Span},(∀s∈r,-1000000000000000<=s.lo/\s.hi<=1000000000000000/\s.lo<=s.hi/\fO s.lo/\fO s.hi)->Jw r out=some o->o=out++r
 |[],out,o,_,e=>by cases e;rw[TK]
 |x::r,out,o,h,e=>by
  have hx:=h x (Tn ..)
  have e1:mx x.lo (-1000000000000000)=x.lo:=by unfold mx;rw[Ti ii]
  have e2:mn x.hi 1000000000000000=x.hi:=by unfold mn;rw[Ti ii]
  have e3:Bi x.lo=some x.lo:=by
   unfold Bi
   rw[Ti fun g=>hx.2.2.2.1 ((l7 _).1 g)]
  have e4:zf x.hi=some x.hi:=by
   unfold zf
   rw[Ti fun g=>hx.2.2.2.2 ((l7 _).1 g)]
  unfold Jw at e
  rw[e1,e2,e3,HP,e4,HP,Th hx.2.2.1] at e
  obtain⟨_,e⟩:=ay e
  rw[K9 (fun s hs=>h s (Tm _ hs)) e,TP]
  rfl
theorem jm {s r:cO} (h:CN s) (e:fG s=some r):r=s:=by
 unfold fG at e
 obtain⟨_,e⟩:=ah e
 obtain⟨i,h1,e⟩:=aa e
 obtain⟨_,e⟩:=ah e
 obtain⟨f,h2,e⟩:=aa e
 obtain⟨i',h3,e⟩:=aa e
 obtain⟨f',h4,e⟩:=aa e
 cases e
 have e1:i=s.ints:=K8 (out:=[]) h.i.eG h1
 have e2:f=s.bz:=K9 (out:=[]) h.f.eG h2
 subst e1 e2
 rw[xZ (fun x m hm=>(tA x m hm).1) h.i h3,xZ (fun x m hm=>(vX x m hm).1) h.f h4]
theorem rB {x:Sv.Span}:∀{r out o:List Sv.Span},n4 r->n4 out->(∀s∈out,s.hi<=x.hi\/s.hi<x.lo)->(∀s∈out,∀y∈r,s.hi<mx x.lo y.lo)->ou x r out=some o->n4 o/\(∀s∈o,s.hi<=x.hi\/s.hi<x.lo)/\∀u,fy o u↔fy out u\/((x.lo<=u/\u<=x.hi)/\fy r u)
 |[],out,o,_,h1,h2,_,e=>by
  cases e
  exact⟨h1,h2,fun u=>⟨.inl,fun g=>g.elim id fun g=>(dY u g.2).elim⟩⟩
 |y::r,out,o,ha,h1,h2,h3,e=>by
  have ha':=TW.1 ha
  unfold ou at e
  by_cases g:mx x.lo y.lo<=mn x.hi y.hi
  ·rw[Th g] at e
   obtain⟨_,e⟩:=ay e
   have m1:=p8.1 (TM (mn x.hi y.hi))
   obtain⟨c1,c2,c3⟩:=rB (out:=out++[⟨mx x.lo y.lo,mn x.hi y.hi⟩]) ha'.2 (T1.2 ⟨h1,T7 _ _,fun s hs z hz=>by
    rw[To.1 hz]
    exact h3 s hs y (Tn ..)⟩) (fun s hs=>by
    rcases Tz.1 hs with hs|hs
    ·exact h2 s hs
    ·rw[To.1 hs]
     exact .inl m1.1) (fun s hs z hz=>by
    rcases Tz.1 hs with hs|hs
    ·exact h3 s hs z (Tm _ hz)
    ·rw[To.1 hs]
     have:=ha'.1 z hz
     have:=oo.1 (TM (mx x.lo z.lo))
     show mn x.hi y.hi<_
     omega) e
   refine⟨c1,c2,fun u=> ?_⟩
   rw[c3,jP,fa,dL,oo,p8]
   constructor
   ·rintro((z|z)|z)
    ·exact .inl z
    ·exact .inr ⟨⟨z.1.1,z.2.1⟩,.inl ⟨z.1.2,z.2.2⟩⟩
    ·exact .inr ⟨z.1,.inr z.2⟩
   ·rintro(z|⟨z,w|w⟩)
    ·exact .inl (.inl z)
    ·exact .inl (.inr ⟨⟨z.1,w.1⟩,z.2,w.2⟩)
    ·exact .inr ⟨z,w⟩
  ·rw[Ti g] at e
   obtain⟨c1,c2,c3⟩:=rB ha'.2 h1 h2 (fun s hs z hz=>h3 s hs z (Tm _ hz)) e
   refine⟨c1,c2,fun u=> ?_⟩
   rw[c3,dL]
   constructor
   ·rintro(z|z)
    ·exact .inl z
    ·exact .inr ⟨z.1,.inr z.2⟩
   ·rintro(z|⟨z,w|w⟩)
    ·exact .inl z
    ·exact(g (Vj (oo.2 ⟨z.1,w.1⟩) (p8.2 ⟨z.2,w.2⟩))).elim
    ·exact .inr ⟨z,w⟩
theorem CV {b:List Sv.Span} (hb:n4 b):∀{r out o:List Sv.Span},n4 r->(∀s∈r,s.lo<=s.hi)->n4 out->(∀s∈out,∀x∈r,s.hi<x.lo)->Aj b r out=some o->n4 o/\∀u,fy o u↔fy out u\/(fy r u/\fy b u)
 |[],out,o,_,_,h1,_,e=>by
  cases e
  exact⟨h1,fun u=>⟨.inl,fun g=>g.elim id fun g=>(dY u g.1).elim⟩⟩
 |x::r,out,o,ha,ho,h1,h2,e=>by
  have ha':=TW.1 ha
  unfold Aj at e
  obtain⟨_,e⟩:=ah e
  obtain⟨out',h3,e⟩:=aa e
  have hx:=ho x (Tn ..)
  obtain⟨c1,c2,c3⟩:=rB hb h1 (fun s hs=> .inr (h2 s hs x (Tn ..))) (fun s hs y hy=>by
   have:=h2 s hs x (Tn ..)
   have:=oo.1 (TM (mx x.lo y.lo))
   omega) h3
  obtain⟨d1,d2⟩:=CV hb ha'.2 (fun s hs=>ho s (Tm _ hs)) c1 (fun s hs z hz=>by
   have:=ha'.1 z hz
   have:=c2 s hs
   omega) e
  refine⟨d1,fun u=> ?_⟩
  rw[d2,c3,dL]
  constructor
  ·rintro((z|z)|z)
   ·exact .inl z
   ·exact .inr ⟨.inl z.1,z.2⟩
   ·exact .inr ⟨.inr z.1,z.2⟩
  ·rintro(z|⟨z|z,w⟩)
   ·exact .inl (.inl z)
   ·exact .inl (.inr ⟨z,w⟩)
   ·exact .inr ⟨z,w⟩
theorem vC {a b o:List Sv.Span} (ha:n4 a) (ho:∀s∈a,s.lo<=s.hi) (hb:n4 b) (e:jU a b=some o):n4 o/\∀u,fy o u↔fy a u/\fy b u:=by
 unfold jU at e
 obtain⟨_,e⟩:=ah e
 obtain⟨c1,c2⟩:=CV hb ha ho List.Pairwise.nil (fun s hs=>by cases hs) e
 exact⟨c1,fun u=>(c2 u).trans ⟨fun g=>g.elim (fun g=>(dY u g).elim) id,.inr⟩⟩
theorem Cv {next prev:Int->Option Int} {P:Int->Prop} (hnx:∀x m,next x=some m->x<m/\∀u,P u->x<u->m<=u) (hpv:∀x m,prev x=some m->m<x/\∀u,P u->u<x->u<=m) {hi:Int}:
  ∀{r:List Sv.Span} {lo:Int} {out o:List Sv.Span},n4 r->(∀s∈r,s.lo<=s.hi/\s.lo<=hi+1)->(∀s∈r,∀u,P u->s.hi<u->lo<=u)->n4 out->(∀s∈out,s.hi<lo)->(∀s∈r,∀t∈out,t.hi<s.lo)->rp next prev hi r lo out=some o->n4 o/\∀u,P u->(fy o u↔fy out u\/(lo<=u/\u<=hi/\¬fy r u))
 |[],lo,out,o,_,_,_,h1,h2,_,e=>by
  unfold rp at e
  by_cases g:lo<=hi
  ·rw[Th g] at e
   unfold push at e
   split at e<;>cases e
   refine⟨T1.2 ⟨h1,T7 _ _,fun s hs z hz=>by rw[To.1 hz];exact h2 s hs⟩,fun u _=> ?_⟩
   rw[jP,fa]
   exact⟨fun x=>x.elim .inl fun x=> .inr ⟨x.1,x.2,dY u⟩,fun x=>x.elim .inl fun x=> .inr ⟨x.1,x.2.1⟩⟩
  ·rw[Ti g] at e
   cases e
   exact⟨h1,fun u _=>⟨.inl,fun x=>x.elim id fun x=>by omega⟩⟩
 |s::r,lo,out,o,ha,hs,hl,h1,h2,h3,e=>by
  have ha':=TW.1 ha
  have hs0:=hs s (Tn ..)
  unfold rp at e
  obtain⟨h,hh,e⟩:=aa e
  have hp:=hpv _ _ hh
  have fin:∀{out':List Sv.Span},n4 out'->(∀t∈out',t.hi<s.lo)->(∀u,P u->(fy out' u↔fy out u\/(lo<=u/\u<s.lo)))->((next s.hi).bind fun lo=>rp next prev hi r lo out')=some o->n4 o/\∀u,P u->(fy o u↔fy out u\/(lo<=u/\u<=hi/\¬fy (s::r) u)):=fun{out'} k1 k2 k3 e=>by
   obtain⟨m,hm,e⟩:=aa e
   have hn:=hnx _ _ hm
   obtain⟨c1,c2⟩:=Cv hnx hpv ha'.2 (fun z hz=>hs z (Tm _ hz)) (fun z hz u hu h4=>hn.2 u hu (by have:=ha'.1 z hz;have:=(hs z (Tm _ hz)).1;omega)) k1 (fun t ht=>by have:=k2 t ht;omega) (fun z hz t ht=>by have:=k2 t ht;have:=ha'.1 z hz;omega) e
   refine⟨c1,fun u hu=> ?_⟩
   rw[c2 u hu,k3 u hu,dL]
   constructor
   ·rintro((x|x)|x)
    ·exact .inl x
    ·refine .inr ⟨x.1,by omega,fun y=> ?_⟩
     rcases y with y|⟨z,hz,y⟩
     ·omega
     ·have:=ha'.1 z hz
      omega
    ·refine .inr ⟨hl s (Tn ..) u hu ii,x.2.1,fun y=> ?_⟩
     rcases y with y|y
     ·omega
     ·exact x.2.2 y
   ·rintro(x|x)
    ·exact .inl (.inl x)
    ·by_cases y:u<s.lo
     ·exact .inl (.inr ⟨x.1,y⟩)
     ·by_cases z:u<=s.hi
      ·exact(x.2.2 (.inl ⟨by omega,z⟩)).elim
      ·exact .inr ⟨hn.2 u hu ii,x.2.1,fun w=>x.2.2 (.inr w)⟩
  by_cases g:lo<=h
  ·rw[Th g] at e
   obtain⟨_,e⟩:=ay e
   refine fin (T1.2 ⟨h1,T7 _ _,fun t ht z hz=>by rw[To.1 hz];exact h2 t ht⟩) (fun t ht=> ?_) (fun u hu=> ?_) e
   ·rcases Tz.1 ht with ht|ht
    ·exact h3 s (Tn ..) t ht
    ·rw[To.1 ht]
     exact hp.1
   ·rw[jP,fa]
    exact⟨fun x=>x.elim .inl fun x=> .inr ⟨x.1,by have:u<=h:=x.2;omega⟩,fun x=>x.elim .inl fun x=> .inr ⟨x.1,hp.2 u hu x.2⟩⟩
  ·rw[Ti g] at e
   refine fin h1 (fun t ht=>h3 s (Tn ..) t ht) (fun u hu=> ?_) e
   exact⟨.inl,fun x=>x.elim id fun x=>by have:=hp.2 u hu x.2;omega⟩
theorem CW {next prev:Int->Option Int} {P:Int->Prop} (hnx:∀x m,next x=some m->x<m/\∀u,P u->x<u->m<=u) (hpv:∀x m,prev x=some m->m<x/\∀u,P u->u<x->u<=m) {l o:List Sv.Span} {all:Sv.Span} (ha:n4 l) (hs:∀s∈l,s.lo<=s.hi/\s.lo<=all.hi+1) (hl:∀s∈l,all.lo<=s.hi+1) (e:ow next prev l all=some o):n4 o/\∀u,P u->(fy o u↔all.lo<=u/\u<=all.hi/\¬fy l u):=by
 unfold ow LN at e
 rw[Tl] at e
 obtain⟨_,e⟩:=ah e
 obtain⟨r,e1,e⟩:=aa e
 cases e
 obtain⟨c1,c2⟩:=Cv hnx hpv ha hs (fun s h u _ h1=>by have:=hl s h;omega) List.Pairwise.nil (fun s hs=>by cases hs) (fun s _ t ht=>by cases ht) e1
 exact⟨c1,fun u hu=>(c2 u hu).trans ⟨fun g=>g.elim (fun g=>(dY u g).elim) id,.inr⟩⟩
def NM (n:cO) (v:Int):Prop:=(v % 10000=0/\fy n.ints (v/10000))\/(fO v/\fy n.bz v)
theorem K0 {a r:cO} (h:CN a) (e:En a=some r):CN r/\(∀u,fy r.ints u↔(-100000000000<=u/\u<=100000000000)/\¬fy a.ints u)/\∀u,fO u->(fy r.bz u↔(-1000000000000000<=u/\u<=1000000000000000)/\¬fy a.bz u):=by
 unfold En Jo Cj yh at e
 obtain⟨x,h1,e⟩:=aa e
 rw[jm h h1] at e
 rw[HP,HP] at e
 have e:((ow whole back a.ints ⟨-100000000000,100000000000⟩).bind fun i=>(ow after before a.bz ⟨-999999999999999,999999999999999⟩).bind fun f=>fG ⟨i,f⟩)=some r:=e
 obtain⟨i,h2,e⟩:=aa e
 obtain⟨f,h3,e⟩:=aa e
 obtain⟨i1,i2⟩:=CW tA P0 h.i.xa (fun s hs=>by have:=h.i.eG s hs;exact⟨this.2.2.1,by show s.lo<=100000000000+1;omega⟩) (fun s hs=>by have:=h.i.eG s hs;show -100000000000<=s.hi+1;omega) h2
 obtain⟨f1,f2⟩:=CW vX Ji h.f.xa (fun s hs=>by have:=h.f.eG s hs;exact⟨this.2.2.1,by show s.lo<=999999999999999+1;omega⟩) (fun s hs=>by have:=h.f.eG s hs;show -999999999999999<=s.hi+1;omega) h3
 obtain⟨c1,c2,c3⟩:=rb i1 f1 e
 refine⟨c1,fun u=> ?_,fun u hu=> ?_⟩
 ·rw[c2,i2 u trivial]
  exact⟨fun g=>⟨g.2,g.1.2.2⟩,fun g=>⟨⟨g.1.1,g.1.2,g.2⟩,g.1⟩⟩
 ·rw[c3 u hu,f2 u hu]
  refine⟨fun g=>⟨g.2,g.1.2.2⟩,fun g=>⟨⟨?_,?_,g.2⟩,g.1⟩⟩
  ·have:=g.1
   unfold fO at hu
   show -999999999999999<=u
   omega
  ·have:=g.1
   unfold fO at hu
   show u<=999999999999999
   omega
theorem MS {a b r:cO} (ha:CN a) (hb:CN b) (e:Fk a b=some r):CN r/\(∀u,fy r.ints u↔fy a.ints u/\fy b.ints u)/\∀u,fO u->(fy r.bz u↔fy a.bz u/\fy b.bz u):=by
 unfold Fk at e
 obtain⟨x,h1,e⟩:=aa e
 obtain⟨y,h2,e⟩:=aa e
 rw[jm ha h1,jm hb h2] at e
 obtain⟨i,h3,e⟩:=aa e
 obtain⟨f,h4,e⟩:=aa e
 obtain⟨i1,i2⟩:=vC ha.i.xa ha.i.ord hb.i.xa h3
 obtain⟨f1,f2⟩:=vC ha.f.xa ha.f.ord hb.f.xa h4
 obtain⟨c1,c2,c3⟩:=rb i1 f1 e
 refine⟨c1,fun u=> ?_,fun u hu=> ?_⟩
 ·rw[c2,i2]
  exact⟨fun g=>g.1,fun g=>⟨g,by
   obtain⟨s,hs,h5⟩:=g.1
   have:=ha.i.eG s hs
   omega⟩⟩
 ·rw[c3 u hu,f2]
  exact⟨fun g=>g.1,fun g=>⟨g,by
   obtain⟨s,hs,h5⟩:=g.1
   have:=ha.f.eG s hs
   omega⟩⟩
theorem Et {a b r:cO} (ha:CN a) (hb:CN b) (e:kZ a b=some r):CN r/\∀v,NM r v↔NM a v/\¬NM b v:=by
 unfold kZ at e
 obtain⟨c,h1,e⟩:=aa e
 obtain⟨n1,n2,n3⟩:=K0 hb h1
 obtain⟨a1,a2,a3⟩:=MS ha n1 e
 refine⟨a1,fun v=> ?_⟩
 unfold NM
 by_cases g:v % 10000=0
 ·have gf:¬fO v:=fun x=>x g
  have f1:∀n:cO,((v % 10000=0/\fy n.ints (v/10000))\/(fO v/\fy n.bz v))↔fy n.ints (v/10000):=fun n=>⟨fun x=>x.elim (fun x=>x.2) fun x=>(gf x.1).elim,fun x=> .inl ⟨g,x⟩⟩
  rw[f1,f1,f1,a2,n2]
  refine⟨fun x=>⟨x.1,x.2.2⟩,fun x=>⟨x.1,?_,x.2⟩⟩
  obtain⟨s,hs,h5⟩:=x.1
  have:=ha.i.eG s hs
  omega
 ·have f1:∀n:cO,((v % 10000=0/\fy n.ints (v/10000))\/(fO v/\fy n.bz v))↔fy n.bz v:=fun n=>⟨fun x=>x.elim (fun x=>(g x.1).elim) fun x=>x.2,fun x=> .inr ⟨g,x⟩⟩
  rw[f1,f1,f1,a3 v g,n3 v g]
  refine⟨fun x=>⟨x.1,x.2.2⟩,fun x=>⟨x.1,?_,x.2⟩⟩
  obtain⟨s,hs,h5⟩:=x.1
  have:=ha.f.eG s hs
  omega
theorem pI {u best:Int} {found:Bool} {p:Int×Bool} (e:take u best found=some p):p.2=true:=by
 unfold take at e
 cases found with
 |false=>cases e;rfl
 |true=>
  rw[Th rfl] at e
  obtain⟨c,_,e⟩:=aa e
  cases c<;>(cases e;rfl)
theorem Cb:∀{l:List Sv.Span} {best:Int} {found:Bool} {p:Int×Bool},uQ l best found=some p->p.2=(found|| !l.isEmpty)
 |[],best,found,p,e=>by cases e;simp
 |y::r,best,found,p,e=>by
  unfold uQ at e
  obtain⟨n,_,e⟩:=aa e
  obtain⟨_,e⟩:=ah e
  obtain⟨q,hq,e⟩:=aa e
  rw[Cb e,pI hq]
  simp
theorem B9:∀{l:List Sv.Span} {best:Int} {found:Bool} {p:Int×Bool},uP l best found=some p->p.2=(found|| !l.isEmpty)
 |[],best,found,p,e=>by cases e;simp
 |y::r,best,found,p,e=>by
  unfold uP at e
  obtain⟨n,_,e⟩:=aa e
  obtain⟨q,hq,e⟩:=aa e
  rw[B9 e,pI hq]
  simp
theorem uN {n:cO} (h:CN n) {p:Int×Bool} (e:iC n=some p):p.2=true↔∃v,NM n v:=by
 unfold iC at e
 obtain⟨x,h1,e⟩:=aa e
 rw[jm h h1] at e
 obtain⟨_,e⟩:=ah e
 obtain⟨q,h2,e⟩:=aa e
 obtain⟨_,e⟩:=ah e
 rw[B9 e,Cb h2]
 constructor
 ·intro g
  rcases hi:n.ints with _|⟨s,r⟩
  ·rcases hf:n.bz with _|⟨s,r⟩
   ·rw[hi,hf] at g
    cases g
   ·have:=h.f.eG s (by rw[hf];simp)
    exact⟨s.lo,.inr ⟨this.2.2.2.1,s,by rw[hf];simp,TM _,this.2.2.1⟩⟩
  ·have:=h.i.eG s (by rw[hi];simp)
   refine⟨s.lo*10000,.inl ⟨by omega,s,by rw[hi];simp,?_⟩⟩
   rw[Int.mul_ediv_cancel _ (by decide)]
   exact⟨TM _,this.2.2.1⟩
 ·rintro⟨v,⟨_,s,hs,_⟩|⟨_,s,hs,_⟩⟩
  ·cases hi:n.ints with
   |nil=>rw[hi] at hs;cases hs
   |cons=>simp
  ·cases hf:n.bz with
   |nil=>rw[hf] at hs;cases hs
   |cons=>simp
theorem yj {u m:Int} (e:lb u=some m):m=u/10000:=by
 unfold lb at e
 obtain⟨_,e⟩:=ah e
 have h:=Int.tmod_add_mul_tdiv u 10000
 by_cases g:u.tmod 10000<0
 ·rw[Th g] at e
  obtain⟨_,e⟩:=ah e
  cases e
  have:=Int.lt_tmod_of_pos u (show(0:Int)<10000 by decide)
  omega
 ·rw[Ti g] at e
  cases e
  have:=Int.tmod_lt_of_pos u (show(0:Int)<10000 by decide)
  omega
theorem vO {u:Int} {p:cO×Int} (h: -1000000000000000<=u/\u<=1000000000000000) (e:pf u=some p):p.2=0/\CN p.1/\∀v,NM p.1 v↔v=u:=by
 unfold pf at e
 have hc:IW opsN sEq=some true:=by decide
 have hf:sH u=some true:=by
  unfold sH
  rw[Th h.1,Uc h.2]
 rw[hc,HP,Th rfl,hf,HP,Th rfl] at e
 obtain⟨_,e⟩:=ah e
 obtain⟨_,_,e⟩:=aa e
 obtain⟨_,_,e⟩:=aa e
 obtain⟨_,e⟩:=ah e
 obtain⟨g,hg,e⟩:=aa e
 obtain⟨_,e⟩:=ah e
 obtain⟨k,hk,e⟩:=aa e
 obtain⟨one,h1,e⟩:=aa e
 cases e
 have eg:=yj hg
 have ek:=yj hk
 obtain⟨c1,c2,c3⟩:=rb (T7 _ _) (T7 _ _) h1
 refine⟨rfl,c1,fun v=> ?_⟩
 unfold NM
 constructor
 ·rintro(⟨x,y⟩|⟨x,y⟩)
  ·have y:=((c2 _).1 y).1
   have y:0-g<=v/10000/\v/10000<=k:=fa.1 y
   omega
  ·have y:=((c3 _ x).1 y).1
   have y:u<=v/\v<=u:=fa.1 y
   omega
 ·intro x
  subst x
  by_cases z:v % 10000=0
  ·refine .inl ⟨z,(c2 _).2 ⟨fa.2 ?_,by omega⟩⟩
   show 0-g<=v/10000/\v/10000<=k
   omega
  ·exact .inr ⟨z,(c3 _ z).2 ⟨fa.2 ⟨TM _,TM _⟩,h⟩⟩
theorem iT {a:List Sv.Span} (h:a.length<=1000000000):gW a a=some true:=by
 have key:∀{r:List Sv.Span} {i:Nat},a.drop i=r->iU a r i=some true:=fun{r}=>by
  induction r with
  |nil=>intro i _;rfl
  |cons x r ih=>
   intro i hd
   have h1:a[i]? =some x:=by
    have:=Ub (·[0]?) hd
    simpa using this
   have h2:a.drop (i+1)=r:=by rw[<-Vd,hd];rfl
   have e1:((i:Int)+1)=((i+1:Nat):Int):=by omega
   unfold iU
   rw[cz h1,Th (by simp[D4]),e1]
   exact ih h2
 unfold gW
 rw[Th rfl,aP h]
 exact key (i:=0) rfl
theorem yC {a:cO} {k:Nat} (hk:k<=12) (h:sJ k a) (hc:CN a):oG a=some true:=by
 obtain⟨r,h1,_⟩:=ec hk h
 have:=jm hc h1
 subst this
 have h2:=h.i.1
 have h3:=h.f.1
 unfold oG xu
 rw[h1,HP,iT ii,HP,Th rfl,iT ii]
structure tj (k n:Nat) (s:bX):Prop where
 sb:SB k n s
 cn:CN ⟨s.ints,s.bz⟩
 vl:VL n s.strs
theorem tj.mono {k n k' n':Nat} {s:bX} (h:tj k n s) (hk:k<=k') (hn:n<=n'):tj k' n' s:=⟨h.sb.mono hk hn,h.cn,h.vl.mono hn⟩
theorem tj.lQ {k n:Nat} (hk:k<=12) {s:bX} (h:tj k n s):mD s=some s:=by
 unfold mD iy
 rw[yC hk ⟨h.sb.i,h.sb.f⟩ h.cn,HP,Th rfl,h.vl.ok]
 rfl
theorem CN.nil:CN ⟨[],[]⟩:=⟨⟨fun s hs=>(by cases hs),List.Pairwise.nil⟩,⟨fun s hs=>(by cases hs),List.Pairwise.nil⟩⟩
theorem dW (k n:Nat):tj k n bw:=⟨(tm k n).sb,CN.nil,VL.nil n⟩
def kD (s:bX) (d:cJ aO):Prop:=(d.kind=1/\s.null=true)\/(d.kind=2/\d.num=0/\s.py=true)\/(d.kind=2/\d.num=1/\s.px=true)\/(d.kind=3/\NM ⟨s.ints,s.bz⟩ d.num)\/(d.kind=4/\ac s.strs 0 d.str=true)
theorem rH (v:Int):¬NM ⟨[],[]⟩ v:=fun h=>h.elim (fun h=>dY _ h.2) fun h=>dY _ h.2
theorem QB (d:cJ aO):¬kD bw d:=by
 rintro(⟨_,h⟩|⟨_,_,h⟩|⟨_,_,h⟩|⟨_,h⟩|⟨_,h⟩)
 ·cases h
 ·cases h
 ·cases h
 ·exact rH _ h
 ·rw[show bw.strs=[] from rfl,eI] at h
  cases h
theorem RP (x y:Bool):oS x y=some (x&& !y):=by cases x<;>cases y<;>rfl
theorem Er {k m n:Nat} (hkm:k+m<=11) (hn:n<=18000) {a b:bX} (ha:tj k n a) (hb:tj m n b):∃r,uB a b=some r/\tj (k+m+1) 399999999 r/\∀d,kD r d↔kD a d/\¬kD b d:=by
 obtain⟨c,c1,c2⟩:=Es (a:=⟨a.ints,a.bz⟩) (b:=⟨b.ints,b.bz⟩) hkm ⟨ha.sb.i,ha.sb.f⟩ ⟨hb.sb.i,hb.sb.f⟩
 obtain⟨c3,c4⟩:=Et ha.cn hb.cn c1
 obtain⟨l,l1,l2,l3⟩:=xK ha.vl hb.vl ii
 have hp:=KD ha.vl.gd.len hb.vl.gd.len (show n<=19000 by omega)
 refine⟨⟨a.null&& !b.null,a.py&& !b.py,a.px&& !b.px,c.ints,c.bz,l⟩,?_,⟨⟨c2.i64.i,c2.i64.f,l2.gd.toAB.mono ii⟩,c3,l2.mono ii⟩,fun d=> ?_⟩
 ·unfold uB combine
  rw[ha.lQ ii,HP,hb.lQ ii,HP,RP,HP,RP,HP,RP,HP,c1,HP,l1]
  rfl
 ·unfold kD
  simp only[c4,l3,Tw,Bool.not_eq_true']
  constructor
  ·rintro(⟨h1,h2,h3⟩|⟨h1,h2,h3,h4⟩|⟨h1,h2,h3,h4⟩|⟨h1,h2,h3⟩|⟨h1,h2,h3⟩)
   ·refine⟨.inl ⟨h1,h2⟩,?_⟩
    rintro(⟨_,g⟩|⟨g,_⟩|⟨g,_⟩|⟨g,_⟩|⟨g,_⟩)
    ·rw[h3] at g;cases g
    all_goals omega
   ·refine⟨.inr (.inl ⟨h1,h2,h3⟩),?_⟩
    rintro(⟨g,_⟩|⟨_,_,g⟩|⟨_,g,_⟩|⟨g,_⟩|⟨g,_⟩)
    ·omega
    ·rw[h4] at g;cases g
    all_goals omega
   ·refine⟨.inr (.inr (.inl ⟨h1,h2,h3⟩)),?_⟩
    rintro(⟨g,_⟩|⟨_,g,_⟩|⟨_,_,g⟩|⟨g,_⟩|⟨g,_⟩)
    ·omega
    ·omega
    ·rw[h4] at g;cases g
    all_goals omega
   ·refine⟨.inr (.inr (.inr (.inl ⟨h1,h2⟩))),?_⟩
    rintro(⟨g,_⟩|⟨g,_⟩|⟨g,_⟩|⟨_,g⟩|⟨g,_⟩)
    ·omega
    ·omega
    ·omega
    ·exact h3 g
    ·omega
   ·refine⟨.inr (.inr (.inr (.inr ⟨h1,h2⟩))),?_⟩
    rintro(⟨g,_⟩|⟨g,_⟩|⟨g,_⟩|⟨g,_⟩|⟨_,g⟩)
    ·omega
    ·omega
    ·omega
    ·omega
    ·rw[h3] at g;cases g
  ·rintro⟨⟨h1,h2⟩|⟨h1,h2,h3⟩|⟨h1,h2,h3⟩|⟨h1,h2⟩|⟨h1,h2⟩,g⟩
   ·exact .inl ⟨h1,h2,by cases e:b.null with|false=>rfl|true=>exact(g (.inl ⟨h1,e⟩)).elim⟩
   ·exact .inr (.inl ⟨h1,h2,h3,by cases e:b.py with|false=>rfl|true=>exact(g (.inr (.inl ⟨h1,h2,e⟩))).elim⟩)
   ·exact .inr (.inr (.inl ⟨h1,h2,h3,by cases e:b.px with|false=>rfl|true=>exact(g (.inr (.inr (.inl ⟨h1,h2,e⟩)))).elim⟩))
   ·exact .inr (.inr (.inr (.inl ⟨h1,h2,fun e=>g (.inr (.inr (.inr (.inl ⟨h1,e⟩))))⟩)))
   ·exact .inr (.inr (.inr (.inr ⟨h1,h2,by cases e:ac b.strs 0 d.str with|false=>rfl|true=>exact(g (.inr (.inr (.inr (.inr ⟨h1,e⟩))))).elim⟩)))
theorem Ew {k n:Nat} (hk:k<=12) (hn:n<400000000) {s:bX} (h:tj k n s):∃p,jY s=some p/\LD n p.1/\(p.2=true↔∃d,kD s d)/\(p.2=true->1<=p.1.c.kind/\p.1.c.kind<=4):=by
 obtain⟨p0,h1,h2⟩:=Ev hk hn h.sb
 have e:=h1
 unfold jY at e
 rw[h.lQ hk,HP] at e
 obtain⟨p,hp,e⟩:=aa e
 obtain⟨q,hq,e⟩:=aa e
 have g1:=uN h.cn hp
 obtain⟨q',hq',_,g2⟩:=B7 h.vl hn
 rw[hq] at hq'
 cases hq'
 have mk:∀(k:Int) (v:Int) (t:List UInt8),(nY k v t).c=⟨k,v,t,[],[]⟩:=fun _ _ _=>rfl
 refine⟨p0,h1,h2,?_⟩
 cases b1:s.null with
 |true=>
  rw[b1,Th rfl] at e
  cases e
  exact⟨⟨fun _=>⟨⟨1,0,[],[],[]⟩,.inl ⟨rfl,b1⟩⟩,fun _=>rfl⟩,fun _=>⟨by show(1:Int)<=1;omega,by show(1:Int)<=4;omega⟩⟩
 |false=>
  rw[b1,Ti (by decide)] at e
  cases b2:s.py with
  |true=>
   rw[b2,Th rfl] at e
   cases e
   exact⟨⟨fun _=>⟨⟨2,0,[],[],[]⟩,.inr (.inl ⟨rfl,rfl,b2⟩)⟩,fun _=>rfl⟩,fun _=>⟨by show(1:Int)<=2;omega,by show(2:Int)<=4;omega⟩⟩
  |false=>
   rw[b2,Ti (by decide)] at e
   cases b3:s.px with
   |true=>
    rw[b3,Th rfl] at e
    cases e
    exact⟨⟨fun _=>⟨⟨2,1,[],[],[]⟩,.inr (.inr (.inl ⟨rfl,rfl,b3⟩))⟩,fun _=>rfl⟩,fun _=>⟨by show(1:Int)<=2;omega,by show(2:Int)<=4;omega⟩⟩
   |false=>
    rw[b3,Ti (by decide)] at e
    cases b4:p.2 with
    |true=>
     rw[b4,Th rfl] at e
     cases e
     obtain⟨v,hv⟩:=g1.1 b4
     exact⟨⟨fun _=>⟨⟨3,v,[],[],[]⟩,.inr (.inr (.inr (.inl ⟨rfl,hv⟩)))⟩,fun _=>rfl⟩,fun _=>⟨by show(1:Int)<=3;omega,by show(3:Int)<=4;omega⟩⟩
    |false=>
     rw[b4,Ti (by decide)] at e
     cases b5:q.2 with
     |true=>
      rw[b5,Th rfl] at e
      cases e
      obtain⟨w,hw⟩:=g2.1 b5
      exact⟨⟨fun _=>⟨⟨4,0,w,[],[]⟩,.inr (.inr (.inr (.inr ⟨rfl,hw⟩)))⟩,fun _=>rfl⟩,fun _=>⟨by show(1:Int)<=4;omega,by show(4:Int)<=4;omega⟩⟩
     |false=>
      rw[b5,Ti (by decide)] at e
      cases e
      refine⟨⟨fun x=>(by cases x),fun⟨d,hd⟩=> ?_⟩,fun x=>(by cases x)⟩
      rcases hd with⟨_,g⟩|⟨_,_,g⟩|⟨_,_,g⟩|⟨_,g⟩|⟨_,g⟩
      ·rw[b1] at g;cases g
      ·rw[b2] at g;cases g
      ·rw[b3] at g;cases g
      ·rw[g1.2 ⟨_,g⟩] at b4;cases b4
      ·rw[g2.2 ⟨_,g⟩] at b5;cases b5
theorem o7 {k n:Nat} (hk:k<=12) (hn:n<400000000) {s:bX} (h:tj k n s):∃t,iE s=some t/\(t=true↔∀d,¬kD s d):=by
 obtain⟨p,h1,_,h2,_⟩:=Ew hk hn h
 refine⟨!p.2,by unfold iE;rw[h1];rfl,?_⟩
 cases e:p.2 with
 |true=>
  obtain⟨d,hd⟩:=h2.1 e
  exact⟨fun x=>(by cases x),fun x=>(x d hd).elim⟩
 |false=>exact⟨fun _ d hd=>(by rw[h2.2 ⟨d,hd⟩] at e;cases e),fun _=>rfl⟩
theorem eO {k m n:Nat} (hkm:k+m<=11) (hn:n<=18000) {a b:bX} (ha:tj k n a) (hb:tj m n b):∃t,dA a b=some t/\(t=true↔∀d,kD a d->kD b d):=by
 obtain⟨r,h1,h2,h3⟩:=Er hkm hn ha hb
 obtain⟨t,h4,h5⟩:=o7 ii ii h2
 refine⟨t,by unfold dA;rw[h1,HP,h4],h5.trans ⟨fun g d hd=>Classical.byContradiction fun hn=>g d ((h3 d).2 ⟨hd,hn⟩),fun g d hd=>((h3 d).1 hd).2 (g d ((h3 d).1 hd).1)⟩⟩
theorem ur {c:cJ aO} (h:qX c=some 0):jL c=some true/\(c.kind=2->c.num=0\/c.num=1)/\(c.kind=3-> -1000000000000000<=c.num/\c.num<=1000000000000000):=by
 unfold qX at h
 obtain⟨ok,h1,h⟩:=aa h
 cases ok with
 |false=>cases h
 |true=>
  rw[Th rfl] at h
  refine⟨h1,fun g=> ?_,fun g=> ?_⟩
  ·rw[Th g] at h
   by_cases e0:c.num=0
   ·exact .inl e0
   ·by_cases e1:c.num=1
    ·exact .inr e1
    ·rw[Ti e0,Ti e1] at h
     cases h
  ·rw[Ti ii,Th g] at h
   obtain⟨ok,h2,h⟩:=aa h
   cases ok with
   |false=>cases h
   |true=>
    obtain⟨b,h3,h4⟩:=vb c.num
    rw[h2] at h3
    cases h3
    exact h4 rfl
theorem C4 {d:aO} (h:lU d=some 0):qX d.c=some 0:=by
 unfold lU jv at h
 rw[Ti (by decide)] at h
 obtain⟨e,h1,h⟩:=aa h
 by_cases g:e=0
 ·rw[g] at h1;exact h1
 ·rw[Ti g] at h
  exact(g (TD h)).elim
theorem Rn {n:cO} {k m:Nat} (h:NB k n) (hc:CN n):tj k m (Rp n):=⟨⟨h.i64.i,h.i64.f,AB.nil m⟩,hc,VL.nil m⟩
structure Qg (n:Nat) (one:bX):Prop where
 v:tj 1 n one
 ex:∃e,kD one e
 al:∀e e',kD one e->kD one e'->∀s,kD s e->kD s e'
theorem sU {n:Nat} (hn:n<900000) {d:aO} (h:lU d=some 0) (hk:1<=d.c.kind/\d.c.kind<=4) (hl:d.c.str.length<=n):∃one,AP d=some (one,0)/\Qg (n+1) one:=by
 obtain⟨_,h2,h3⟩:=ur (C4 h)
 have nomem:∀{a b c:Bool} {e:cJ aO},kD ⟨a,b,c,[],[],[]⟩ e->(e.kind=1/\a=true)\/(e.kind=2/\e.num=0/\b=true)\/(e.kind=2/\e.num=1/\c=true):=fun{a b c e} g=>by
  rcases g with g|g|g|⟨_,g⟩|⟨_,g⟩
  ·exact .inl g
  ·exact .inr (.inl g)
  ·exact .inr (.inr g)
  ·exact(rH _ g).elim
  ·rw[show(bX.mk a b c [] [] []).strs=[] from rfl,eI] at g;cases g
 have flagV:∀a b c:Bool,tj 1 (n+1) ⟨a,b,c,[],[],[]⟩:=fun a b c=>⟨(sg0 a b c).mono (Tp _) (TC _),CN.nil,VL.nil _⟩
 unfold AP
 rw[h,HP,Th rfl]
 by_cases k1:d.c.kind=1
 ·rw[Th k1]
  refine⟨_,rfl,flagV _ _ _,⟨⟨1,0,[],[],[]⟩,.inl ⟨rfl,rfl⟩⟩,fun e e' he he' s hs=> ?_⟩
  have a1:e.kind=1:=by rcases nomem he with g|g|g<;>first|exact g.1|exact⟨g.1,g.2.1⟩|exact absurd g.2.2 TL|exact absurd g.2 TL
  have a2:e'.kind=1:=by rcases nomem he' with g|g|g<;>first|exact g.1|exact⟨g.1,g.2.1⟩|exact absurd g.2.2 TL|exact absurd g.2 TL
  rcases hs with g|g|g|g|g
  ·exact .inl ⟨a2,g.2⟩
  all_goals (exfalso;omega)
 ·rw[Ti k1]
  by_cases k2:d.c.kind=2
  ·rw[Th k2]
   rcases h2 k2 with z|z
   ·rw[Uc z,Uf ii]
    refine⟨_,rfl,flagV _ _ _,⟨⟨2,0,[],[],[]⟩,.inr (.inl ⟨rfl,rfl,rfl⟩)⟩,fun e e' he he' s hs=> ?_⟩
    have a1:e.kind=2/\e.num=0:=by rcases nomem he with g|g|g<;>first|exact g.1|exact⟨g.1,g.2.1⟩|exact absurd g.2.2 TL|exact absurd g.2 TL
    have a2:e'.kind=2/\e'.num=0:=by rcases nomem he' with g|g|g<;>first|exact g.1|exact⟨g.1,g.2.1⟩|exact absurd g.2.2 TL|exact absurd g.2 TL
    rcases hs with g|g|g|g|g
    ·exfalso;omega
    ·exact .inr (.inl ⟨a2.1,a2.2,g.2.2⟩)
    all_goals (exfalso;omega)
   ·rw[Uf ii,Uc z]
    refine⟨_,rfl,flagV _ _ _,⟨⟨2,1,[],[],[]⟩,.inr (.inr (.inl ⟨rfl,rfl,rfl⟩))⟩,fun e e' he he' s hs=> ?_⟩
    have a1:e.kind=2/\e.num=1:=by rcases nomem he with g|g|g<;>first|exact g.1|exact⟨g.1,g.2.1⟩|exact absurd g.2.2 TL|exact absurd g.2 TL
    have a2:e'.kind=2/\e'.num=1:=by rcases nomem he' with g|g|g<;>first|exact g.1|exact⟨g.1,g.2.1⟩|exact absurd g.2.2 TL|exact absurd g.2 TL
    rcases hs with g|g|g|g|g
    ·exfalso;omega
    ·exfalso;omega
    ·exact .inr (.inr (.inl ⟨a2.1,a2.2,g.2.2⟩))
    all_goals (exfalso;omega)
  ·rw[Ti k2]
   by_cases k3:d.c.kind=3
   ·rw[Th k3]
    unfold jK
    rw[Th k3]
    obtain⟨p,b1,b2⟩:=E9 d.c.num
    obtain⟨b3,b4,b5⟩:=vO (h3 k3) b1
    rw[b1,HP,b3]
    have key:∀{e:cJ aO},kD (Rp p.1) e->e.kind=3/\e.num=d.c.num:=fun{e} g=>by
     rcases g with g|g|g|⟨g1,g⟩|⟨_,g⟩
     ·cases g.2
     ·cases g.2.2
     ·cases g.2.2
     ·exact⟨g1,(b5 _).1 g⟩
     ·rw[show(Rp p.1).strs=[] from rfl,eI] at g;cases g
    refine⟨_,rfl,Rn b2 b4,⟨⟨3,d.c.num,[],[],[]⟩,.inr (.inr (.inr (.inl ⟨rfl,(b5 _).2 rfl⟩)))⟩,fun e e' he he' s hs=> ?_⟩
    have a1:=key he
    have a2:=key he'
    rcases hs with g|g|g|g|g
    ·exfalso;omega
    ·exfalso;omega
    ·exfalso;omega
    ·exact .inr (.inr (.inr (.inl ⟨a2.1,by rw[a2.2,<-a1.2];exact g.2⟩)))
    ·exfalso;omega
   ·have k4:d.c.kind=4:=by omega
    rw[Ti k3,Th k4]
    unfold jK vP
    rw[Ti k3]
    obtain⟨l,l1,l2,l3⟩:=yY (s:=d.c.str) ii
    rw[l1]
    have key:∀{e:cJ aO},kD (scL l) e->e.kind=4/\e.str=d.c.str:=fun{e} g=>by
     rcases g with g|g|g|⟨_,g⟩|⟨g1,g⟩
     ·cases g.2
     ·cases g.2.2
     ·cases g.2.2
     ·exact(rH _ g).elim
     ·have g:ac l 0 e.str=true:=g
      rw[l3] at g
      exact⟨g1,TF g⟩
    refine⟨_,rfl,⟨⟨Hk.nil 1,Hk.nil 1,l2.gd.toAB.mono ii⟩,CN.nil,l2.mono ii⟩,⟨⟨4,0,d.c.str,[],[]⟩,.inr (.inr (.inr (.inr ⟨rfl,by show ac l 0 d.c.str=true;rw[l3];simp⟩)))⟩,fun e e' he he' s hs=> ?_⟩
    have a1:=key he
    have a2:=key he'
    rcases hs with g|g|g|g|g
    ·exfalso;omega
    ·exfalso;omega
    ·exfalso;omega
    ·exfalso;omega
    ·exact .inr (.inr (.inr (.inr ⟨a2.1,by rw[a2.2,<-a1.2];exact g.2⟩)))
theorem Ow {d:aO} {p:bX×Int} (e:AP d=some p) (h:p.2=0):lU d=some 0/\1<=d.c.kind/\d.c.kind<=4:=by
 unfold AP at e
 obtain⟨c,h1,e⟩:=aa e
 by_cases g:c=0
 ·subst g
  refine⟨h1,?_⟩
  rw[Th rfl] at e
  by_cases k1:d.c.kind=1
  ·omega
  ·by_cases k2:d.c.kind=2
   ·omega
   ·by_cases k3:d.c.kind=3
    ·omega
    ·by_cases k4:d.c.kind=4
     ·omega
     ·rw[Ti k1,Ti k2,Ti k3,Ti k4] at e
      cases e
      cases h
 ·rw[Ti g] at e
  cases e
  exact(g h).elim
theorem Cs {s:bX} {d:aO} (e:nW s d=some true):(lU d=some 0/\1<=d.c.kind/\d.c.kind<=4)/\∃one,AP d=some (one,0)/\dA one s=some true:=by
 unfold nW at e
 obtain⟨p,h1,e⟩:=aa e
 by_cases g:p.2=0
 ·rw[Th g] at e
  exact⟨Ow h1 g,p.1,by rw[h1,<-g],e⟩
 ·rw[Ti g] at e
  cases e
theorem O4 {s:bX} {d:aO} {one:bX} (h1:AP d=some (one,0)) (h2:dA one s=some true):nW s d=some true:=by
 unfold nW
 rw[h1,HP,Th rfl,h2]
theorem R4 {n:Nat} (hn:n<=18000) {d:aO} (hd:d.c.str.length<n):nW bw d≠some true:=fun h=>by
 obtain⟨⟨h1,h2⟩,one,h3,h4⟩:=Cs h
 obtain⟨one',h5,h6⟩:=sU (n:=n-1) ii h1 h2 ii
 rw[h3] at h5
 cases h5
 have hv:tj 1 n one:=h6.v.mono (Tp _) ii
 obtain⟨t,g1,g2⟩:=eO (m:=1) ii hn hv (dW 1 n)
 rw[h4] at g1
 cases g1
 obtain⟨e,he⟩:=h6.ex
 exact QB e (g2.1 rfl e he)
theorem tK {l:List Int} {i:Nat} {t:Int} (h:l[i]? =some t):l.set i t=l:=by
 refine Vc fun j=> ?_
 by_cases g:i=j
 ·subst g
  rw[UE (Tk.1 h).1,h]
 ·rw[List.getElem?_set_ne g]
theorem AH {b:Int} {i:Nat}:∀{es:List Sv.Edge} {out o:List Int} {t:Int},out[i]? =some t->JA b i es out=some o->o=out.set i (fZ b es t)
 |[],out,o,t,h,e=>by
  cases e
  exact(tK h).symm
 |x::r,out,o,t,h,e=>by
  have hi:=(Tk.1 h).1
  unfold JA at e
  have go:fZ b (x::r) t=fZ b r (if x.lo<=b/\b<=x.hi then x.to else t):=rfl
  by_cases g:x.lo<=b/\b<=x.hi
  ·rw[Th g.1,Th g.2] at e
   obtain⟨j,y,hj,hy,e⟩:=cV e
   have:j=i:=by omega
   subst this
   have:=AH (t:=x.to) (by rw[UE hi]) e
   rw[this,Vq,go,Th g]
  ·have e':JA b i r out=some o:=by
    by_cases g1:x.lo<=b
    ·rw[Th g1,Ti fun g2=>g ⟨g1,g2⟩] at e
     exact e
    ·rw[Ti g1] at e
     exact e
   rw[AH h e',go,Ti g]
theorem sR {l:List Int} {i p:Nat} {t:Int} (h:p≠i):(l.set i t)[p]? =l[p]? :=List.getElem?_set_ne (UZ h)
def nk (k:dH Va) (s b:Int):Int:=if s<0 then -1 else match k.set[s.toNat]? with
 |some x=>fZ b x.aF (-1)
 |none=> -1
def Nk (f:dO Va) (n b:Int):Int:=if n>=0 then match f.label[n.toNat]? with
 |some y=>if(y.toNat:Int)=b then n+1 else -1
 |none=> -1 else -1
theorem MW {v:List Int} {b:Int}:∀{ks:List (dH Va)} {i:Nat} {out o:List Int},(∀p,i<=p->p<i+ks.length->out[p]? =some (-1))->Jz v b ks i out=some o->o.length=out.length/\(∀p,p<i\/i+ks.length<=p->o[p]? =out[p]?)/\∀q k s t,ks[q]? =some k->v[i+q]? =some s->o[i+q]? =some t->t=nk k s b
 |[],i,out,o,_,e=>by
  cases e
  exact⟨rfl,fun p _=>rfl,fun q k s t hq=>by simp at hq⟩
 |k::ks,i,out,o,hm,e=>by
  have e1:((i:Int)+1)=((i+1:Nat):Int):=by omega
  have hi0:=hm i (Tp _) (by simp)
  unfold Jz at e
  obtain⟨j,s,hj,hs,e⟩:=av e
  have:j=i:=by omega
  subst this
  have fin:∀{out':List Int} {u:Int},out'=out.set j u->u=nk k s b->Jz v b ks ((j:Int)+1) out'=some o->o.length=out.length/\(∀p,p<j\/j+(k::ks).length<=p->o[p]? =out[p]?)/\∀q k' s' t,(k::ks)[q]? =some k'->v[j+q]? =some s'->o[j+q]? =some t->t=nk k' s' b:=fun{out' u} ho hu e=>by
   rw[e1] at e
   subst ho
   obtain⟨a1,a2,a3⟩:=MW (fun p h1 h2=>by rw[sR ii];exact hm p ii (by rw[Tu];omega)) e
   rw[Tx] at a1
   refine⟨a1,fun p hp=> ?_,fun q k' s' t hq hs' ht=> ?_⟩
   ·rw[Tu] at hp
    rw[a2 p ii,sR ii]
   ·cases q with
    |zero=>
     cases hq
     rw[Ur] at hs' ht
     rw[hs] at hs'
     cases hs'
     rw[a2 j ii,UE (Tk.1 hi0).1] at ht
     cases ht
     exact hu
    |succ q=>exact a3 q k' s' t (by simpa using hq) (by rw[<-hs'];congr 1;omega) (by rw[<-ht];congr 1;omega)
  by_cases g:s<0
  ·rw[Th g] at e
   exact fin (u:= -1) (tK hi0).symm (by unfold nk;rw[Th g]) e
  ·rw[Ti g] at e
   obtain⟨t,x,ht,hx,e⟩:=av e
   obtain⟨_,e⟩:=ah e
   obtain⟨out',h2,e⟩:=aa e
   exact fin (AH hi0 h2) (by unfold nk;rw[Ti g,ht,T9,hx]) e
theorem MX {v:List Int} {b:Int} {m:Nat}:∀{fs:List (dO Va)} {i:Nat} {out o:List Int},(∀p,m+i<=p->p<m+i+fs.length->out[p]? =some (-1))->Fm v b m fs i out=some o->o.length=out.length/\(∀p,p<m+i->o[p]? =out[p]?)/\∀q f n t,fs[q]? =some f->v[m+i+q]? =some n->o[m+i+q]? =some t->t=Nk f n b
 |[],i,out,o,_,e=>by
  cases e
  exact⟨rfl,fun p _=>rfl,fun q k s t hq=>by simp at hq⟩
 |f::fs,i,out,o,hm,e=>by
  have e1:((i:Int)+1)=((i+1:Nat):Int):=by omega
  have hi0:=hm (m+i) (Tp _) (by simp)
  unfold Fm at e
  obtain⟨j,n,hj,hn,e⟩:=av e
  have:j=m+i:=by omega
  subst this
  have fin:∀{out':List Int} {u:Int},out'=out.set (m+i) u->u=Nk f n b->Fm v b m fs ((i:Int)+1) out'=some o->o.length=out.length/\(∀p,p<m+i->o[p]? =out[p]?)/\∀q f' n' t,(f::fs)[q]? =some f'->v[m+i+q]? =some n'->o[m+i+q]? =some t->t=Nk f' n' b:=fun{out' u} ho hu e=>by
   rw[e1] at e
   subst ho
   obtain⟨a1,a2,a3⟩:=MX (fun p h1 h2=>by rw[sR ii];exact hm p ii (by rw[Tu];omega)) e
   rw[Tx] at a1
   refine⟨a1,fun p hp=> ?_,fun q f' n' t hq hs' ht=> ?_⟩
   ·rw[a2 p ii,sR ii]
   ·cases q with
    |zero=>
     cases hq
     rw[Ur] at hs' ht
     rw[hn] at hs'
     cases hs'
     rw[a2 (m+i) ii,UE (Tk.1 hi0).1] at ht
     cases ht
     exact hu
    |succ q=>exact a3 q f' n' t (by simpa using hq) (by rw[<-hs'];congr 1;omega) (by rw[<-ht];congr 1;omega)
  have no: -1=Nk f n b->Fm v b m fs ((i:Int)+1) out=some o->_:=fun hz=>fin (u:= -1) (tK hi0).symm hz
  by_cases g:n>=0
  ·rw[Th g] at e
   obtain⟨_,e⟩:=ah e
   by_cases g1:n<(f.label.length:Int)
   ·rw[Th g1] at e
    obtain⟨t,y,ht,hy,e⟩:=av e
    by_cases g2:(y.toNat:Int)=b
    ·rw[Th g2] at e
     obtain⟨_,e⟩:=ah e
     obtain⟨j2,z,hj2,hz,e⟩:=cV e
     have:j2=m+i:=by omega
     subst this
     exact fin (u:=n+1) rfl (by unfold Nk;rw[Th g,ht,T9,hy];exact(Th g2).symm) e
    ·rw[Ti g2] at e
     exact no (by unfold Nk;rw[Th g,ht,T9,hy];exact(Ti g2).symm) e
   ·rw[Ti g1] at e
    exact no (by unfold Nk;rw[Th g,T2 ii]) e
  ·rw[Ti g] at e
   exact no (by unfold Nk;rw[Ti g]) e
theorem P4 {α:Type} (l:List α) (i:Nat):cN l (i:Int)=l[i]? :=by
 unfold cN
 rw[Th ii,T9]
theorem Qf.len {c:aM Va} {v:List Int} (h:Qf c v):v.length=c.az.length+c.fields.length:=by
 obtain⟨a,b,L,rfl,h1,h2,h3⟩:=h
 rw[Tt,h1.len,h3.len]
set_option maxRecDepth 100000
theorem fV:∀x:List UInt8,Op.bytesLess x x=false
 |[]=>rfl
 |a::x=>by
  unfold Op.bytesLess
  rw[fV x]
  simp
theorem oU:∀{x y z:List UInt8},Op.bytesLess x y=true->Op.bytesLess y z=true->Op.bytesLess x z=true
 |_,y,[],_,h=>by
  have:Op.bytesLess y []=false:=by cases y<;>rfl
  rw[this] at h
  cases h
 |[],_,_::_,_,_=>rfl
 |_::_,[],_::_,h,_=>by cases h
 |a::x,b::y,c::z,h1,h2=>by
  unfold Op.bytesLess at h1 h2⊢
  simp only[UT,Tw,Ul,beq_iff_eq] at h1 h2⊢
  rcases h1 with h1|⟨rfl,h1⟩
  ·rcases h2 with h2|⟨rfl,h2⟩
   ·exact .inl (UInt8.lt_trans h1 h2)
   ·exact .inl h1
  ·rcases h2 with h2|⟨rfl,h2⟩
   ·exact .inl h2
   ·exact .inr ⟨rfl,oU h1 h2⟩
section
variable {α:Type}
end
section
variable {rec:bG Va->bG Va->Option Bool} (hr:∀a b,rec a b=some true->a=b)
include hr
end
section
variable {α:Type}
end
section
variable {cv:Va->Option (Va×Bool)} {G Q:Va->Prop} (hcv:∀x p,G x->cv x=some p->p.2=true->Q p.1)
include hcv
omit hcv in
end
theorem AR:ep hY zV zV=some true:=by kernel_rfl
structure HL (P:Va->Prop) (c:bg Va):Prop where
 il:c.items.length<=1000
 rl:c.rest.length<=1000
 i:∀x∈c.items,P x
 r:∀x∈c.rest,P x
structure HS (P:Va->Prop) (c:aM Va):Prop where
 fl:c.fields.length<=1000
 kl:c.az.length<=1000
 f:∀f∈c.fields,P f.val
 k:∀k∈c.az,P k.val
 vl:∀k∈c.az,VL 20000 k.set
 cov:∀w:List UInt8,(∃f∈c.fields,f.label=w)\/∃k∈c.az,ac k.set 0 w=true
theorem xk {w:List UInt8} (hw:w.length<=1000000000):∀{ks:List (dH Va)},(∀k∈ks,VL 20000 k.set)->(∃k∈ks,ac k.set 0 w=true)->∃k∈ks,ac k.set 0 w=true/\rK w ks=some (k.val,3)
 |[],_,⟨k,hk,_⟩=>by cases hk
 |k::r,h,⟨x,hx,hxw⟩=>by
  have hk:=h k (Tn ..)
  unfold rK
  rw[MY hk.gd.toAB ii hk.gd.wf (hk.wfm ii) hw,HP]
  cases g:ac k.set 0 w with
  |true=>exact⟨k,Tn ..,g,rfl⟩
  |false=>
   obtain⟨y,y1,y2,y3⟩:=xk hw (ks:=r) (fun z hz=>h z (Tm _ hz)) (by
    rcases Tv.1 hx with rfl|hx
    ·rw[g] at hxw;cases hxw
    ·exact⟨x,hx,hxw⟩)
   exact⟨y,Tm _ y1,y2,by rw[Ti (by decide)];exact y3⟩
def AtL (c:aM Va) (w:List UInt8) (r:Va×Int):Prop:=(∃f∈c.fields,f.label=w/\r=(f.val,f.fj))\/((∀f∈c.fields,f.label≠w)/\∃k∈c.az,ac k.set 0 w=true/\r=(k.val,3))
theorem pC {P:Va->Prop} {c:aM Va} (h:HS P c) {w:List UInt8} (hw:w.length<=1000):∃r,view c w=some r/\AtL c w r:=by
 have hf:=h.fl
 have hk:=h.kl
 have key:∀{fs:List (dO Va)},(∃f∈fs,f.label=w/\pE w c.az fs=some (f.val,f.fj))\/((∀f∈fs,f.label≠w)/\pE w c.az fs=rK w c.az):=fun{fs}=>by
  induction fs with
  |nil=>
   refine .inr ⟨fun f hf=>(by cases hf),?_⟩
   unfold pE
   rw[aP ii]
  |cons f r ih=>
   unfold pE
   by_cases g:f.label=w
   ·rw[Th g]
    exact .inl ⟨f,Tn ..,g,rfl⟩
   ·rw[Ti g]
    rcases ih with⟨x,x1,x2,x3⟩|⟨x1,x2⟩
    ·exact .inl ⟨x,Tm _ x1,x2,x3⟩
    ·refine .inr ⟨fun y hy=> ?_,x2⟩
     rcases Tv.1 hy with rfl|hy
     ·exact g
     ·exact x1 y hy
 unfold view
 rw[aP ii]
 rcases key (fs:=c.fields) with⟨f,h1,h2,h3⟩|⟨h1,h2⟩
 ·exact⟨_,h3,.inl ⟨f,h1,h2,rfl⟩⟩
 ·rcases h.cov w with⟨f,g1,g2⟩|g
  ·exact(h1 f g1 g2).elim
  ·obtain⟨k,k1,k2,k3⟩:=xk ii h.vl g
   exact⟨_,h2.trans k3,.inr ⟨h1,k,k1,k2,rfl⟩⟩
theorem AtL.P {P:Va->Prop} {c:aM Va} (h:HS P c) {w:List UInt8} {r:Va×Int} (hr:AtL c w r):P r.1:=by
 rcases hr with⟨f,h1,_,rfl⟩|⟨_,k,h1,_,rfl⟩
 ·exact h.f f h1
 ·exact h.k k h1
theorem s6 {c:bg Va} {i:Nat} {x:Va} (h:c.items[i]? =some x) (hl:c.items.length<=1000):item c i=some (x,true):=by
 have:=(Tk.1 h).1
 unfold item
 rw[Th ii,aP ii,Th ii,cz h]
theorem IG {c:bg Va} {i:Nat} {x:Va} (h:c.items.length<=i) (hx:c.rest[0]? =some x) (hl:c.items.length<=1000) (hr:c.rest.length<=1000):item c i=some (x,true):=by
 have:=(Tk.1 hx).1
 unfold item
 rw[Th ii,aP ii,Ti ii,aP ii,Th ii,oA hx]
structure Nt (P:aO->Prop) (c:cJ aO):Prop where
 only:jL c=some true
 k:1<=c.kind/\c.kind<=6
 b2:c.kind=2->c.num=0\/c.num=1
 n3:c.kind=3-> -1000000000000000<=c.num/\c.num<=1000000000000000
 str:c.str.length<=80
 il:c.items.length<=40
 ml:c.members.length<=40
 xa:c.members.Pairwise fun x y=>Op.bytesLess x.label y.label=true
 it:∀x∈c.items,P x
 me:∀m∈c.members,m.label.length<=80/\P m.data
def ko:Nat->aO->Prop
 |0,x=>Nt (fun _=>False) x.c
 |n+1,x=>Nt (ko n) x.c
def xe:Nat->aO->Prop
 |0,_=>False
 |n+1,x=>ko n x
theorem ko.c {n:Nat} {x:aO} (h:ko n x):Nt (xe n) x.c:=by
 cases n<;>exact h
theorem ko.of {n:Nat} {x:aO} (h:Nt (xe n) x.c):ko n x:=by
 cases n<;>exact h
theorem zE {l:List (Mem aO)} (h:l.Pairwise fun x y=>Op.bytesLess x.label y.label=true) (hl:l.length<=1000):∀{f i:Nat},1<=i->i<=l.length+1->l.length+2<=f+i->hN l f i=some 0
 |0,i,h1,h3,h2=>by omega
 |f+1,i,h1,h3,h2=>by
  have e1:((i:Int)+1)=((i+1:Nat):Int):=by omega
  unfold hN
  by_cases g:i<l.length
  ·rw[Th ii,aP ⟨by omega,by omega⟩,show(i:Int)-1=((i-1:Nat):Int) by omega,cz (Tj (show i-1<l.length by omega)),cz (Tj g),Th (T5.1 h (i-1) i ii g ii),e1]
   exact zE h hl ii ii ii
  ·rw[Ti ii]
theorem KN {P:aO->Prop} {c:cJ aO} (h:Nt P c):qX c=some 0:=by
 have hm:=h.ml
 have ho:hN c.members (c.members.length+1) 1=some 0:=zE h.xa ii (i:=1) (Tp _) ii ii
 have hO:((aN c.members).bind fun _=>hN c.members (c.members.length+1) 1)=some 0:=by
  rw[aP ii]
  exact ho
 unfold qX
 rw[h.only,HP,Th rfl]
 by_cases k2:c.kind=2
 ·rw[Th k2]
  rcases h.b2 k2 with z|z
  ·rw[Th z];exact hO
  ·rw[Ti ii,Th z];exact hO
 ·rw[Ti k2]
  by_cases k3:c.kind=3
  ·have hf:sH c.num=some true:=by
    unfold sH
    rw[Th (h.n3 k3).1,Uc (h.n3 k3).2]
   rw[Th k3,hf,HP,Th rfl]
   exact hO
  ·rw[Ti k3]
   exact hO
theorem E2:∀{l:List (Mem aO)} {out:List aO},l.length+out.length<=5000->Nr l out=some (out++l.map (·.data))
 |[],out,_=>by rw[U9,TK];rfl
 |m::r,out,h=>by
  rw[Tu] at h
  unfold Nr
  rw[dI ii,E2 (by simp;omega),Uo,TP]
  rfl
theorem pb:∀{n f:Nat} {x:aO} {level:Int},ko n x->n<f->0<=level->level+n<=16->jv f x level=some 0
 |n,0,_,_,_,h,_,_=>by omega
 |n,f+1,x,level,h,hf,h0,hl=>by
  have hc:=h.c
  have h1:=hc.il
  have h2:=hc.ml
  have key:∀{l:List aO},(∀y∈l,xe n y)->lp (jv f) level l=some 0:=fun{l}=>by
   induction l with
   |nil=>intro _;rfl
   |cons y r ih=>
    intro hy
    have hy0:=hy y (Tn ..)
    cases n with
    |zero=>exact hy0.elim
    |succ n=>
     unfold lp
     rw[aP ⟨by omega,by omega⟩,pb (n:=n) hy0 ii ii ii,HP,Th rfl]
     exact ih fun z hz=>hy z (Tm _ hz)
  unfold jv
  rw[Ti ii,KN hc,HP,Th rfl]
  unfold pc
  rw[aP ii,aP ii,E2 ii,HP,aP (by rw[Tt,Tr];omega)]
  refine key fun y hy=> ?_
  rcases Tz.1 hy with hy|hy
  ·exact hc.it y hy
  ·obtain⟨m,hm,rfl⟩:=T4.1 hy
   exact(hc.me m hm).2
theorem Cr {k:Nat} (hk:k<=10) {s:bX} (h:tj k 15000 s) {e:Nat} (he:e<=15) {x:aO} (hx:ko e x):∃t,nW s x=some t:=by
 have hc:=hx.c
 have hchk:lU x=some 0:=pb hx ii ii ii
 by_cases g:x.c.kind<=4
 ·obtain⟨one,h1,h2⟩:=sU (n:=14999) ii hchk ⟨hc.k.1,g⟩ (by have:=hc.str;omega)
  obtain⟨t,h3,_⟩:=eO ii ii h2.v h
  exact⟨t,by unfold nW;rw[h1,HP,Th rfl,h3]⟩
 ·refine⟨false,?_⟩
  have h1:=hc.k
  unfold nW AP
  rw[hchk,HP,Th rfl,Ti ii,Ti ii,Ti ii,Ti ii]
  rfl
section
variable {α:Type} {g:α->Option Bool}
theorem Co:∀{l:List α} {i:Nat} {k:Int},fg g l i=some k->k>=0->∃x∈l,g x=some true
 |[],i,k,e,h=>by cases e;omega
 |x::r,i,k,e,h=>by
  have e1:((i:Int)+1)=((i+1:Nat):Int):=by omega
  unfold fg at e
  obtain⟨c,h1,e⟩:=aa e
  cases c with
  |true=>exact⟨x,Tn ..,h1⟩
  |false=>
   rw[Ti (by decide),e1] at e
   obtain⟨y,h2,h3⟩:=Co e h
   exact⟨y,Tm _ h2,h3⟩
theorem PD {l:List α} (e:lT g l=some true):∃x∈l,g x=some true:=by
 unfold lT at e
 obtain⟨i,h1,e⟩:=aa e
 unfold oV at h1
 obtain⟨_,h1⟩:=ah h1
 exact Co (i:=0) h1 (TF (TD e))
theorem yc:∀{l:List α} {i:Nat},(∀x∈l,∃t,g x=some t)->(∃x∈l,g x=some true)->∃k:Int,fg g l i=some k/\k>=0
 |[],i,_,⟨x,hx,_⟩=>by cases hx
 |x::r,i,h,hex=>by
  have e1:((i:Int)+1)=((i+1:Nat):Int):=by omega
  obtain⟨t,ht⟩:=h x (Tn ..)
  unfold fg
  rw[ht,HP]
  cases t with
  |true=>exact⟨i,rfl,by omega⟩
  |false=>
   rw[Ti (by decide),e1]
   refine yc (fun y hy=>h y (Tm _ hy)) ?_
   obtain⟨y,hy,hg⟩:=hex
   rcases Tv.1 hy with rfl|hy
   ·rw[ht] at hg;cases hg
   ·exact⟨y,hy,hg⟩
theorem Mg {l:List α} (hl:l.length<=1000000000) (h:∀x∈l,∃t,g x=some t) (hex:∃x∈l,g x=some true):lT g l=some true:=by
 obtain⟨k,h1,h2⟩:=yc (i:=0) h hex
 unfold lT oV
 have h1:fg g l 0=some k:=h1
 rw[aP hl,h1,HP,Uc h2]
theorem Mh {l:List α} (hl:l.length<=1000000000) (h:∀x∈l,∃t,g x=some t):∃t,lT g l=some t:=by
 obtain⟨k,h1,_⟩:=Lz (fun x hx=>by obtain⟨t,ht⟩:=h x hx;exact⟨t,ht,trivial⟩) hl
 exact⟨_,by unfold lT;rw[h1];rfl⟩
end
theorem Lq {P:Va->Prop} {c:bg Va} (h:HL P c) {n q:Nat} (hq:q<n) (hp:(n:Int)=c.items.length\/((n:Int)>c.items.length/\(c.rest.length:Int)>0)):∃y,item c q=some (y,true)/\P y:=by
 have h1:=h.il
 have h2:=h.rl
 by_cases g:q<c.items.length
 ·exact⟨c.items[q],s6 (Tj g) ii,h.i _ (TT g)⟩
 ·have hr:0<c.rest.length:=by omega
  exact⟨c.rest[0],IG ii (Tj hr) ii ii,h.r _ (TT hr)⟩
theorem Oo {c:bg Va} {d:cJ aO} (h1:d.items.length<=1000) (h2:c.items.length<=1000):∃t,perm c d=some t/\(t=true↔(d.items.length:Int)=c.items.length\/((d.items.length:Int)>c.items.length/\(c.rest.length:Int)>0)):=by
 unfold perm
 rw[aP ii,aP ii]
 by_cases g:(d.items.length:Int)=c.items.length
 ·rw[Th g]
  exact⟨true,rfl,fun _=> .inl g,fun _=>rfl⟩
 ·rw[Ti g]
  by_cases g1:(d.items.length:Int)>c.items.length
  ·rw[Th g1]
   exact⟨_,rfl,by rw[Ul];exact⟨fun z=> .inr ⟨g1,z⟩,fun z=>z.elim (fun z=>(g z).elim) fun z=>z.2⟩⟩
  ·rw[Ti g1]
   exact⟨false,rfl,fun z=>(by cases z),fun z=>z.elim (fun z=>(g z).elim) fun z=>(g1 z.1).elim⟩
theorem zZ {rec:bG Va->aO->Option Bool} {c:bg Va}:∀{l:List aO} {i:Nat} {out:List Int},(∀(q:Nat) (x:aO),l[q]? =some x->∃y t,item c (i+q:Nat)=some (y,true)/\rec y.v x=some t)->l.length+out.length<=2000->∃o,QE rec c l i out=some o/\(o.length=out.length↔∀(q:Nat) (x:aO),l[q]? =some x->∃y,item c (i+q:Nat)=some (y,true)/\rec y.v x=some true)/\out.length<=o.length
 |[],i,out,_,_=>⟨out,rfl,⟨fun _ q x hx=>(by simp at hx),fun _=>rfl⟩,Tp _⟩
 |x::r,i,out,h,hl=>by
  rw[Tu] at hl
  have e1:((i:Int)+1)=((i+1:Nat):Int):=by omega
  obtain⟨y,t,h1,h2⟩:=h 0 x rfl
  rw[Ur] at h1
  have hr:∀(q:Nat) (x:aO),r[q]? =some x->∃y t,item c (i+1+q:Nat)=some (y,true)/\rec y.v x=some t:=fun q z hz=>by
   have:=h (q+1) z (by simpa using hz)
   rwa [show i+(q+1)=i+1+q by omega] at this
  unfold QE
  rw[h1,HP,h2,HP,e1]
  cases t with
  |true=>
   rw[Th rfl]
   obtain⟨o,o1,o2,o3⟩:=zZ (i:=i+1) (out:=out) hr ii
   refine⟨o,o1,o2.trans ⟨fun g q z hz=> ?_,fun g q z hz=> ?_⟩,o3⟩
   ·cases q with
    |zero=>cases hz;exact⟨y,by rw[Ur];exact h1,h2⟩
    |succ q=>
     have:=g q z (by simpa using hz)
     rwa [show i+1+q=i+(q+1) by omega] at this
   ·have:=g (q+1) z (by simpa using hz)
    rwa [show i+(q+1)=i+1+q by omega] at this
  |false=>
   rw[Ti (by decide),dI ii]
   obtain⟨o,o1,o2,o3⟩:=zZ (i:=i+1) (out:=out++[(i:Int)]) hr (by simp;omega)
   rw[Tt,TQ] at o3
   refine⟨o,o1,⟨fun g=>by omega,fun g=> ?_⟩,by omega⟩
   obtain⟨y',g1,g2⟩:=g 0 x rfl
   rw[Ur,h1] at g1
   cases g1
   rw[h2] at g2
   cases g2
theorem zR {ms:List (Mem aO)} (hm:ms.length<=1000):∀{fs:List (dO Va)} {out:List (List UInt8)},fs.length+out.length<=2000->∃o,No ms fs out=some o/\(o.length=out.length↔∀f∈fs,∃m∈ms,m.label=f.label)/\out.length<=o.length
 |[],out,_=>⟨out,rfl,⟨fun _ f hf=>(by cases hf),fun _=>rfl⟩,Tp _⟩
 |f::r,out,h=>by
  rw[Tu] at h
  obtain⟨t,ht⟩:=Mh (g:=fun m:Mem aO=>some (decide (m.label=f.label))) (l:=ms) ii fun x _=>⟨_,rfl⟩
  unfold No
  rw[ht,HP]
  cases t with
  |true=>
   rw[Th rfl]
   obtain⟨o,o1,o2,o3⟩:=zR hm (fs:=r) (out:=out) ii
   obtain⟨m,m1,m2⟩:=PD ht
   have m2:=TF (TD m2)
   refine⟨o,o1,o2.trans ⟨fun g x hx=> ?_,fun g x hx=>g x (Tm _ hx)⟩,o3⟩
   rcases Tv.1 hx with rfl|hx
   ·exact⟨m,m1,m2⟩
   ·exact g x hx
  |false=>
   rw[Ti (by decide),dI ii]
   obtain⟨o,o1,o2,o3⟩:=zR hm (fs:=r) (out:=out++[f.label]) (by simp;omega)
   rw[Tt,TQ] at o3
   refine⟨o,o1,⟨fun g=>by omega,fun g=> ?_⟩,by omega⟩
   obtain⟨m,m1,m2⟩:=g f (Tn ..)
   rw[Mg ii (fun x _=>⟨_,rfl⟩) ⟨m,m1,by rw[Uc m2]⟩] at ht
   cases ht
theorem GJ {rec:bG Va->aO->Option Bool} {c:aM Va}:∀{l:List (Mem aO)},(∀m∈l,∃r t,view c m.label=some r/\rec r.1.v m.data=some t)->∃t,Sd rec c l=some t/\(t=true↔∀m∈l,∃r,view c m.label=some r/\rec r.1.v m.data=some true)
 |[],_=>⟨true,rfl,fun _ m hm=>(by cases hm),fun _=>rfl⟩
 |m::r,h=>by
  obtain⟨p,t,h1,h2⟩:=h m (Tn ..)
  unfold Sd
  rw[h1,HP,h2,HP]
  cases t with
  |true=>
   rw[Th rfl]
   obtain⟨s,s1,s2⟩:=GJ (l:=r) fun x hx=>h x (Tm _ hx)
   refine⟨s,s1,s2.trans ⟨fun g x hx=> ?_,fun g x hx=>g x (Tm _ hx)⟩⟩
   rcases Tv.1 hx with rfl|hx
   ·exact⟨p,h1,h2⟩
   ·exact g x hx
  |false=>
   refine⟨false,rfl,fun z=>(by cases z),fun g=> ?_⟩
   obtain⟨p',g1,g2⟩:=g m (Tn ..)
   rw[h1] at g1
   cases g1
   rw[h2] at g2
   cases g2
def S5 (P:Va->Prop) (e:Nat) (rec:bG Va->aO->Option Bool):Prop:=∀y x,P y->xe e x->∃t,rec y.v x=some t
theorem O0 {P:Va->Prop} {e:Nat} {rec:bG Va->aO->Option Bool} (hr:S5 P e rec) {c:bg Va} (hc:HL P c) {x:aO} (hx:Nt (xe e) x.c):∃t,GA rec x c=some t/\(t=true↔((x.c.items.length:Int)=c.items.length\/((x.c.items.length:Int)>c.items.length/\(c.rest.length:Int)>0))/\∀(q:Nat) (z:aO),x.c.items[q]? =some z->∃y,item c q=some (y,true)/\rec y.v z=some true):=by
 have h1:=hx.il
 have h2:=hc.il
 obtain⟨p,p1,p2⟩:=Oo (c:=c) (d:=x.c) ii ii
 unfold GA
 rw[p1,HP]
 cases p with
 |false=>exact⟨false,rfl,fun z=>(by cases z),fun z=>by have:=p2.2 z.1;cases this⟩
 |true=>
  have hp:=p2.1 rfl
  rw[Th rfl]
  obtain⟨o,o1,o2,_⟩:=zZ (rec:=rec) (c:=c) (l:=x.c.items) (i:=0) (out:=[]) (fun q z hz=>by
   obtain⟨y,y1,y2⟩:=Lq hc (Tk.1 hz).1 hp
   obtain⟨t,ht⟩:=hr y z y2 (hx.it z (Ts hz))
   exact⟨y,t,by rw[Ue];exact y1,ht⟩) (by simp;omega)
  unfold itM
  rw[aP ii,show(0:Int)=((0:Nat):Int) from rfl,o1,HP]
  refine⟨_,rfl,?_⟩
  rw[Ul]
  simp only[Ue,T0] at o2
  constructor
  ·intro z
   exact⟨hp,o2.1 ii⟩
  ·rintro⟨_,z⟩
   have:=o2.2 z
   omega
theorem OY {P:Va->Prop} {e:Nat} {rec:bG Va->aO->Option Bool} (hr:S5 P e rec) {c:aM Va} (hc:HS P c) {x:aO} (hx:Nt (xe e) x.c):∃t,OZ rec x c=some t/\(t=true↔(∀f∈c.fields,∃m∈x.c.members,m.label=f.label)/\∀m∈x.c.members,∃r,view c m.label=some r/\rec r.1.v m.data=some true):=by
 have h1:=hx.ml
 have h2:=hc.fl
 obtain⟨o,o1,o2,_⟩:=zR (ms:=x.c.members) ii (fs:=c.fields) (out:=[]) (by simp;omega)
 obtain⟨s,s1,s2⟩:=GJ (rec:=rec) (c:=c) (l:=x.c.members) fun m hm=>by
  obtain⟨r,r1,r2⟩:=pC hc (w:=m.label) (by have:=(hx.me m hm).1;omega)
  obtain⟨t,ht⟩:=hr r.1 m.data (r2.P hc) (hx.me m hm).2
  exact⟨r,t,r1,ht⟩
 unfold OZ miM fiM
 rw[aP ii,o1,HP]
 have hol:o.length<=1000000000:=by
  have hb:∀{fs:List (dO Va)} {out o:List (List UInt8)},No x.c.members fs out=some o->o.length<=fs.length+out.length:=fun{fs}=>by
   induction fs with
   |nil=>intro out o e;cases e;simp
   |cons f r ih=>
    intro out o e
    unfold No at e
    obtain⟨c,_,e⟩:=aa e
    rw[Tu]
    cases c with
    |true=>
     have:=ih e
     omega
    |false=>
     rw[Ti (by decide)] at e
     obtain⟨_,e⟩:=ay e
     have:=ih e
     rw[Tt,TQ] at this
     omega
  have:=hb o1
  simp at this
  omega
 rw[aP hol]
 by_cases g:(o.length:Int)=0
 ·rw[Th g,aP ii,s1]
  refine⟨s,rfl,s2.trans ⟨fun z=>⟨o2.1 (by show o.length=0;omega),z⟩,fun z=>z.2⟩⟩
 ·rw[Ti g]
  refine⟨false,rfl,fun z=>(by cases z),fun z=> ?_⟩
  have:=o2.2 z.1
  simp at this
  rw[this] at g
  exact(g rfl).elim
end Go.Proofs.YtaagahmkmcnhaaaGreatDoor
