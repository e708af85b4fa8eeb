/- For ConcreteWithin: canonical forms, languages. -/
import Derived.Test.YtcejopopgcglpaaGreatDoorNb
set_option linter.unusedVariables false
set_option linter.unusedSimpArgs false
set_option linter.unusedSectionVars false
namespace Go.Proofs.YtcejopopgcglpaaGreatDoor
open Sv
theorem Qh {d:Nat} (h:d<=4):jM d<=1000000000:=by
 rcases d with _|_|_|_|_|d
 all_goals first|omega|decide
theorem JJ {d:Nat} (hd:d<=4) {v:bt Va} (h:kd d v):aW (B5 v) fun _=>True:=by
 have:=Qh hd
 unfold B5
 exact(uk 18 d ⟨0,0,false⟩ v 1 0 h ii ii ii ⟨by show(0:Int)<=0;omega,by show(0:Int)<=((0:Nat):Int);omega⟩ ii).mono fun _ _=>trivial
theorem kX {d:Nat} (hd:d<=4) {v:bt Va} (h:kd d v):aW (gG v) fun _=>True:=by
 unfold gG
 exact aq (JJ hd h) fun _ _=>aj trivial
theorem FX {d:Nat} (hd:d<=4) {x:Va} (h:Jw d x):aW (mf x) fun _=>True:=by
 unfold mf
 exact aq (kX hd h.1) fun _ _=>ar (fun _=>kX hd h.2) fun _=>aj trivial
theorem Eh {α:Type} {g:α->α->Option Bool} {b:List α}:∀{r:List α} {i:Nat},(∀x∈r,∀y∈b,aW (g x y) fun _=>True)->i+r.length=b.length->aW (iQ g b r i) fun _=>True
 |[],i,_,_=>aj trivial
 |x::r,i,hg,h=>by
  rw[V5] at h
  have e1:((i:Int)+1)=((i+1:Nat):Int):=by omega
  unfold iQ
  rw[e1]
  exact aX ii ii fun y hy hm=>aq (hg x (V0 ..) y hm) fun t _=>ar (fun _=>Eh (fun x hx=>hg x (VX _ hx)) ii) fun _=>aj trivial
theorem wa {α:Type} {g:α->α->Option Bool} {a b:List α} (hg:∀x∈a,∀y∈b,aW (g x y) fun _=>True) (ha:a.length<=1000000000):aW (ju g a b) fun _=>True:=by
 unfold ju
 refine ar (fun h=>au ha ?_) fun _=>aj trivial
 exact Eh (r:=a) (i:=0) hg ii
theorem Kb {k n:Nat} (hn:n<=1000000000) (hk:k<=1000) {a b:bM} (ha:SB k n a):aW (uU a b) fun _=>True:=by
 have h1:=ha.i.1
 have h2:=ha.f.1
 unfold uU
 repeat' first|exact aj trivial|exact(nu ha.a hn).mono fun _ _=>trivial|refine aq (jH ii) fun _ _=> ?_|refine ar (fun _=> ?_) fun _=> ?_
def TR {β:Type} (P:Va->Prop) (rec:bt Va->bt Va->Option β):Prop:=∀x y,P x->P y->aW (rec x.v y.v) (fun _=>True)/\aW (rec x.d y.d) fun _=>True
theorem TR.of {β:Type} {rec:bt Va->bt Va->Option β} {d:Nat} (h:∀e,d=e+1->∀a b:bt Va,kd e a->kd e b->aW (rec a b) fun _=>True):TR (dv d) rec:=by
 intro x y hx hy
 cases d with
 |zero=>exact hx.elim
 |succ e=>exact⟨h e rfl _ _ hx.1 hy.1,h e rfl _ _ hx.2 hy.2⟩
section
variable {P:Va->Prop} {rec:bt Va->bt Va->Option Bool}
theorem ny (hr:TR P rec) {x y:Va} (hx:P x) (hy:P y):aW (lK rec x y) fun _=>True:=by
 unfold lK
 exact aq (hr x y hx hy).1 fun _ _=>ar (fun _=>(hr x y hx hy).2) fun _=>aj trivial
theorem Ka (hr:TR P rec) {x y:aF Va} (hx:iF P x) (hy:iF P y):aW (uT rec x y) fun _=>True:=by
 have h1:=hx.fl
 have h2:=hx.kl
 unfold uT
 refine aq (wa (fun f hf g hg=> ?_) ii) fun _ _=>ar (fun _=>wa (fun f hf g hg=> ?_) ii) fun _=>aj trivial
 ·unfold CU
  exact ar (fun _=>ar (fun _=>ny hr (hx.f f hf) (hy.f g hg)) fun _=>aj trivial) fun _=>aj trivial
 ·unfold CV
  exact aq (nu (hx.ab f hf) ii) fun _ _=>ar (fun _=>ny hr (hx.k f hf) (hy.k g hg)) fun _=>aj trivial
theorem CQ (hr:TR P rec) {b:List (aF Va)} (hb:∀c∈b,iF P c):∀{r:List (aF Va)} {i:Nat},(∀c∈r,iF P c)->i+r.length=b.length->aW (AD rec b r i) fun _=>True
 |[],_,_,_=>aj trivial
 |x::r,i,h,e=>by
  rw[V5] at e
  have e1:((i:Int)+1)=((i+1:Nat):Int):=by omega
  unfold AD
  rw[e1]
  exact aX ii ii fun y _ hy=>aq (Ka hr (h x (V0 ..)) (hb y hy)) fun c _=>ar (fun _=>CQ hr hb (fun c hc=>h c (VX _ hc)) ii) fun _=>aj trivial
theorem CT (hr:TR P rec) {sa sb:List (aF Va)} (ha:∀c∈sa,iF P c) (hb:∀c∈sb,iF P c) (hl:sa.length=sb.length) (h3:sa.length<=3) {b:List (aV Va)} (hB:∀c∈b,lE P c):∀{r:List (aV Va)} {i:Nat},(∀c∈r,lE P c)->i+r.length=b.length->aW (xP rec sa sb b r i) fun _=>True
 |[],_,_,_=>au ii (CQ hr hb (r:=sa) (i:=0) ha ii)
 |x::r,i,h,e=>by
  rw[V5] at e
  have e1:((i:Int)+1)=((i+1:Nat):Int):=by omega
  have hx:=h x (V0 ..)
  have h1:=hx.il
  unfold xP
  rw[e1]
  refine aX ii ii fun y _ hy=> ?_
  have h2:=(hB y hy).il
  refine au ii (au ii (ar (fun _=>aq (ga hx) fun p ⟨p1,p2⟩=>aq (ga (hB y hy)) fun q ⟨q1,q2⟩=> ?_) fun _=>aj trivial))
  exact aq (wa (fun a ha b hb=>ny hr (p2 a ha) (q2 b hb)) ii) fun _ _=>ar (fun _=>CT hr ha hb hl h3 hB (fun c hc=>h c (VX _ hc)) ii) fun _=>aj trivial
end
theorem uS:∀{n d:Nat} {a b:bt Va},kd d a->kd d b->d<n->aW (oX n a b) fun _=>True
 |0,d,a,b,_,_,h=>by omega
 |n+1,d,a,b,ha,hb,h=>by
  have hr:TR (dv d) (oX n):=TR.of fun e he a b h1 h2=>uS h1 h2 ii
  have ca:=ha.c
  have cb:=hb.c
  have h1:=ca.ll
  have h2:=ca.sl
  have h3:=cb.ll
  have h4:=cb.sl
  unfold oX
  refine ar (fun _=>aq (Kb ii ii ca.sc) fun _ _=>ar (fun _=>au ii (au ii (ar (fun h5=>au ii (au ii (ar (fun h6=>au ii ?_) fun _=>aj trivial))) fun _=>aj trivial))) fun _=>aj trivial) fun _=>aj trivial
  exact CT hr ca.s cb.s ii ii cb.l (r:=a.lists) (i:=0) ca.l ii
theorem nr {d:Nat} (hd:d<=4) {x y:Va} (hx:Jw d x) (hy:Jw d y):aW (mi x y) fun _=>True:=
 ny (P:=Jw d) (fun x y hx hy=>⟨uS hx.1 hy.1 (by unfold qy;omega),uS hx.2 hy.2 (by unfold qy;omega)⟩) hx hy
theorem pK (d:Nat):kd d zV:=kd.of ⟨(jc 5 8).sb,by show(0:Nat)<=3;omega,by show(0:Nat)<=3;omega,fun c hc=>(by cases hc),fun c hc=>(by cases hc)⟩
theorem Fx (d:Nat):Jw d JA:=⟨pK d,pK d⟩
theorem Ho {d:Nat} (h:∃y,dv d y):dv d JA:=by
 cases d with
 |zero=>exact h.elim fun _ h=>h
 |succ d=>exact Fx d
theorem N4 {d:Nat} {c:aV Va} (h:lE (dv d) c) (i:Int) (hex:∃y,dv d y):aW (item c i) fun r=>dv d r.1:=by
 have h1:=h.il
 have h2:=h.rl
 have hz:=Ho hex
 unfold item
 exact ar (fun _=>au ii (ar (fun _=>aX ii ii fun x _ hx=>aj (h.i x hx)) fun _=>au ii (ar (fun _=>aX ii ii fun x _ hx=>aj (h.r x hx)) fun _=>aj hz))) fun _=>aj hz
theorem Fb {w:List UInt8} {i:Int} (h0:0<=i) (h1:i<w.length):∀es:List Sv.Edge,aW (tj w i es) fun p=>∀t,p=some t->∃e∈es,e.to=t
 |[]=>aj fun t h=>by cases h
 |e::r=>by
  have ih:aW (tj w i r) fun p=>∀t,p=some t->∃e'∈e::r,e'.to=t:=(Fb h0 h1 r).mono fun p hp t ht=>by
   obtain⟨e',he,e2⟩:=hp t ht
   exact⟨e',VX _ he,e2⟩
  unfold tj
  exact aX h0 h1 fun b _ _=>ar (fun _=>ar (fun _=>aj fun t ht=>by cases ht;exact⟨e,V0 ..,rfl⟩) fun _=>ih) fun _=>ih
theorem E9 {l:List bj} {m:Nat} (h:AB m l) (hw:WF l) {w:List UInt8}:∀{n i:Nat} {s:Int},i+n=w.length->0<=s->s<l.length->aW (xb l w n i s) fun _=>True
 |0,i,s,_,h1,h2=>aX h1 h2 fun _ _ _=>aj trivial
 |n+1,i,s,h0,h1,h2=>by
  have e1:((i:Int)+1)=((i+1:Nat):Int):=by omega
  unfold xb
  rw[e1]
  refine aX h1 h2 fun x _ hx=> ?_
  have:=h.row x hx
  refine au ii (aq (Fb ii ii x.aI) fun p hp=> ?_)
  cases p with
  |none=>exact aj trivial
  |some t=>
   obtain⟨e,he,e2⟩:=hp t rfl
   have:=(hw x hx).one e he
   exact E9 h hw ii ii ii
theorem PF {l:List bj} {m:Nat} (h:AB m l) (hm:m<=1000000000) {w:List UInt8} (hw:w.length<=1000000000):aW (Hg l w) fun _=>True:=by
 have:=h.len
 unfold Hg
 refine au ii (ar (fun _=>aj trivial) fun h0=>aq (Ma h hm) fun ok hok=>ar (fun h1=>au hw ?_) fun _=>aj trivial)
 exact E9 h (hok h1) (n:=w.length) (i:=0) (s:=0) ii ii ii
theorem Cg {d:Nat} {c:aF Va} (h:iF (dv d) c) {w:List UInt8} (hw:w.length<=60) (hex:∃y,dv d y):aW (view c w) fun r=>dv d r.1:=by
 have h1:=h.fl
 have h2:=h.kl
 have hz:=Ho hex
 have k1:∀ks:List (cW Va),(∀k∈ks,AB 15000 k.set)->(∀k∈ks,dv d k.val)->aW (oF w ks) fun r=>dv d r.1:=fun ks=>by
  induction ks with
  |nil=>intro _ _;exact aj hz
  |cons k r ih=>
   intro a b
   unfold oF
   exact aq (PF (a k (V0 ..)) ii ii) fun _ _=>ar (fun _=>aj (b k (V0 ..))) fun _=>ih (fun k hk=>a k (VX _ hk)) fun k hk=>b k (VX _ hk)
 have k2:∀fs:List (dy Va),(∀f∈fs,dv d f.val)->aW (l8 w c.aw fs) fun r=>dv d r.1:=fun fs=>by
  induction fs with
  |nil=>intro _;exact au ii (k1 _ h.ab h.k)
  |cons f r ih=>
   intro a
   unfold l8
   exact ar (fun _=>aj (a f (V0 ..))) fun _=>ih fun f hf=>a f (VX _ hf)
 unfold view
 exact au ii (k2 _ h.f)
section
variable {α:Type}
theorem zb {g:α->Option Bool}:∀{l:List α} {i:Nat},(∀x∈l,aW (g x) fun _=>True)->aW (fA g l i) fun k=>k= -1\/(i:Int)<=k/\k<i+l.length
 |[],i,_=>aj (.inl rfl)
 |x::r,i,h=>by
  have e1:((i:Int)+1)=((i+1:Nat):Int):=by omega
  unfold fA
  rw[e1]
  refine aq (h x (V0 ..)) fun c _=>ar (fun _=>aj (.inr (by rw[V5];omega))) fun _=>(zb fun x hx=>h x (VX _ hx)).mono fun k hk=> ?_
  rw[V5]
  omega
theorem vK {g:α->Option Bool} {l:List α} (h:∀x∈l,aW (g x) fun _=>True) (hl:l.length<=1000000000):aW (qn g l) fun k=>k= -1\/0<=k/\k<l.length:=by
 unfold qn
 exact au hl ((zb (i:=0) h).mono fun k hk=>by omega)
theorem Eu {is:α->α->Option Bool} {a b:List α} (h:∀x∈a,∀y∈b,aW (is x y) fun _=>True) (ha:a.length<=1000000000) (hb:b.length<=1000000000):aW (yc is a b) fun _=>True:=by
 have key:∀l:List α,(∀x∈l,∀y∈b,aW (is x y) fun _=>True)->aW (tf is b l) fun _=>True:=fun l=>by
  induction l with
  |nil=>intro _;exact aj trivial
  |cons x r ih=>
   intro h
   unfold tf mP
   exact aq (aq (vK (h x (V0 ..)) hb) fun _ _=>aj trivial) fun _ (_:True)=>ar (fun _=>ih fun x hx=>h x (VX _ hx)) fun _=>aj trivial
 unfold yc
 exact au ha (key a h)
end
section
variable {d:Nat} {rec:bt Va->bt Va->Option Bool}
theorem qh (hr:TR (dv d) rec) {x y:Va} (hx:dv d x) (hy:dv d y):aW (jQ rec x y) fun _=>True:=by
 unfold jQ
 exact aq (hr x y hx hy).1 fun _ _=>ar (fun _=>(hr x y hx hy).2) fun _=>aj trivial
theorem A5 (hr:TR (dv d) rec) {a b:aV Va} (ha:lE (dv d) a) (hb:lE (dv d) b) (hl:0<a.rest.length->0<b.rest.length):∀{r:List Va} {i:Int},(∀x∈r,dv d x)->aW (Gt rec a b r i) fun _=>True
 |[],_,_=>by
  have h1:=ha.rl
  unfold Gt lbE
  exact au ii (ar (fun _=>aj trivial) fun h0=>aX ii ii fun x _ hx=>aX ii (by have:=hl ii;omega) fun y _ hy=>qh hr (ha.r x hx) (hb.r y hy))
 |x::r,i,h=>by
  unfold Gt
  exact aq (N4 hb i ⟨x,h x (V0 ..)⟩) fun p hp=>aq (qh hr (h x (V0 ..)) hp) fun _ _=>ar (fun _=>A5 hr ha hb hl fun x hx=>h x (VX _ hx)) fun _=>aj trivial
theorem IC (hr:TR (dv d) rec) {a b:aV Va} (ha:lE (dv d) a) (hb:lE (dv d) b):aW (RH rec a b) fun _=>True:=by
 have h1:=ha.rl
 have h2:=hb.rl
 have h3:=ha.il
 have h4:=hb.il
 unfold RH
 exact au ii (au ii (au ii (ar (fun _=>aj trivial) fun _=>ar (fun h5=>A5 hr ha hb (fun _=>by omega) ha.i) fun _=>ar (fun _=>aj trivial) fun _=>au ii (ar (fun _=>aj trivial) fun _=>A5 hr ha hb (fun _=>by omega) ha.i))))
theorem HZ (hr:TR (dv d) rec) {a b:aF Va} (ha:iF (dv d) a) (hb:iF (dv d) b) {f:dy Va} (hf:dv d f.val) (hl:f.label.length<=60):aW (Tk rec a b f) fun _=>True:=by
 unfold Tk
 exact aq (Cg ha hl ⟨_,hf⟩) fun x hx=>aq (Cg hb hl ⟨_,hf⟩) fun y hy=>ar (fun _=>aj trivial) fun _=>qh hr hx hy
theorem CJ (hr:TR (dv d) rec) {x:cW Va} (hx:dv d x.val) (ax:AB 15000 x.set):∀{l:List (cW Va)},(∀k∈l,AB 15000 k.set)->(∀k∈l,dv d k.val)->aW (uO rec x l) fun _=>True
 |[],_,_=>aj trivial
 |y::r,a,b=>by
  have ih:aW (uO rec x r) fun _=>True:=CJ hr hx ax (fun k hk=>a k (VX _ hk)) fun k hk=>b k (VX _ hk)
  have ay:=a y (V0 ..)
  have hp:=mw ax.len ay.len ii
  unfold uO
  refine aq (qh hr hx (b y (V0 ..))) fun _ _=>ar (fun _=>ih) fun _=>aq (Pz (ax.mono (m:=20000) ii) (ay.mono (m:=20000) ii) ii) fun l hl=> ?_
  have:=hl.len
  exact au ii (ar (fun _=>aj trivial) fun _=>ih)
theorem H4 (hr:TR (dv d) rec) {a b:aF Va} (ha:iF (dv d) a) (hb:iF (dv d) b):aW (QZ rec a b) fun _=>True:=by
 have h1:=ha.fl
 have h2:=hb.fl
 have h3:=ha.kl
 have h4:=hb.kl
 have k3:∀l:List (cW Va),(∀k∈l,AB 15000 k.set)->(∀k∈l,dv d k.val)->aW (Q0 rec b.aw l) fun _=>True:=fun l=>by
  induction l with
  |nil=>intro _ _;exact aj trivial
  |cons x r ih=>
   intro p q
   unfold Q0
   exact au ii (aq (CJ hr (q x (V0 ..)) (p x (V0 ..)) hb.ab hb.k) fun _ _=>ar (fun _=>ih (fun k hk=>p k (VX _ hk)) fun k hk=>q k (VX _ hk)) fun _=>aj trivial)
 have k2:∀l:List (dy Va),(∀f∈l,dv d f.val)->(∀f∈l,f.label.length<=60)->aW (xL rec a b l) fun _=>True:=fun l=>by
  induction l with
  |nil=>intro _ _;exact au ii (k3 _ ha.ab ha.k)
  |cons x r ih=>
   intro p q
   unfold xL
   exact aq (HZ hr ha hb (p x (V0 ..)) (q x (V0 ..))) fun _ _=>ar (fun _=>ih (fun k hk=>p k (VX _ hk)) fun k hk=>q k (VX _ hk)) fun _=>aj trivial
 have k1:∀l:List (dy Va),(∀f∈l,dv d f.val)->(∀f∈l,f.label.length<=60)->aW (xN rec a b l) fun _=>True:=fun l=>by
  induction l with
  |nil=>intro _ _;exact au ii (k2 _ hb.f hb.A6)
  |cons x r ih=>
   intro p q
   unfold xN
   exact aq (HZ hr ha hb (p x (V0 ..)) (q x (V0 ..))) fun _ _=>ar (fun _=>ih (fun k hk=>p k (VX _ hk)) fun k hk=>q k (VX _ hk)) fun _=>aj trivial
 unfold QZ
 exact au ii (k1 _ ha.f ha.A6)
end
theorem wX:∀{n d:Nat} {a b:bt Va},d<=4->kd d a->kd d b->d<n->aW (iD n a b) fun _=>True
 |0,d,a,b,_,_,_,h=>by omega
 |n+1,d,a,b,hd,ha,hb,h=>by
  have hr:TR (dv d) (iD n):=TR.of fun e he a b h1 h2=>wX ii h1 h2 ii
  have ca:=ha.c
  have cb:=hb.c
  have h1:=ca.ll
  have h2:=ca.sl
  have h3:=cb.ll
  have h4:=cb.sl
  unfold iD
  refine ar (fun _=>aj trivial) fun _=>ar (fun _=>aj trivial) fun _=>aq (nr (d:=d) hd ⟨ha,pK d⟩ ⟨hb,pK d⟩) fun _ _=>ar (fun _=>aj trivial) fun _=>aq (rZ ii ii ca.sc cb.sc) fun _ _=>ar (fun _=> ?_) fun _=>aj trivial
  exact aq (Eu (fun x hx y hy=>IC hr (ca.l x hx) (cb.l y hy)) ii ii) fun _ _=>ar (fun _=>Eu (fun x hx y hy=>H4 hr (ca.s x hx) (cb.s y hy)) ii ii) fun _=>aj trivial
theorem ef {c k:Option Int} (h:aW c fun _=>True) (hk:aW k fun _=>True):aW (tr c k) fun _=>True:=by
 unfold tr
 exact aq h fun _ _=>ar (fun _=>hk) fun _=>aj trivial
theorem yx (a b:Bool):aW (um a b) fun _=>True:=by
 unfold um
 exact ar (fun _=>aj trivial) fun _=>ar (fun _=>aj trivial) fun _=>aj trivial
section
variable {α:Type} {g:α->α->Option Int}
theorem zJ {b:List α} (hb:b.length<=1000000000) {n:Nat}:∀{r:List α} {i:Nat},(∀x∈r,∀y∈b,aW (g x y) fun _=>True)->aW (gp g b n r i) fun _=>True
 |[],i,_=>au hb (ar (fun _=>aj trivial) fun _=>aj trivial)
 |x::r,i,hg=>by
  have e1:((i:Int)+1)=((i+1:Nat):Int):=by omega
  unfold gp
  rw[e1]
  exact au hb (ar (fun _=>aj trivial) fun _=>aX ii ii fun y _ hy=>aq (hg x (V0 ..) y hy) fun _ _=>ar (fun _=>zJ hb fun x hx=>hg x (VX _ hx)) fun _=>aj trivial)
theorem kK {a b:List α} (hg:∀x∈a,∀y∈b,aW (g x y) fun _=>True) (ha:a.length<=1000000000) (hb:b.length<=1000000000):aW (fC g a b) fun _=>True:=by
 unfold fC
 exact au ha (zJ hb (i:=0) hg)
end
section
variable {P:Va->Prop} {rec:bt Va->bt Va->Option Int}
theorem uo (hr:TR P rec) {x y:Va} (hx:P x) (hy:P y):aW (Ak rec x y) fun _=>True:=by
 unfold Ak
 exact ef (hr x y hx hy).1 (ef (hr x y hx hy).2 (aj trivial))
theorem Mi (hr:TR P rec) {x y:aV Va} (hx:lE P x) (hy:lE P y):aW (JM rec x y) fun _=>True:=by
 have h1:=hx.il
 have h2:=hy.il
 have h3:=hx.rl
 have h4:=hy.rl
 unfold JM Qs Qq Qo
 exact ef (au ii (au ii (wB _ _))) (ef (au ii (au ii (yx _ _))) (ef (aq (ga hx) fun p ⟨p1,p2⟩=>aq (ga hy) fun q ⟨q1,q2⟩=>kK (fun a ha b hb=>uo hr (p2 a ha) (q2 b hb)) ii ii) (aj trivial)))
theorem Mh (hr:TR P rec) {x y:aF Va} (hx:iF P x) (hy:iF P y):aW (JL rec x y) fun _=>True:=by
 have h1:=hx.fl
 have h2:=hy.fl
 have h3:=hx.kl
 have h4:=hy.kl
 unfold JL
 refine ef (kK (fun a ha b hb=> ?_) ii ii) (ef (kK (fun a ha b hb=> ?_) ii ii) (aj trivial))
 ·unfold vcF
  exact ef (ED _ _) (ef (wB _ _) (ef (uo hr (hx.f a ha) (hy.f b hb)) (aj trivial)))
 ·unfold vcC
  exact ef (wA (hx.ab a ha) (hy.ab b hb) ii) (ef (uo hr (hx.k a ha) (hy.k b hb)) (aj trivial))
end
theorem Ci:∀{n d:Nat} {a b:bt Va},kd d a->kd d b->d<n->aW (Cj n a b) fun _=>True
 |0,d,a,b,_,_,h=>by omega
 |n+1,d,a,b,ha,hb,h=>by
  have hr:TR (dv d) (Cj n):=TR.of fun e he a b h1 h2=>Ci h1 h2 ii
  have ca:=ha.c
  have cb:=hb.c
  have h1:=ca.ll
  have h2:=ca.sl
  have h3:=cb.ll
  have h4:=cb.sl
  unfold Cj
  exact ef (yx _ _) (ef (zH ii ii ca.sc cb.sc) (ef (kK (fun x hx y hy=>Mi hr (ca.l x hx) (cb.l y hy)) ii ii) (ef (kK (fun x hx y hy=>Mh hr (ca.s x hx) (cb.s y hy)) ii ii) (aj trivial))))
theorem GR {d:Nat} (hd:d<=4) {a b:bt Va} (ha:kd d a) (hb:kd d b):aW (wx a b) fun _=>True:=by
 unfold wx
 exact aq (kX hd ha) fun _ _=>ar (fun _=>aq (kX hd hb) fun _ _=>ar (fun _=>Ci ha hb (by unfold qy;omega)) fun _=>aj trivial) fun _=>aj trivial
theorem y6 (x:Va):aW (y7 x) fun _=>True:=by
 unfold y7
 exact ar (fun _=>aj trivial) fun _=>aj trivial
section
variable {α:Type} {A:α->Prop} {is:α->α->Option Bool}
theorem Iq (his:∀x y,A x->A y->aW (is x y) fun _=>True) {x:α} (hx:A x) {i:Int}:∀{r:List α} {k:Int},(∀y∈r,A y)->aW (Kz is x i r k) fun _=>True
 |[],k,_=>aj trivial
 |y::r,k,h=>by
  have ih:aW (Kz is x i r (k+1)) fun _=>True:=Iq his hx fun y hy=>h y (VX _ hy)
  have hy:=h y (V0 ..)
  unfold Kz
  exact ar (fun _=>ih) fun _=>aq (his x y hx hy) fun _ _=>ar (fun _=>ar (fun _=>aj trivial) fun _=>aq (his y x hy hx) fun _ _=>ar (fun _=>ih) fun _=>aj trivial) fun _=>ih
theorem AO (his:∀x y,A x->A y->aW (is x y) fun _=>True) {l:List α} (hl:∀x∈l,A x) (h3:l.length<=3):∀{r:List α} {i:Int} {out:List α},(∀x∈r,A x)->(∀x∈out,A x)->r.length+out.length<=3->aW (Ky is l r i out) fun q=>q.length<=3/\∀x∈q,A x
 |[],i,out,_,h,hn=>aj ⟨by simp at hn;omega,h⟩
 |x::r,i,out,hr,h,hn=>by
  rw[V5] at hn
  have hx:=hr x (V0 ..)
  have ht:∀x∈r,A x:=fun x hx=>hr x (VX _ hx)
  unfold Ky
  refine au ii (aq (Iq his hx hl) fun _ _=>ar (fun _=>AO his hl h3 ht h ii) fun _=>bw ii (AO his hl h3 ht (fun y hy=> ?_) (by simp;omega)))
  rcases V8.1 hy with hy|hy
  ·exact h y hy
  ·rw[V1.1 hy];exact hx
theorem Dn (his:∀x y,A x->A y->aW (is x y) fun _=>True) {of:α->Option (bt Va)} {d:Nat} (hd:d<=4) (hof:∀x,A x->aW (of x) (kd d)) {l:List α} (hl:∀x∈l,A x) (h3:l.length<=3):aW (s8 is of l) fun q=>q.length<=3/\∀x∈q,A x:=by
 unfold s8
 refine au ii (aq (AO his hl h3 hl (fun x hx=>by cases hx) (by simp;omega)) fun out ⟨o1,o2⟩=> ?_)
 refine(uz (A:=A) (fun x y hx hy=> ?_) o2 ii).mono fun q ⟨q1,q2,_⟩=>⟨by omega,q2⟩
 unfold zI
 exact aq (hof x hx) fun a ha=>aq (hof y hy) fun b hb=>GR hd ha hb
end
theorem dv.bot {d:Nat} {x:Va} (h:dv d x):aW (mI x.v) fun _=>True:=by
 cases d with
 |zero=>exact h.elim
 |succ d=>exact rA h.1.c
theorem dv.same {d:Nat} (hd:d<=4) {x y:Va} (hx:dv d x) (hy:dv d y):aW (mi x y) fun _=>True:=by
 cases d with
 |zero=>exact hx.elim
 |succ d=>exact nr ii hx hy
theorem lE.z (P:Va->Prop):lE P ⟨[],[]⟩:=⟨by show(0:Nat)<=3;omega,by show(0:Nat)<=2;omega,fun x h=>(by cases h),fun x h=>(by cases h)⟩
theorem iF.z (P:Va->Prop):iF P ⟨[],[]⟩:=⟨by show(0:Nat)<=4;omega,by show(0:Nat)<=4;omega,fun x h=>(by cases h),fun x h=>(by cases h),fun x h=>(by cases h),fun x h=>(by cases h),by show(1:Nat)<=14641;omega⟩
def Te (d:Nat) (cv:Va->Option (Va×Bool)):Prop:=∀x,dv d x->aW (cv x) fun p=>dv d p.1
theorem all_push {α:Type} {A:α->Prop} {l:List α} (h:∀x∈l,A x) {y:α} (hy:A y):∀x∈l++[y],A x:=fun x hx=>by
 rcases V8.1 hx with hx|hx
 ·exact h x hx
 ·rw[V1.1 hx];exact hy
section
variable {d:Nat} {cv:Va->Option (Va×Bool)}
theorem rP (hcv:Te d cv) {is:Bool} {items:List Va} (h1:items.length<=3) (h2:∀x∈items,dv d x):∀{r out:List Va},(∀x∈r,dv d x)->(∀x∈out,dv d x)->r.length+out.length<=2->aW (oR cv is items r out) fun q=>lE (dv d) q.1
 |[],out,_,h,hn=>aj ⟨h1,by simp at hn;show out.length<=2;omega,h2,h⟩
 |x::r,out,hr,h,hn=>by
  rw[V5] at hn
  have ht:∀x∈r,dv d x:=fun x hx=>hr x (VX _ hx)
  unfold oR
  exact aq (hcv x (hr x (V0 ..))) fun p hp=>ar (fun _=>aq hp.bot fun _ _=>ar (fun _=>rP hcv h1 h2 ht h ii) fun _=>bw ii (rP hcv h1 h2 ht (all_push h hp) (by simp;omega))) fun _=>aj (lE.z _)
theorem BB (hcv:Te d cv) {rest:List Va} (h1:rest.length<=2) (h2:∀x∈rest,dv d x):∀{r:List Va} {is:Bool} {out:List Va},(∀x∈r,dv d x)->(∀x∈out,dv d x)->r.length+out.length<=3->aW (LX cv rest r is out) fun q=>lE (dv d) q.1
 |[],is,out,_,h,hn=>by
  unfold LX
  exact au ii (rP hcv (by simp at hn;omega) h h2 (fun x hx=>by cases hx) (by simp;omega))
 |x::r,is,out,hr,h,hn=>by
  rw[V5] at hn
  have ht:∀x∈r,dv d x:=fun x hx=>hr x (VX _ hx)
  unfold LX
  exact aq (hcv x (hr x (V0 ..))) fun p hp=>ar (fun _=>ar (fun _=>aq hp.bot fun _ _=>bw ii (BB hcv h1 h2 ht (all_push h hp) (by simp;omega))) fun _=>bw ii (BB hcv h1 h2 ht (all_push h hp) (by simp;omega))) fun _=>aj (lE.z _)
theorem Pe (hcv:Te d cv) {c:aV Va} (h:lE (dv d) c):aW (Ln cv c) fun q=>lE (dv d) q.1:=by
 have h1:=h.il
 unfold Ln
 exact au ii (BB hcv h.rl h.r h.i (fun x hx=>by cases hx) (by simp;omega))
end
def wK (k:cW Va):Nat:=k.set.length+3
def WK (l:List (cW Va)):Nat:=(l.map wK).prod
theorem iT (k:cW Va) (l:List (cW Va)):WK (k::l)=wK k*WK l:=by
 unfold WK
 rw[WM,Xi]
theorem VB (l m:List (cW Va)):WK (l++m)=WK l*WK m:=by
 unfold WK
 rw[W2,List.prod_append]
theorem xd:∀l:List (cW Va),1<=WK l
 |[]=>V2 _
 |k::l=>by
  rw[iT]
  exact Xb (show 1<=wK k by unfold wK;omega) (xd l)
theorem PK:∀{l:List (cW Va)} {k:cW Va},k∈l->wK k<=WK l
 |x::l,k,h=>by
  rw[iT]
  rcases V9.1 h with rfl|h
  ·exact Xz _ (xd l)
  ·exact Wq (PK h) (Nat.le_mul_of_pos_left _ (by unfold wK;omega))
theorem PI:∀{l:List (cW Va)} {i:Nat} {y z:cW Va} {f:Nat},l[i]? =some y->wK z<=wK y*f->WK (l.set i z)<=WK l*f
 |[],i,y,z,f,h,_=>by simp at h
 |x::l,0,y,z,f,h,hz=>by
  simp at h
  subst h
  rw[List.set_cons_zero,iT,iT,Nat.mul_right_comm]
  exact W7 _ hz
 |x::l,i+1,y,z,f,h,hz=>by
  rw[List.set_cons_succ,iT,iT,Nat.mul_assoc]
  exact Xp _ (PI (by simpa using h) hz)
theorem Kf {l m:List Nat} (h:l.Perm m):l.prod=m.prod:=by
 induction h with
 |nil=>rfl
 |cons x _ ih=>rw[Xi,Xi,ih]
 |swap x y l=>rw[Xi,Xi,Xi,Xi,Nat.mul_left_comm]
 |trans _ _ a b=>exact a.trans b
theorem S7 {l m:List (cW Va)} (h:l.Perm m):WK l=WK m:=Kf (h.map wK)
structure KS (d:Nat) (l:List (cW Va)):Prop where
 ab:∀k∈l,AB 15000 k.set
 k:∀k∈l,dv d k.val
theorem KS.push {d:Nat} {l:List (cW Va)} (h:KS d l) {k:cW Va} (ha:AB 15000 k.set) (hk:dv d k.val):KS d (l++[k]):=⟨all_push h.ab ha,all_push h.k hk⟩
theorem KS.set {d:Nat} {l:List (cW Va)} (h:KS d l) {i:Nat} {k:cW Va} (ha:AB 15000 k.set) (hk:dv d k.val):KS d (l.set i k):=⟨fun x hx=>by
  rcases WT hx with hx|rfl
  ·exact h.ab x hx
  ·exact ha,fun x hx=>by
  rcases WT hx with hx|rfl
  ·exact h.k x hx
  ·exact hk⟩
section
variable {d:Nat} {cv:Va->Option (Va×Bool)}
theorem Bm (hd:d<=4) (hcv:Te d cv) {is:Bool} {fs:List (dy Va)} (f1:fs.length<=4) (f2:∀f∈fs,f.label.length<=60) (f3:∀f∈fs,dv d f.val):∀{r out:List (cW Va)},KS d r->KS d out->r.length+out.length<=4->WK out*WK r<=14641->aW (LV cv is fs r out) fun q=>iF (dv d) q.1
 |[],out,_,h,hn,hw=>by
  unfold LV
  refine aq (uz (A:=fun k=>AB 15000 k.set/\dv d k.val) (fun x y hx hy=> ?_) (fun x hx=>⟨h.ab x hx,h.k x hx⟩) (by simp at hn;omega)) fun q ⟨q1,q2,q3⟩=>aj ⟨f1,?_,f2,f3,fun k hk=>(q2 k hk).1,fun k hk=>(q2 k hk).2,?_⟩
  ·unfold I5
   exact wA hx.1 hy.1 ii
  ·show q.length<=4
   simp at hn
   omega
  ·show WK q<=14641
   rw[S7 q3]
   exact Wq (Xz _ (xd [])) hw
 |k::r,out,hr,h,hn,hw=>by
  rw[V5] at hn
  rw[iT] at hw
  have ak:=hr.ab k (V0 ..)
  have ht:KS d r:=⟨fun x hx=>hr.ab x (VX _ hx),fun x hx=>hr.k x (VX _ hx)⟩
  have hpo:=xd out
  have hpr:=xd r
  unfold LV
  refine aq (hcv k.val (hr.k k (V0 ..))) fun p hp=>ar (fun _=>aq (vK (fun x hx=>dv.same hd (h.k x hx) hp) ii) fun i hi=>ar (fun _=> ?_) fun hi0=> ?_) fun _=>aj (iF.z _)
  ·refine aq (AI (ak.mono (m:=20000) ii) (AB.nil 20000) ii) fun l ⟨l1,l2⟩=>bw ii ?_
   have l3:=l2 rfl
   have a4:=ak.len
   refine Bm hd hcv f1 f2 f3 ht (h.push ⟨by show l.length<=15000;omega,l1.row,l1.eb⟩ hp) (by simp;omega) ?_
   rw[VB,iT,show WK []=1 from rfl,XH,Nat.mul_assoc]
   refine Wq (Xp _ (W7 _ ?_)) hw
   show l.length+3<=k.set.length+3
   omega
  ·refine aX ii ii fun y hy hym=> ?_
   have ay:=h.ab y hym
   refine aq (AI (ay.mono (m:=20000) ii) (ak.mono (m:=20000) ii) ii) fun l ⟨l1,_⟩=>Am ii ii fun z hz hzm=> ?_
   have e:l.length+3<=wK y*wK k:=by
    have:=l1.len
    unfold fX at this
    unfold wK
    have e1:(y.set.length+2)*(k.set.length+2)=y.set.length*k.set.length+2*y.set.length+2*k.set.length+4:=by
     rw[WZ,XB,XB];omega
    have e2:(y.set.length+3)*(k.set.length+3)=y.set.length*k.set.length+3*y.set.length+3*k.set.length+9:=by
     rw[WZ,XB,XB];omega
    omega
   have e3:wK y*wK k<=14641:=by
    refine Wq (Xb (PK hym) ?_) hw
    exact Xz _ hpr
   refine Bm hd hcv f1 f2 f3 ht (h.set ⟨by show l.length<=15000;omega,l1.row,l1.eb⟩ (h.k z hzm)) (by simp;omega) ?_
   refine Wq (W7 _ (PI (f:=wK k) hy e)) ?_
   rw[Nat.mul_assoc]
   exact hw
theorem IZ (hd:d<=4) (hcv:Te d cv) {ks:List (cW Va)} (k1:ks.length<=4) (k2:KS d ks) (k3:WK ks<=14641):∀{r:List (dy Va)} {is:Bool} {out:List (dy Va)},(∀f∈r,f.label.length<=60)->(∀f∈r,dv d f.val)->(∀f∈out,f.label.length<=60)->(∀f∈out,dv d f.val)->r.length+out.length<=4->aW (K3 cv ks r is out) fun q=>iF (dv d) q.1
 |[],is,out,_,_,o1,o2,hn=>by
  unfold K3
  exact au ii (Bm hd hcv (by simp at hn;omega) o1 o2 k2 ⟨fun x hx=>(by cases hx),fun x hx=>(by cases hx)⟩ (by simp;omega) (by rw[show WK []=1 from rfl,XG];exact k3))
 |f::r,is,out,r1,r2,o1,o2,hn=>by
  rw[V5] at hn
  have t1:∀f∈r,f.label.length<=60:=fun x hx=>r1 x (VX _ hx)
  have t2:∀f∈r,dv d f.val:=fun x hx=>r2 x (VX _ hx)
  have hl:=r1 f (V0 ..)
  have key:∀(p:Va) (is:Bool),dv d p->aW (K3 cv ks r is (out++[⟨f.label,f.dR,p⟩])) fun q=>iF (dv d) q.1:=fun p is hp=>IZ hd hcv k1 k2 k3 t1 t2 (all_push o1 hl) (all_push o2 hp) (by simp;omega)
  unfold K3
  exact aq (hcv f.val (r2 f (V0 ..))) fun p hp=>ar (fun _=>ar (fun _=>aq hp.bot fun _ _=>bw ii (key _ _ hp)) fun _=>bw ii (key _ _ hp)) fun _=>aj (iF.z _)
theorem Pc (hd:d<=4) (hcv:Te d cv) {c:aF Va} (h:iF (dv d) c):aW (Ll cv c) fun q=>iF (dv d) q.1:=by
 have h1:=h.fl
 unfold Ll
 exact au ii (IZ hd hcv h.kl ⟨h.ab,h.k⟩ h.w h.A6 h.f (fun x hx=>by cases hx) (fun x hx=>by cases hx) (by simp;omega))
end
theorem PC:aW S1 fun s=>SB 1 8 s:=by
 show aW (some (⟨true,true,true,[⟨-100000000000,100000000000⟩],[⟨-999999999999999,999999999999999⟩],allL⟩:bM)) _
 refine aj ⟨nH ii ii,nH ii ii,⟨by show(1:Nat)<=8;omega,fun s hs=> ?_,fun s hs e he=> ?_⟩⟩
 ·rw[V1.1 hs]
  show(1:Nat)<=256
  omega
 ·rw[V1.1 hs] at he
  rw[V1.1 he]
  exact⟨by decide,by decide,by decide,by decide⟩
theorem Kq {P:Va->Prop} {c:aV Va} (h:lE P c):aW (Db c) fun _=>True:=by
 have h1:=h.il
 have h2:=h.rl
 unfold Db
 exact au ii (ar (fun _=>au ii (ar (fun _=>aX ii ii fun x _ _=>y6 x) fun _=>aj trivial)) fun _=>aj trivial)
theorem Gh {P:Va->Prop} {c:aF Va} (h:iF P c):aW (vf c) fun _=>True:=by
 have h1:=h.fl
 have h2:=h.kl
 unfold vf
 exact au ii (ar (fun _=>au ii (ar (fun _=>aX ii ii fun x _ _=>y6 _) fun _=>aj trivial)) fun _=>aj trivial)
theorem R4 {P:Va->Prop} {v:bt Va} (h:Jv P v):aW (evM v) fun _=>True:=by
 have h1:=h.ll
 have h2:=h.sl
 unfold evM
 exact au ii (ar (fun _=>au ii (ar (fun _=>aq PC fun s hs=>aq (zH ii ii h.sc hs) fun _ _=>ar (fun _=>aX ii ii fun l _ hl=>aq (Kq (h.l l hl)) fun _ _=>ar (fun _=>aX ii ii fun s _ hs=>Gh (h.s s hs)) fun _=>aj trivial) fun _=>aj trivial) fun _=>aj trivial)) fun _=>aj trivial)
theorem T1 (d:Nat):kd d ⟨true,et,[],[]⟩:=kd.of ⟨(jc 5 8).sb,by show(0:Nat)<=3;omega,by show(0:Nat)<=3;omega,fun c hc=>(by cases hc),fun c hc=>(by cases hc)⟩
section
variable {d:Nat}
theorem Ro {c:aV Va} (h:lE (dv d) c):aW (ofL c) (kd d):=aj (kd.of ⟨(jc 5 8).sb,by show(1:Nat)<=3;omega,by show(0:Nat)<=3;omega,fun x hx=>by rw[V1.1 hx];exact h,fun c hc=>(by cases hc)⟩)
theorem Nt {c:aF Va} (h:iF (dv d) c):aW (Nu c) (kd d):=aj (kd.of ⟨(jc 5 8).sb,by show(0:Nat)<=3;omega,by show(1:Nat)<=3;omega,fun c hc=>(by cases hc),fun x hx=>by rw[V1.1 hx];exact h⟩)
theorem Sy (hd:d<=4) {sc:bM} (hs:SB 5 8 sc) {ls:List (aV Va)} {ss:List (aF Va)} (l1:ls.length<=3) (l2:∀c∈ls,lE (dv d) c) (s1:ss.length<=3) (s2:∀c∈ss,iF (dv d) c):aW (cnE sc ls ss) fun q=>kd d q.1:=by
 have hr:TR (dv d) (iD gg):=TR.of fun e he a b h1 h2=>wX ii h1 h2 (by unfold gg;omega)
 unfold cnE
 have h1:aW (s8 (RH (iD gg)) ofL ls) fun q=>q.length<=3/\∀c∈q,lE (dv d) c:=Dn (A:=lE (dv d)) (fun x y hx hy=>IC hr hx hy) hd (fun x hx=>Ro hx) l2 l1
 have h2:aW (s8 (QZ (iD gg)) Nu ss) fun q=>q.length<=3/\∀c∈q,iF (dv d) c:=Dn (A:=iF (dv d)) (fun x y hx hy=>H4 hr hx hy) hd (fun x hx=>Nt hx) s2 s1
 refine aq h1 fun ls ⟨l1,l2⟩=>aq h2 fun ss ⟨s1,s2⟩=> ?_
 have hv:Jv (dv d) ⟨false,sc,ls,ss⟩:=⟨hs,l1,s1,l2,s2⟩
 exact aq (R4 hv) fun _ _=>ar (fun _=>aj (T1 d)) fun _=>aj (kd.of hv)
variable {cv:Va->Option (Va×Bool)}
theorem Bq (hd:d<=4) (hcv:Te d cv) {sc:bM} (hs:SB 5 8 sc) {ls:List (aV Va)} (l1:ls.length<=3) (l2:∀c∈ls,lE (dv d) c):∀{r out:List (aF Va)},(∀c∈r,iF (dv d) c)->(∀c∈out,iF (dv d) c)->r.length+out.length<=3->aW (OT cv sc ls r out) fun q=>kd d q.1
 |[],out,_,h,hn=>by
  unfold OT
  exact Sy hd hs l1 l2 (by simp at hn;omega) h
 |c::r,out,hr,h,hn=>by
  rw[V5] at hn
  have ht:∀x∈r,iF (dv d) x:=fun x hx=>hr x (VX _ hx)
  unfold OT
  exact aq (Pc hd hcv (hr c (V0 ..))) fun p hp=>ar (fun _=>ar (fun _=>bw ii (Bq hd hcv hs l1 l2 ht (all_push h hp) (by simp;omega))) fun _=>Bq hd hcv hs l1 l2 ht h ii) fun _=>aj (pK d)
theorem Br (hd:d<=4) (hcv:Te d cv) {sc:bM} (hs:SB 5 8 sc) {ss:List (aF Va)} (s1:ss.length<=3) (s2:∀c∈ss,iF (dv d) c):∀{r out:List (aV Va)},(∀c∈r,lE (dv d) c)->(∀c∈out,lE (dv d) c)->r.length+out.length<=3->aW (LW cv sc ss r out) fun q=>kd d q.1
 |[],out,_,h,hn=>by
  unfold LW
  exact au ii (Bq hd hcv hs (by simp at hn;omega) h s2 (fun x hx=>by cases hx) (by simp;omega))
 |c::r,out,hr,h,hn=>by
  rw[V5] at hn
  have ht:∀x∈r,lE (dv d) x:=fun x hx=>hr x (VX _ hx)
  unfold LW
  exact aq (Pe hcv (hr c (V0 ..))) fun p hp=>ar (fun _=>ar (fun _=>bw ii (Br hd hcv hs s1 s2 ht (all_push h hp) (by simp;omega))) fun _=>Br hd hcv hs s1 s2 ht h ii) fun _=>aj (pK d)
theorem En (hd:d<=4) {cf:bt Va->Option (bt Va×Bool)} (hcf:∀v,kd d v->aW (cf v) fun q=>kd d q.1) {x:Va} (hx:Jw d x):aW (qF cf x) fun p=>Jw d p.1:=by
 unfold qF
 exact aq (hcf _ hx.1) fun a ha=>aq (hcf _ hx.2) fun b hb=>ar (fun _=>ar (fun _=>aq (wX hd hb ha (by unfold gg;omega)) fun _ _=>aj ⟨ha,hb⟩) fun _=>aj ⟨ha,hb⟩) fun _=>aj ⟨ha,hb⟩
end
theorem EP:∀{n d:Nat} {v:bt Va},d<=4->kd d v->d<n->aW (oz n v) fun q=>kd d q.1
 |0,d,v,_,_,h=>by omega
 |n+1,d,v,hd,hv,h=>by
  have hcv:Te d (qF (oz n)):=by
   intro x hx
   cases d with
   |zero=>exact hx.elim
   |succ d=>exact En ii (fun v hv=>EP ii hv ii) hx
  have hc:=hv.c
  have h1:=hc.ll
  unfold oz Sr
  refine ar (fun _=>aj hv) fun _=>aq (ON ii ii hc.sc) fun sc hsc=>au ii ?_
  exact Br hd hcv hsc hc.sl hc.s hc.l (fun x hx=>by cases hx) (by simp;omega)
theorem KI {d:Nat} (hd:d<=4) {x:Va} (hx:Jw d x):aW (qe x) fun p=>Jw d p.1:=by
 unfold qe
 exact aq (FX hd hx) fun _ _=>ar (fun _=>aq (En hd (fun v hv=>EP hd hv (by unfold gg;omega)) hx) fun p hp=>ar (fun _=>aj hp) fun _=>aj (Fx d)) fun _=>aj (Fx d)
theorem FN {d:Nat} (hd:d<=4) {x:Va} (hx:Jw d x):aW (jN x) fun _=>True:=by
 unfold jN
 exact aq (KI hd hx) fun p hp=>ar (fun _=>nr hd hp hx) fun _=>aj trivial
section
variable {α β:Type}
theorem bL {c:Prop} [Decidable c] (h:c) (f:Unit->Option β):(zf c).bind f=f ():=by
 unfold zf
 rw[HP h]
 rfl
theorem cM {l:List α} {i:Nat} {x:α} (h:l[i]? =some x) (f:α->Option β):(cJ l (i:Int)).bind f=f x:=by
 unfold cJ
 rw[HP ii,show((i:Int)).toNat=i by omega,h]
 rfl
theorem tC {l:List α} (h:l.length<1000000000) (x:α) (f:List α->Option β):(push l x).bind f=f (l++[x]):=by
 unfold push
 rw[HP h]
 rfl
end
theorem zU {α β:Type} {l:List α} {x:α} (h:l[0]? =some x) (f:α->Option β):(cJ l 0).bind f=f x:=cM (i:=0) h f
theorem nf:¬(false=true):=by decide
def dl (l:List bj) (s:Nat) (b:Int):Nat:=match l[s]? with
 |some x=>(gA b x.aI l.length).toNat
 |none=>l.length
def ac (l:List bj):Nat->List UInt8->Bool
 |s,[]=>match l[s]? with
  |some x=>x.acc
  |none=>false
 |s,b::w=>ac l (dl l s b.toNat) w
theorem jZ {l:List bj} {s:Nat} (h:l.length<=s):∀w:List UInt8,ac l s w=false
 |[]=>by
  unfold ac
  rw[Xc h]
 |b::w=>by
  have e:dl l s b.toNat=l.length:=by
   unfold dl
   rw[Xc h]
  unfold ac
  rw[e]
  exact jZ (V2 _) w
theorem EW.tail {n:Nat} {e:Sv.Edge} {r:List Sv.Edge} (h:EW n (e::r)):EW n r:=⟨fun x hx=>h.one x (VX _ hx),fun i x y hx hy=>h.adj (i+1) x y (by simpa using hx) (by simpa using hy)⟩
theorem EW.beyond {n:Nat}:∀{r:List Sv.Edge} {e:Sv.Edge},EW n (e::r)->∀x∈r,e.hi<x.lo
 |[],_,_,x,hx=>by cases hx
 |y::r,e,h,x,hx=>by
  have h1:=h.adj 0 e y rfl rfl
  rcases V9.1 hx with rfl|hx
  ·exact h1
  ·have h2:=h.tail.beyond x hx
   have h3:=(h.tail.one y (V0 ..)).1
   omega
theorem vO {c:Int}:∀{es:List Sv.Edge} {t:Int},(∀e∈es,¬(e.lo<=c/\c<=e.hi))->gA c es t=t
 |[],t,_=>rfl
 |e::r,t,h=>by
  unfold gA
  rw[WX,TP (h e (V0 ..))]
  exact vO (es:=r) fun x hx=>h x (VX _ hx)
theorem tL {n:Nat} {c:Int}:∀{es:List Sv.Edge} {t:Int},EW n es->∀e∈es,e.lo<=c/\c<=e.hi->gA c es t=e.to
 |[],t,_,e,he,_=>by cases he
 |x::r,t,h,e,he,hc=>by
  unfold gA
  rw[WX]
  rcases V9.1 he with rfl|he
  ·rw[HP hc]
   exact vO (es:=r) fun y hy=>by have:=h.beyond y hy;omega
  ·have:=h.beyond e he
   rw[TP ii]
   exact tL (es:=r) h.tail e he hc
theorem Fe {w:List UInt8} {i:Nat} {b:UInt8} (hb:w[i]? =some b) {n:Nat}:∀{es:List Sv.Edge},EW n es->tj w i es=some (if gA b.toNat es n<n then some (gA b.toNat es n) else none)
 |[],_=>by
  unfold tj
  rw[show gA (b.toNat:Int) [] n=n from rfl,TP ii]
 |e::r,h=>by
  have ih:=Fe hb h.tail
  unfold tj
  rw[cM hb]
  by_cases h1:e.lo<=(b.toNat:Int)
  ·by_cases h2:(b.toNat:Int)<=e.hi
   ·have h3:=h.one e (V0 ..)
    rw[HP h1,HP h2,tL h e (V0 ..) ⟨h1,h2⟩,HP ii]
   ·have e1:gA (b.toNat:Int) (e::r) n=gA (b.toNat:Int) r n:=by
     unfold gA
     rw[WX,TP ii]
    rw[HP h1,TP h2,ih,e1]
  ·have e1:gA (b.toNat:Int) (e::r) n=gA (b.toNat:Int) r n:=by
    unfold gA
    rw[WX,TP ii]
   rw[TP h1,ih,e1]
theorem Fa {l:List bj} {m:Nat} (h:AB m l) (hw:WF l) {w:List UInt8}:∀{n i s:Nat},i+n=w.length->s<l.length->xb l w n i s=some (ac l s (w.drop i))
 |0,i,s,h0,hs=>by
  obtain⟨x,hx⟩:∃x,l[s]? =some x:=⟨_,VV hs⟩
  unfold xb
  rw[cM hx,WJ ii]
  unfold ac
  rw[hx]
 |n+1,i,s,h0,hs=>by
  obtain⟨x,hx⟩:∃x,l[s]? =some x:=⟨_,VV hs⟩
  obtain⟨b,hb⟩:∃b,w[i]? =some b:=⟨_,VV ii⟩
  have hxm:=V6 hx
  have hrow:=h.row x hxm
  have he:w.drop i=b::w.drop (i+1):=by
   rw[Wo ii]
   rw[VV ii] at hb
   cases hb
   rfl
  have e1:((i:Int)+1)=((i+1:Nat):Int):=by omega
  have hdl:dl l s b.toNat=(gA b.toNat x.aI l.length).toNat:=by
   unfold dl
   rw[hx]
  have hrng:=nW (c:=b.toNat) (n:=l.length) (es:=x.aI) (t:=l.length) (fun e he=>((hw x hxm).one e he).2) ii (Wv _)
  unfold xb
  rw[cM hx,bL ii,Fe hb (hw x hxm),VU,he]
  show _=some (ac l (dl l s b.toNat) (w.drop (i+1)))
  rw[hdl]
  by_cases hg:gA (b.toNat:Int) x.aI l.length<l.length
  ·rw[HP hg]
   show xb l w n ((i:Int)+1) (gA b.toNat x.aI l.length)=_
   rw[e1]
   have ih:=Fa h hw (w:=w) (n:=n) (i:=i+1) (s:=(gA b.toNat x.aI l.length).toNat) ii ii
   rw[show(((gA b.toNat x.aI l.length).toNat:Nat):Int)=gA b.toNat x.aI l.length by omega] at ih
   exact ih
  ·rw[TP hg,jZ ii]
theorem PG {l:List bj} {m:Nat} (h:AB m l) (hm:m<=1000000000) (hw:WF l) (hf:FJ l=some true) {w:List UInt8} (hl:w.length<=1000000000):Hg l w=some (ac l 0 w):=by
 have h1:=h.len
 unfold Hg
 rw[bL ii]
 by_cases h0:(l.length:Int)=0
 ·rw[HP h0,jZ ii]
 ·rw[TP h0,hf,VU,HP rfl,bL hl]
  have:=Fa h hw (w:=w) (n:=w.length) (i:=0) (s:=0) ii ii
  rw[Xn] at this
  exact this
theorem rC {c b:Int}:∀{es:List Sv.Edge} {t:Int},(∀e∈es,(e.lo<=c/\c<=e.hi)↔(e.lo<=b/\b<=e.hi))->gA c es t=gA b es t
 |[],t,_=>rfl
 |e::r,t,h=>by
  have h0:=h e (V0 ..)
  unfold gA
  rw[WX,WX]
  by_cases hb:e.lo<=b/\b<=e.hi
  ·rw[HP (h0.2 hb),HP hb]
   exact rC (es:=r) fun x hx=>h x (VX _ hx)
  ·rw[TP fun hc=>hb (h0.1 hc),TP hb]
   exact rC (es:=r) fun x hx=>h x (VX _ hx)
def Fi (bf:List Int) (b:Int) (i:Nat) (c:Int):Prop:=bf[i]? =some c/\c<=b/\∀x∈bf,x<=b->x<=c
theorem DD {l:List bj} {bf:List Int} (h:qQ l bf) {b:Int} (hb:0<=b):∃i c,Fi bf b i c:=by
 have key:∀r:List Int,r.Pairwise (· <·)->(∃x∈r,x<=b)->∃i c,Fi r b i c:=by
  intro r
  induction r with
  |nil=>intro _ ⟨x,hx,_⟩;cases hx
  |cons y r ih=>
   intro hp ⟨x,hx,hxb⟩
   have hp':=WO.1 hp
   by_cases hr:∃x∈r,x<=b
   ·obtain⟨i,c,h1,h2,h3⟩:=ih hp'.2 hr
    refine⟨i+1,c,by simpa using h1,h2,fun z hz hzb=> ?_⟩
    rcases V9.1 hz with rfl|hz
    ·have:=hp'.1 c (V6 h1);omega
    ·exact h3 z hz hzb
   ·refine⟨0,y,rfl,?_,fun z hz hzb=> ?_⟩
    ·rcases V9.1 hx with rfl|hx
     ·exact hxb
     ·exact absurd ⟨x,hx,hxb⟩ hr
    ·rcases V9.1 hz with rfl|hz
     ·omega
     ·exact absurd ⟨z,hz,hzb⟩ hr
 exact key bf h.inc ⟨0,V6 h.pos,hb⟩
theorem RW {l:List bj} {bf:List Int} (h:qQ l bf) {s:bj} (hs:s∈l) {b:Int} (hb:b<256) {i:Nat} {c:Int} (hc:Fi bf b i c) (t:Int):gA c s.aI t=gA b s.aI t:=by
 refine rC fun e he=>⟨fun⟨h1,h2⟩=>⟨by have:=hc.2.1;omega,?_⟩,fun⟨h1,h2⟩=>⟨hc.2.2 e.lo (h.lo s hs e he) h1,by have:=hc.2.1;omega⟩⟩
 by_cases hge:b<=e.hi
 ·exact hge
 ·have:=hc.2.2 (e.hi+1) (h.hi s hs e he ii) ii
  omega
theorem qb {l:List bj} {p:List Int×List (List Int)×List Bool} (h:tl l p) (hw:WF l) {s:Nat} (hs:s<=l.length) {b:Int} (h0:0<=b) (hb:b<256) {i:Nat} {c:Int} (hc:Fi p.1 b i c):(p.2.1.getD s [])[i]? =some (dl l s b:Int):=by
 have hi:i<p.1.length:=(VZ.1 hc.1).1
 rw[h.next]
 unfold dl
 by_cases hlt:s<l.length
 ·obtain⟨x,hx⟩:∃x,l[s]? =some x:=⟨_,VV hlt⟩
  have hxm:=V6 hx
  have hrng:=nW (c:=b) (n:=l.length) (es:=x.aI) (t:=l.length) (fun e he=>((hw x hxm).one e he).2) ii (Wv _)
  have e1:(lL p.1 l l.length++[List.replicate p.1.length (l.length:Int)]).getD s []=p.1.map fun c=>gA c x.aI l.length:=by
   rw[Wg,Wi (by simp[lL,hlt])]
   unfold lL
   rw[Wt,hx]
   rfl
  rw[e1,Wt,hc.1,hx]
  show some (gA c x.aI l.length)=_
  rw[RW h.bf hxm hb hc]
  show _=some (((gA b x.aI l.length).toNat:Nat):Int)
  rw[Int.toNat_of_nonneg hrng.1]
 ·have hsl:s=l.length:=by omega
  subst hsl
  have e1:(lL p.1 l l.length++[List.replicate p.1.length (l.length:Int)]).getD l.length []=List.replicate p.1.length (l.length:Int):=by
   rw[Wg,Wh (by simp[lL])]
   simp[lL]
  rw[e1,Xc (V2 _),W5,HP hi]
theorem RI.Ul {cls:List Nat} {next:List (List Int)} {n:Nat} {seen:List (List UInt8×Int)} {c:List Nat} (h:RI cls next n n seen c) {s t:Nat} (hs:s<n) (ht:t<n) (e:oo cls next s=oo cls next t):c.getD s 0=c.getD t 0:=by
 have h1:=h.RZ s hs
 rw[e,h.RZ t ht] at h1
 have:=Wm h1
 omega
theorem uB {cls:List Nat}:∀{r q:List Int},r.length=q.length->(∀(i:Nat) (x y:Int),r[i]? =some x->q[i]? =some y->cls.getD x.toNat 0=cls.getD y.toNat 0)->sZ cls r=sZ cls q
 |[],[],_,_=>rfl
 |[],_::_,h,_=>by simp at h
 |_::_,[],h,_=>by simp at h
 |x::r,y::q,h,k=>by
  have h0:=k 0 x y rfl rfl
  have ih:=uB (cls:=cls) (r:=r) (q:=q) (by simpa using h) fun i a b ha hb=>k (i+1) a b (by simpa using ha) (by simpa using hb)
  unfold sZ
  rw[h0,ih]
theorem PO:∀{a b:List Nat},NI a=NI b->a=b
 |[],[],_=>rfl
 |[],_::_,h=>by cases h
 |_::_,[],h=>by cases h
 |x::a,y::b,h=>by
  have h1:((x:Int)::NI a)=((y:Int)::NI b):=h
  have h2:=Yn h1
  rw[PO h2.2,show x=y from by have:=h2.1;omega]
def Bis (n:Nat) (next:List (List Int)) (B:Nat->Nat->Prop):Prop:=∀s t,s<n->t<n->B s t->∀(i:Nat) (x y:Int),(next.getD s [])[i]? =some x->(next.getD t [])[i]? =some y->B x.toNat y.toNat
theorem Ib {n w:Nat} {next:List (List Int)} (hT:Tb n w next) (hn0:0<n) (hn:n<1000000000) (hw:w<=256) {B:Nat->Nat->Prop} (hB:Bis n next B):
  ∀{f:Nat} {cls:List Nat} {many:Int},cls.length=n->(∀c∈cls,c<1000000000)->(∀s t,s<n->t<n->B s t->cls.getD s 0=cls.getD t 0)->∀{c:List Nat},AG next f (NI cls) many=some (NI c)->∀s t,s<n->t<n->B s t->c.getD s 0=c.getD t 0
 |0,cls,many,_,_,_,c,h=>by cases h
 |f+1,cls,many,hl,hc,hA,c,h=>by
  have h0:RI cls next n 0 [] (List.replicate n 0):=⟨by simp,⟨by simp,fun j p h=>by cases h⟩,V2 _,fun t ht=>by omega,fun p hp=>by cases hp⟩
  have e0:List.replicate next.length (0:Int)=NI (List.replicate n 0):=by rw[hT.len];simp[NI]
  obtain⟨⟨seen,nx⟩,e,c',hc',hR⟩:=p7 hT ii hl hc hw (r:=next) (k:=0) rfl (Wd _) h0
  simp only at hc' hR
  subst hc'
  have hsame:∀s t,s<n->t<n->B s t->c'.getD s 0=c'.getD t 0:=fun s t hs ht hb=>by
   refine hR.Ul hs ht ?_
   have r1:=hT.at_ hs
   have r2:=hT.at_ ht
   have hrng:∀s,s<n->∀(i:Nat) (x:Int),(next.getD s [])[i]? =some x->x.toNat<n:=fun s hs i x hx=>by
    have:=hT.eO _ (hT.at_ hs).1 x (V6 hx)
    omega
   unfold oo
   rw[hA s t hs ht hb]
   congr 1
   refine uB (by rw[r1.2,r2.2]) fun i x y hx hy=>hA _ _ (hrng s hs i x hx) (hrng t ht i y hy) (hB s t hs ht hb i x y hx hy)
  unfold AG at h
  rw[bL (by rw[hT.len];exact hn),bL (by rw[hT.len];omega),e0] at h
  have e':AF (NI cls) next next ((0:Nat):Int) [] (NI (List.replicate n 0))=some (seen,NI c'):=e
  rw[show((0:Nat):Int)=0 from rfl] at e'
  rw[e',VU] at h
  split at h
  ·have hcc:NI c'=NI c:=Wm h
   have:c'=c:=by
    exact PO hcc
   subst this
   exact hsame
  ·exact Ib hT hn0 hn hw hB (f:=f) (cls:=c') hR.len (fun x hx=>by
    obtain⟨i,hi⟩:=Wj.1 hx
    have h1:=(VZ.1 hi).1
    have:=hR.pt.lt i (by rw[<-hR.len];exact h1)
    rw[cy hi] at this
    have:=hR.le
    omega) hsame h
def Eqv (l:List bj) (s t:Nat):Prop:=∀w:List UInt8,ac l s w=ac l t w
theorem ri {l:List bj} {p:List Int×List (List Int)×List Bool} (h:tl l p) (hw:WF l) {s:Nat} (hs:s<=l.length) {i:Nat} {x:Int} (hx:(p.2.1.getD s [])[i]? =some x):∃b:UInt8,p.1[i]? =some (b.toNat:Int)/\x=(dl l s b.toNat:Int):=by
 have hT:=h.tb hw
 have hr:=hT.at_ (s:=s) ii
 have hi:i<p.1.length:=by
  have:=(VZ.1 hx).1
  omega
 have hc:p.1[i]? =some p.1[i]:=VV hi
 have hrng:=h.bf.eO _ (WC hi)
 have hb:((UInt8.ofNat (p.1[i]).toNat).toNat:Int)=p.1[i]:=by
  rw[XQ]
  omega
 refine⟨UInt8.ofNat (p.1[i]).toNat,by rw[hb];exact hc,?_⟩
 rw[hb]
 have:=qb h hw hs (b:=p.1[i]) hrng.1 hrng.2 (i:=i) (c:=p.1[i]) ⟨hc,Wv _,fun y _ hy=>hy⟩
 rw[hx] at this
 exact Wm this
theorem R6 {l:List bj} {p:List Int×List (List Int)×List Bool} (h:tl l p) (hw:WF l):Bis (l.length+1) p.2.1 (Eqv l):=by
 intro s t hs ht hst i x y hx hy w
 obtain⟨b,hb,rfl⟩:=ri h hw ii hx
 obtain⟨b',hb',rfl⟩:=ri h hw ii hy
 rw[hb] at hb'
 have hbb:b.toNat=b'.toNat:=by have:=Wm hb';omega
 rw[show(((dl l s b.toNat:Nat):Int)).toNat=dl l s b.toNat by omega,show(((dl l t b'.toNat:Nat):Int)).toNat=dl l t b'.toNat by omega,<-hbb]
 exact hst (b::w)
theorem kH {l:List bj} (hw:WF l) {s:Nat} {b:Int}:dl l s b<=l.length:=by
 unfold dl
 split
 ·rename_i x hx
  have:=nW (c:=b) (n:=l.length) (es:=x.aI) (t:=l.length) (fun e he=>((hw x (V6 hx)).one e he).2) ii (Wv _)
  omega
 ·exact V2 _
theorem Oo {l:List bj} {p:List Int×List (List Int)×List Bool} (h:tl l p) (hw:WF l) {c:List Nat} (hS:Fh (l.length+1) p.2.1 c) (hA:∀s t,s<l.length+1->t<l.length+1->c.getD s 0=c.getD t 0->p.2.2.getD s false=p.2.2.getD t false):
  ∀(w:List UInt8) (s t:Nat),s<=l.length->t<=l.length->c.getD s 0=c.getD t 0->ac l s w=ac l t w
 |[],s,t,hs,ht,e=>by
  have h1:=hA s t ii ii e
  have key:∀s,s<=l.length->ac l s []=p.2.2.getD s false:=fun s hs=>by
   unfold ac
   rw[h.acc,Wg]
   rcases WI s l.length with hlt|hge
   ·rw[Wi (by simpa using hlt),Wt,VV hlt]
    rfl
   ·rw[Xc hge,Wh (by simpa using hge),show s-(l.map (·.acc)).length=0 by rw[V4];omega]
    rfl
  rw[key s hs,key t ht,h1]
 |b::w,s,t,hs,ht,e=>by
  have hb:(0:Int)<=b.toNat/\(b.toNat:Int)<256:=⟨by omega,by have:=We b;omega⟩
  obtain⟨i,cc,hc⟩:=DD h.bf hb.1
  have h1:=qb h hw hs hb.1 hb.2 hc
  have h2:=qb h hw ht hb.1 hb.2 hc
  have h3:=hS s t ii ii e i _ _ h1 h2
  rw[show(((dl l s b.toNat:Nat):Int)).toNat=dl l s b.toNat by omega,show(((dl l t b.toNat:Nat):Int)).toNat=dl l t b.toNat by omega] at h3
  show ac l (dl l s b.toNat) w=ac l (dl l t b.toNat) w
  exact Oo h hw hS hA w _ _ (kH hw) (kH hw) h3
theorem Q4 {n w:Nat} {next:List (List Int)} {acc:List Bool} (hT:Tb n w next) (hn0:0<n) (hn:n<1000000000) (hw:w<=256) (ha:acc.length=n) {B:Nat->Nat->Prop} (hB:Bis n next B) (hBA:∀s t,s<n->t<n->B s t->acc.getD s false=acc.getD t false) {c:List Nat} (h:Ke next acc=some (NI c)):∀s t,s<n->t<n->B s t->c.getD s 0=c.getD t 0:=by
 have e0:List.replicate next.length (0:Int)=NI (List.replicate n 0):=by rw[hT.len];simp[NI]
 obtain⟨o,e,ho⟩:=qG (n:=n) (acc:=acc) (s:=0) (c:=List.replicate n 0) (by simp) ii
 unfold Ke at h
 rw[bL (by rw[hT.len];exact hn),bL ii,e0] at h
 rw[show((0:Nat):Int)=0 from rfl] at e
 rw[e,VU] at h
 subst ho
 rw[List.take_zero,Xg,Xn] at h
 have hg:∀s,s<n->(List.zipWith (fun(a:Bool) (x:Nat)=>if a then 1 else x) acc (List.replicate n 0)).getD s 0=if acc.getD s false=true then 1 else 0:=fun s hs=>by
  rw[Wg,Wg,List.getElem?_zipWith,W5,HP hs,VV ii]
  rfl
 refine Ib hT hn0 hn hw hB (by simp[ha]) (fun x hx=> ?_) (fun s t hs ht hb=> ?_) h
 ·obtain⟨i,hi⟩:=Wj.1 hx
  have h1:=(VZ.1 hi).1
  rw[List.length_zipWith,Wc,ha,Nat.min_self] at h1
  have:=hg i h1
  rw[cy hi] at this
  rw[this]
  split<;>omega
 ·rw[hg s hs,hg t ht,hBA s t hs ht hb]
def lu (e:List Sv.Edge) (lo hi v:Int):List Sv.Edge:=match e.getLast? with
 |some p=>if p.to=v/\p.hi+1=lo then e.dropLast++[⟨p.lo,hi,v⟩] else e++[⟨lo,hi,v⟩]
 |none=>[⟨lo,hi,v⟩]
theorem Ed (e:List Sv.Edge) (lo hi h2 v:Int):lu (lu e lo hi v) (hi+1) h2 v=lu e lo h2 v:=by
 unfold lu
 cases he:e.getLast? with
 |none=>simp
 |some p=>
  simp only
  by_cases hp:p.to=v/\p.hi+1=lo
  ·rw[HP hp,HP hp]
   simp
  ·rw[TP hp,TP hp]
   simp
section
variable {κ:Type} [DecidableEq κ]
def jg (st:List κ×List Sv.Edge) (lo hi:Int):Option κ->List κ×List Sv.Edge
 |none=>st
 |some k=>if k∈st.1 then(st.1,lu st.2 lo hi (st.1.idxOf k)) else(st.1++[k],lu st.2 lo hi st.1.length)
theorem QU (st:List κ×List Sv.Edge) (lo hi h2:Int) (k:Option κ):jg (jg st lo hi k) (hi+1) h2 k=jg st lo h2 k:=by
 cases k with
 |none=>rfl
 |some k=>
  unfold jg
  by_cases hk:k∈st.1
  ·simp only[HP hk,Ed]
  ·have h1:k∈st.1++[k]:=by simp
   have h2:(st.1++[k]).idxOf k=st.1.length:=by
    rw[XU,TP hk]
    simp
   simp only[TP hk,HP h1,h2,Ed]
def fK (key:Int->Option κ):Nat->Int->List κ×List Sv.Edge->List κ×List Sv.Edge
 |0,_,st=>st
 |n+1,b,st=>fK key n (b+1) (jg st b b (key b))
theorem pU (key:Int->Option κ):∀(n m:Nat) (b:Int) (st:List κ×List Sv.Edge),fK key (n+m) b st=fK key m (b+n) (fK key n b st)
 |0,m,b,st=>by
  rw[WU,show b+((0:Nat):Int)=b by omega]
  rfl
 |n+1,m,b,st=>by
  rw[show n+1+m=(n+m)+1 by omega]
  show fK key (n+m) (b+1) (jg st b b (key b))=fK key m (b+((n+1:Nat):Int)) (fK key n (b+1) (jg st b b (key b)))
  rw[pU key n m (b+1),show b+1+(n:Int)=b+((n+1:Nat):Int) by omega]
theorem uM {key:Int->Option κ} {k:Option κ}:∀(n:Nat) (lo b:Int) (st:List κ×List Sv.Edge),(∀x,b<=x->x<b+n->key x=k)->fK key n b (jg st lo (b-1) k)=jg st lo (b+n-1) k
 |0,lo,b,st,_=>by
  rw[show b+((0:Nat):Int)-1=b-1 by omega]
  rfl
 |n+1,lo,b,st,h=>by
  unfold fK
  rw[h b ii ii]
  have e:=QU st lo (b-1) b k
  rw[show b-1+1=b by omega] at e
  rw[e]
  have ih:=uM (key:=key) n lo (b+1) st fun x h1 h2=>h x ii ii
  rw[show b+1-1=b by omega] at ih
  rw[ih,show b+1+(n:Int)-1=b+((n+1:Nat):Int)-1 by omega]
theorem MI {key:Int->Option κ} {k:Option κ} (n:Nat) (b:Int) (st:List κ×List Sv.Edge) (h:∀x,b<=x->x<b+(n+1:Nat)->key x=k):fK key (n+1) b st=jg st b (b+n) k:=by
 unfold fK
 rw[h b ii ii]
 have e:=uM (key:=key) (k:=k) n b (b+1) st fun x h1 h2=>h x ii ii
 rw[show b+1-1=b by omega] at e
 rw[e,show b+1+(n:Int)-1=b+(n:Int) by omega]
end
theorem CB {α:Type}:∀{l:List α} {x:α},l≠[]->l.set (l.length-1) x=l.dropLast++[x]
 |[],_,h=>absurd rfl h
 |[a],x,_=>rfl
 |a::b::r,x,_=>by
  have ih:=CB (l:=b::r) (x:=x) (by simp)
  rw[show(a::b::r).length-1=((b::r).length-1)+1 by simp,List.set_cons_succ,ih]
  rfl
theorem SL {bf:List Int} {i:Nat} {c v lo h:Int} {m:List (Int×Int)} {e:List Sv.Edge} (hv:cx c m=some v) (hlo:bf[i]? =some lo) (hb:0<=lo/\lo<256) (hh:ow bf i=some h) (hl:e.length<1000000000):rR bf i c m e=some (e++[⟨lo,h,v⟩]):=by
 unfold rR
 rw[cM hlo,bL hb,hh,VU,hv]
 show push e ⟨lo,h,v⟩=_
 unfold push
 rw[HP hl]
theorem Jg {bf:List Int} {i:Nat} {c v lo h:Int} {m:List (Int×Int)} {e:List Sv.Edge} (hv:cx c m=some v) (hlo:bf[i]? =some lo) (hb:0<=lo/\lo<256) (hh:ow bf i=some h) (he:∀y∈e,EB y) (hl:e.length<1000000000):yi bf i c m e=some (lu e lo h v):=by
 have hB:=SL hv hlo hb hh hl
 unfold yi lu
 by_cases h0:e=[]
 ·subst h0
  rw[TP (by simp),hB]
  rfl
 ·have hpos:0<e.length:=Xq.2 h0
  obtain⟨p,hp⟩:∃p,e[e.length-1]? =some p:=⟨_,VV ii⟩
  have hp2:e.getLast? =some p:=by rw[List.getLast?_eq_getElem?,hp]
  have e1:((e.length:Int)-1)=((e.length-1:Nat):Int):=by omega
  have hpb:=he p (V6 hp)
  rw[HP ii,e1,cM hp,hv,hp2]
  show(if p.to=v then _ else _)=_
  by_cases g1:p.to=v
  ·rw[HP g1,cM hp,bL ⟨hpb.2.2.1,hpb.2.2.2⟩,cM hlo]
   by_cases g2:p.hi+1=lo
   ·rw[HP g2,hh,VU]
    show(ot e _ _)=some (if p.to=v/\p.hi+1=lo then _ else _)
    rw[HP ⟨g1,g2⟩]
    unfold ot
    rw[cM hp,show(((e.length-1:Nat):Int)).toNat=e.length-1 by omega,CB h0]
    show some (e.dropLast++[(⟨p.lo,h,p.to⟩:Sv.Edge)])=_
    rw[g1]
   ·rw[TP g2,hB]
    show _=some (if p.to=v/\p.hi+1=lo then _ else _)
    rw[TP fun h=>g2 h.2]
  ·rw[TP g1,hB]
   show _=some (if p.to=v/\p.hi+1=lo then _ else _)
   rw[TP fun h=>g1 h.1]
theorem zi (c:List Nat):∀(o:List Int) (n x:Nat),cx (x:Int) ((o.zipIdx n).map fun p=>((bg c p.1:Int),(p.2:Int)))=if x∈o.map (bg c) then some ((n+(o.map (bg c)).idxOf x:Nat):Int) else none
 |[],n,x=>by simp[cx]
 |s::o,n,x=>by
  rw[List.zipIdx_cons,WM,WM]
  unfold cx
  by_cases h:bg c s=x
  ·rw[HP (show((bg c s:Nat):Int)=x by omega),HP (by simp[h]),X0,h]
   simp
  ·rw[TP (show¬((bg c s:Nat):Int)=x by omega),zi c o (n+1) x]
   have h':¬x=bg c s:=fun e=>h e.symm
   by_cases hm:x∈o.map (bg c)
   ·have hb:(bg c s==x)=false:=by simpa using h
    rw[HP hm,HP (VX _ hm),X0,hb]
    show some _=some ((n+((o.map (bg c)).idxOf x+1):Nat):Int)
    congr 1
    omega
   ·rw[TP hm,TP (by rw[V9];exact fun e=>e.elim h' hm)]
theorem vX (c:List Nat) (o:List Int) (x:Nat):cx (x:Int) (mF c o)=if x∈o.map (bg c) then some (((o.map (bg c)).idxOf x:Nat):Int) else none:=by
 have:=zi c o 0 x
 rw[WU] at this
 exact this
theorem IQ {e:List Sv.Edge} (he:∀y∈e,EB y) {lo hi v:Int} (h1:0<=lo/\lo<256) (h2:0<=hi/\hi<256):∀y∈lu e lo hi v,EB y:=by
 unfold lu
 cases hl:e.getLast? with
 |none=>
  intro y hy
  rw[V1.1 hy]
  exact⟨h1.1,h1.2,h2.1,h2.2⟩
 |some p=>
  have hp:=he p (List.mem_of_getLast? hl)
  intro y hy
  simp only at hy
  split at hy
  ·rcases V8.1 hy with hy|hy
   ·exact he y (List.dropLast_subset _ hy)
   ·rw[V1.1 hy]
    exact⟨hp.1,hp.2.1,h2.1,h2.2⟩
  ·rcases V8.1 hy with hy|hy
   ·exact he y hy
   ·rw[V1.1 hy]
    exact⟨h1.1,h1.2,h2.1,h2.2⟩
theorem Ec (e:List Sv.Edge) (lo hi v:Int):(lu e lo hi v).length<=e.length+1:=by
 unfold lu
 cases hl:e.getLast? with
 |none=>simp
 |some p=>
  simp only
  split
  ·simp
  ·simp
def ij (bf:List Int) (i:Nat):Int:=if i+1<bf.length then bf.getD (i+1) 0-1 else 255
theorem IU {l:List bj} {bf:List Int} (h:qQ l bf) (i:Nat):ow bf i=some (ij bf i)/\0<=ij bf i/\ij bf i<256:=by
 unfold ow ij
 have e1:((i:Int)+1)=((i+1:Nat):Int):=by omega
 rw[e1]
 by_cases hi:i+1<bf.length
 ·obtain⟨x,hx⟩:∃x,bf[i+1]? =some x:=⟨_,VV hi⟩
  have:=zx h hx
  rw[HP ii,HP hi,cM hx,bL ⟨by omega,by omega⟩,cy hx]
  exact⟨rfl,by omega,by omega⟩
 ·rw[TP ii,TP hi]
  exact⟨rfl,by omega,by omega⟩
def F9 (c:List Nat) (live:List Bool) (bf:List Int):List Int->Nat->List Nat×List Sv.Edge->List Nat×List Sv.Edge
 |[],_,st=>st
 |to::r,i,st=>F9 c live bf r (i+1) (jg st (bf.getD i 0) (ij bf i) (if live.getD (bg c to) false=true then some (bg c to) else none))
theorem tS {l:List bj} {bf:List Int} (h:qQ l bf) {n:Nat} (hn:n<1000000000) {c:List Nat} {live:List Bool} (hc:c.length=n) (hlt:∀s,s<n->c.getD s 0<n) (hl:live.length=n):
  ∀{r:List Int} {i:Nat} {o:List Int} {e:List Sv.Edge},i+r.length=bf.length->(∀t∈r,0<=t/\t<n)->(∀y∈e,EB y)->e.length<=i->o.length+r.length<=900000000->
   ∃o',qI bf (NI c) live r i o (mF c o) e=some (o',mF c o',(F9 c live bf r i (o.map (bg c),e)).2)/\o'.map (bg c)=(F9 c live bf r i (o.map (bg c),e)).1/\∀x∈o',x∈o\/x∈r
 |[],i,o,e,_,_,_,_,_=>⟨o,rfl,rfl,fun x hx=> .inl hx⟩
 |to::r,i,o,e,hi,ht,he,hel,ho=>by
  rw[V5] at hi ho
  have h0:=ht to (V0 ..)
  have h256:=h.len
  have htr:∀t∈r,0<=t/\t<n:=fun t hx=>ht t (VX _ hx)
  have e1:((i:Int)+1)=((i+1:Nat):Int):=by omega
  have hcl:=hlt to.toNat ii
  obtain⟨lo,hlo⟩:∃x,bf[i]? =some x:=⟨_,VV ii⟩
  have hlob:=h.eO lo (V6 hlo)
  obtain⟨hen,hen1,hen2⟩:=IU h i
  have hat1:∀{β:Type} (f:Int->Option β),(cJ (NI c) to).bind f=f (bg c to:Int):=fun f=>by
   have e2:to=((to.toNat:Nat):Int):=by omega
   have:(NI c)[to.toNat]? =some (bg c to:Int):=by
    unfold NI bg
    rw[Wt,VV ii,Wg,VV ii]
    rfl
   rw[e2,cM this,<-e2]
  have hat2:∀{β:Type} (f:Bool->Option β),(cJ live (bg c to:Int)).bind f=f (live.getD (bg c to) false):=fun f=>by
   have hcl':bg c to<live.length:=by rw[hl];exact hcl
   have:live[bg c to]? =some (live.getD (bg c to) false):=by
    rw[Wg,VV hcl']
    rfl
   rw[cM this]
  unfold qI F9
  rw[hat1,hat2,cy hlo,e1]
  by_cases hlv:live.getD (bg c to) false=true
  ·rw[HP hlv,HP hlv,vX]
   by_cases hm:bg c to∈o.map (bg c)
   ·rw[HP hm]
    have hv:=vX c o (bg c to)
    rw[HP hm] at hv
    have hx:=Jg hv hlo hlob hen he ii
    obtain⟨o',h1,h2,h3⟩:=tS h hn hc hlt hl (r:=r) (i:=i+1) (o:=o) (e:=lu e lo (ij bf i) (((o.map (bg c)).idxOf (bg c to):Nat):Int)) ii htr (IQ he hlob ⟨hen1,hen2⟩) (by have:=Ec e lo (ij bf i) (((o.map (bg c)).idxOf (bg c to):Nat):Int);omega) ii
    refine⟨o',?_,?_,fun x hx=>(h3 x hx).imp id (VX _)⟩
    ·show((aR e).bind fun _=>(yi bf i (bg c to:Int) (mF c o) e).bind fun e=>qI bf (NI c) live r ((i+1:Nat):Int) o (mF c o) e)=_
     rw[bL ii,hx,VU,h1]
     unfold jg
     simp only[HP hm]
    ·rw[h2]
     unfold jg
     simp only[HP hm]
   ·rw[TP hm]
    have hv:=vX c (o++[to]) (bg c to)
    have hm':bg c to∈(o++[to]).map (bg c):=by simp
    rw[HP hm'] at hv
    have hidx:((o++[to]).map (bg c)).idxOf (bg c to)=o.length:=by
     rw[W2,XU,TP hm]
     simp
    rw[hidx,AZ] at hv
    have hx:=Jg hv hlo hlob hen he ii
    obtain⟨o',h1,h2,h3⟩:=tS h hn hc hlt hl (r:=r) (i:=i+1) (o:=o++[to]) (e:=lu e lo (ij bf i) (o.length:Int)) ii htr (IQ he hlob ⟨hen1,hen2⟩) (by have:=Ec e lo (ij bf i) (o.length:Int);omega) (by simp;omega)
    refine⟨o',?_,?_,fun x hx=> ?_⟩
    ·show((push o to).bind fun o'=>(aR e).bind fun _=>(yi bf i (bg c to:Int) (mF c o++[((bg c to:Int),(o.length:Int))]) e).bind fun e=>qI bf (NI c) live r ((i+1:Nat):Int) o' (mF c o++[((bg c to:Int),(o.length:Int))]) e)=_
     rw[tC ii,bL ii,hx,VU,<-AZ,h1]
     unfold jg
     simp only[TP hm,W2,WM,X4,V4]
    ·rw[h2]
     unfold jg
     simp only[TP hm,W2,WM,X4,V4]
    ·rcases h3 x hx with g|g
     ·rcases V8.1 g with g|g
      ·exact .inl g
      ·exact .inr (by rw[V1.1 g];exact V0 ..)
     ·exact .inr (VX _ g)
  ·rw[TP hlv,TP hlv]
   obtain⟨o',h1,h2,h3⟩:=tS h hn hc hlt hl (r:=r) (i:=i+1) (o:=o) (e:=e) ii htr he ii ii
   exact⟨o',h1,h2,fun x hx=>(h3 x hx).imp id (VX _)⟩
def jR (l:List bj) (c:List Nat) (live:List Bool) (s:Nat) (b:Int):Option Nat:=if live.getD (c.getD (dl l s b) 0) false=true then some (c.getD (dl l s b) 0) else none
theorem NV {l:List bj} {bf:List Int} (h:qQ l bf) {i:Nat} {lo:Int} (hlo:bf[i]? =some lo) {b:Int} (h1:lo<=b) (h2:b<=ij bf i):Fi bf b i lo:=by
 refine⟨hlo,h1,fun x hx hxb=> ?_⟩
 obtain⟨j,hj⟩:=Wj.1 hx
 have hjl:=(VZ.1 hj).1
 have hil:=(VZ.1 hlo).1
 have hinc:=WS.1 h.inc
 rw[VV hjl] at hj
 rw[VV hil] at hlo
 cases hj
 cases hlo
 rcases X8 j i with g|g|g
 ·have:=hinc j i hjl hil g
  omega
 ·subst g
  exact Wv _
 ·exfalso
  have hi1:i+1<bf.length:=by omega
  have e:ij bf i=bf[i+1]-1:=by
   unfold ij
   rw[HP hi1,Wg,VV hi1]
   rfl
  rw[e] at h2
  rcases X7 (show i+1<=j by omega) with g2|g2
  ·subst g2
   omega
  ·have:=hinc (i+1) j hi1 hjl g2
   omega
theorem uL {l:List bj} {p:List Int×List (List Int)×List Bool} (h:tl l p) (hw:WF l) {s:Nat} (hs:s<=l.length) {c:List Nat} {live:List Bool}:
  ∀{r:List Int} {i:Nat} {st:List Nat×List Sv.Edge},(p.2.1.getD s []).drop i=r->i+r.length=p.1.length->F9 c live p.1 r i st=fK (jR l c live s) (256-p.1.getD i 256).toNat (p.1.getD i 256) st
 |[],i,st,_,hi=>by
  have e:p.1.getD i 256=256:=by
   rw[Wg,Xc (by simp at hi;omega)]
   rfl
  rw[e]
  rfl
 |to::r,i,st,hr,hi=>by
  rw[V5] at hi
  have hil:i<p.1.length:=by omega
  obtain⟨lo,hlo⟩:∃x,p.1[i]? =some x:=⟨_,VV hil⟩
  have hlob:=h.bf.eO lo (V6 hlo)
  obtain⟨_,hen1,hen2⟩:=IU h.bf i
  have hle:lo<=ij p.1 i:=by
   unfold ij
   split
   ·rename_i h1
    have hinc:=WS.1 h.bf.inc i (i+1) hil h1 ii
    rw[VV hil] at hlo
    cases hlo
    rw[Wg,VV h1]
    show p.1[i]<=p.1[i+1]-1
    omega
   ·omega
  have hr':(p.2.1.getD s []).drop (i+1)=r:=by
   rw[<-XK,hr]
   rfl
  have hto:∀b,lo<=b->b<=ij p.1 i->to=((dl l s b:Nat):Int):=fun b h1 h2=>by
   have hL:=NV h.bf hlo h1 h2
   have h3:=qb h hw hs (b:=b) ii ii hL
   have h4:((p.2.1.getD s []).drop i)[0]? =some to:=by rw[hr];rfl
   rw[Xj,W9,h3] at h4
   exact(Wm h4).symm
  have hkey:∀b,lo<=b->b<=ij p.1 i->jR l c live s b=if live.getD (bg c to) false=true then some (bg c to) else none:=fun b h1 h2=>by
   unfold jR bg
   rw[hto b h1 h2,show(((dl l s b:Nat):Int)).toNat=dl l s b by omega]
  have e0:p.1.getD i 0=lo:=cy hlo
  have e1:p.1.getD i 256=lo:=cy hlo
  have e2:p.1.getD (i+1) 256=ij p.1 i+1:=by
   unfold ij
   split
   ·rename_i h1
    rw[Wg,Wg,VV h1]
    show p.1[i+1]=p.1[i+1]-1+1
    omega
   ·rw[Wg,Xc ii]
    rfl
  have ih:=uL h hw hs (c:=c) (live:=live) (r:=r) (i:=i+1) (st:=jg st lo (ij p.1 i) (if live.getD (bg c to) false=true then some (bg c to) else none)) hr' ii
  unfold F9
  rw[e0,ih,e1,e2]
  have hone:=MI (key:=jR l c live s) (k:=if live.getD (bg c to) false=true then some (bg c to) else none) (ij p.1 i-lo).toNat lo st fun x h1 h2=>hkey x h1 ii
  rw[show lo+(((ij p.1 i-lo).toNat:Nat):Int)=ij p.1 i by omega] at hone
  rw[show(256-lo).toNat=((ij p.1 i-lo).toNat+1)+(256-(ij p.1 i+1)).toNat by omega,pU,hone]
  rw[show lo+(((ij p.1 i-lo).toNat+1:Nat):Int)=ij p.1 i+1 by omega]
section
variable {κ κ':Type} [DecidableEq κ] [DecidableEq κ'] {R:κ->κ'->Prop}
def F2 (R:κ->κ'->Prop):List κ->List κ'->Prop
 |[],[]=>True
 |a::r,b::q=>R a b/\F2 R r q
 |_,_=>False
def One (R:κ->κ'->Prop):Prop:=∀a a' b b',R a a'->R b b'->(a=b↔a'=b')
theorem F2.len:∀{K:List κ} {K':List κ'},F2 R K K'->K.length=K'.length
 |[],[],_=>rfl
 |[],_::_,h=>h.elim
 |_::_,[],h=>h.elim
 |a::r,b::q,h=>by rw[V5,V5,F2.len h.2]
theorem F2.mem (hR:One R) {a:κ} {a':κ'} (ha:R a a'):∀{K:List κ} {K':List κ'},F2 R K K'->(a∈K↔a'∈K')
 |[],[],_=>by simp
 |[],_::_,h=>h.elim
 |_::_,[],h=>h.elim
 |b::r,b'::q,h=>by
  rw[V9,V9,F2.mem hR ha h.2,hR a a' b b' ha h.1]
theorem F2.idx (hR:One R) {a:κ} {a':κ'} (ha:R a a'):∀{K:List κ} {K':List κ'},F2 R K K'->K.idxOf a=K'.idxOf a'
 |[],[],_=>rfl
 |[],_::_,h=>h.elim
 |_::_,[],h=>h.elim
 |b::r,b'::q,h=>by
  rw[X0,X0,F2.idx hR ha h.2]
  have:=hR b b' a a' h.1 ha
  by_cases e:b=a
  ·have e':=this.1 e
   have h1:(b==a)=true:=by simpa using e
   have h2:(b'==a')=true:=by simpa using e'
   rw[h1,h2]
  ·have e':¬b'=a':=fun x=>e (this.2 x)
   have h1:(b==a)=false:=by simpa using e
   have h2:(b'==a')=false:=by simpa using e'
   rw[h1,h2]
theorem F2.push {a:κ} {a':κ'} (ha:R a a'):∀{K:List κ} {K':List κ'},F2 R K K'->F2 R (K++[a]) (K'++[a'])
 |[],[],_=>⟨ha,trivial⟩
 |[],_::_,h=>h.elim
 |_::_,[],h=>h.elim
 |b::r,b'::q,h=>⟨h.1,F2.push ha h.2⟩
def VH (R:κ->κ'->Prop):Option κ->Option κ'->Prop
 |none,none=>True
 |some a,some b=>R a b
 |_,_=>False
theorem MH (hR:One R) {K:List κ} {K':List κ'} {e:List Sv.Edge} (h:F2 R K K') {lo hi:Int}:∀{k:Option κ} {k':Option κ'},VH R k k'->F2 R (jg (K,e) lo hi k).1 (jg (K',e) lo hi k').1/\(jg (K,e) lo hi k).2=(jg (K',e) lo hi k').2
 |none,none,_=>⟨h,rfl⟩
 |none,some _,hk=>hk.elim
 |some _,none,hk=>hk.elim
 |some a,some a',hk=>by
  have hk':R a a':=hk
  have hm:=h.mem hR hk'
  have hi:=h.idx hR hk'
  have hl:=h.len
  unfold jg
  by_cases g:a∈K
  ·simp only[HP g,HP (hm.1 g)]
   exact⟨h,by rw[hi]⟩
  ·simp only[TP g,TP fun x=>g (hm.2 x)]
   exact⟨F2.push (R:=R) hk' h,by rw[hl]⟩
theorem yF (hR:One R) {key:Int->Option κ} {key':Int->Option κ'}:∀(n:Nat) (b:Int) {K:List κ} {K':List κ'} {e:List Sv.Edge},(∀x,b<=x->x<b+n->VH R (key x) (key' x))->F2 R K K'->F2 R (fK key n b (K,e)).1 (fK key' n b (K',e)).1/\(fK key n b (K,e)).2=(fK key' n b (K',e)).2
 |0,b,K,K',e,_,h=>⟨h,rfl⟩
 |n+1,b,K,K',e,hk,h=>by
  have h1:=MH hR (e:=e) h (lo:=b) (hi:=b) (hk b ii ii)
  have ih:=yF hR (key:=key) (key':=key') n (b+1) (K:=(jg (K,e) b b (key b)).1) (K':=(jg (K',e) b b (key' b)).1) (e:=(jg (K,e) b b (key b)).2) (fun x h2 h3=>hk x ii ii) h1.1
  show F2 R (fK key n (b+1) (jg (K,e) b b (key b))).1 (fK key' n (b+1) (jg (K',e) b b (key' b))).1/\(fK key n (b+1) (jg (K,e) b b (key b))).2=(fK key' n (b+1) (jg (K',e) b b (key' b))).2
  have e1:jg (K',e) b b (key' b)=((jg (K',e) b b (key' b)).1,(jg (K,e) b b (key b)).2):=by rw[h1.2]
  rw[e1]
  exact ih
end
structure Fk (l:List bj) (p:List Int×List (List Int)×List Bool) (c:List Nat) (live:List Bool):Prop where
 comp:tl l p
 wf:WF l
 len:c.length=l.length+1
 lt:∀s,s<l.length+1->c.getD s 0<l.length+1
 iff:∀s t,s<=l.length->t<=l.length->(c.getD s 0=c.getD t 0↔Eqv l s t)
 live:Live (l.length+1) p.2.1 p.2.2 c live
theorem qO {l:List bj} {p:List Int×List (List Int)×List Bool} (h:tl l p) {s:Nat} (hs:s<=l.length):p.2.2.getD s false=ac l s []:=by
 unfold ac
 rw[h.acc,Wg]
 rcases WI s l.length with hlt|hge
 ·rw[Wi (by simpa using hlt),Wt,VV hlt]
  rfl
 ·rw[Xc hge,Wh (by simpa using hge),show s-(l.map (·.acc)).length=0 by rw[V4];omega]
  rfl
theorem Ds {l:List bj} {p:List Int×List (List Int)×List Bool} (h:tl l p) (hw:WF l):∀(j s:Nat),s<=l.length->TG p.2.1 p.2.2 j s->∃w:List UInt8,ac l s w=true
 |0,s,hs,h1=>⟨[],by rw[<-qO h hs];exact h1⟩
 |j+1,s,hs,⟨to,h1,h2⟩=>by
  obtain⟨i,hi⟩:=Wj.1 h1
  obtain⟨b,_,rfl⟩:=ri h hw hs hi
  rw[show(((dl l s b.toNat:Nat):Int)).toNat=dl l s b.toNat by omega] at h2
  obtain⟨w,hw'⟩:=Ds h hw j _ (kH hw) h2
  exact⟨b::w,hw'⟩
theorem BZ {l:List bj} {p:List Int×List (List Int)×List Bool} (h:tl l p) (hw:WF l):∀(w:List UInt8) (s:Nat),s<=l.length->ac l s w=true->TG p.2.1 p.2.2 w.length s
 |[],s,hs,h1=>by
  show p.2.2.getD s false=true
  rw[qO h hs]
  exact h1
 |b::w,s,hs,h1=>by
  have hb:(0:Int)<=b.toNat/\(b.toNat:Int)<256:=⟨by omega,by have:=We b;omega⟩
  obtain⟨i,cc,hc⟩:=DD h.bf hb.1
  have h2:=qb h hw hs hb.1 hb.2 hc
  refine⟨_,V6 h2,?_⟩
  rw[show(((dl l s b.toNat:Nat):Int)).toNat=dl l s b.toNat by omega]
  exact BZ h hw w _ (kH hw) h1
theorem Fk.lv {l:List bj} {p:List Int×List (List Int)×List Bool} {c:List Nat} {live:List Bool} (h:Fk l p c live) {s:Nat} (hs:s<=l.length):live.getD (c.getD s 0) false=true↔∃w:List UInt8,ac l s w=true:=by
 constructor
 ·intro h1
  obtain⟨t,k,h2,h3,h4⟩:=h.live.snd _ h1
  obtain⟨w,hw⟩:=Ds h.comp h.wf k t ii h4
  exact⟨w,by rw[<-hw];exact((h.iff s t hs ii).1 h3.symm) w⟩
 ·rintro⟨w,hw⟩
  exact h.live.all (h.comp.tb h.wf) w.length s ii (BZ h.comp h.wf w s hs hw)
def Rc (l l':List bj) (c c':List Nat) (a a':Nat):Prop:=∃s s',s<=l.length/\s'<=l'.length/\c.getD s 0=a/\c'.getD s' 0=a'/\∀w:List UInt8,ac l s w=ac l' s' w
section
variable {l l':List bj} {p p':List Int×List (List Int)×List Bool} {c c':List Nat} {live live':List Bool}
theorem Rc.one (h:Fk l p c live) (h':Fk l' p' c' live'):One (Rc l l' c c'):=by
 rintro a a' b b' ⟨s,s',h1,h2,rfl,rfl,h3⟩ ⟨t,t',g1,g2,rfl,rfl,g3⟩
 rw[h.iff s t h1 g1,h'.iff s' t' h2 g2]
 exact⟨fun e w=>by rw[<-h3,<-g3];exact e w,fun e w=>by rw[h3,g3];exact e w⟩
theorem NY (h:Fk l p c live) (h':Fk l' p' c' live') {s s':Nat} (hs:s<=l.length) (hs':s'<=l'.length) (e:∀w:List UInt8,ac l s w=ac l' s' w) {x:Int} (h0:0<=x) (h1:x<256):VH (Rc l l' c c') (jR l c live s x) (jR l' c' live' s' x):=by
 have hb:((UInt8.ofNat x.toNat).toNat:Int)=x:=by
  rw[XQ]
  omega
 have e2:∀w:List UInt8,ac l (dl l s x) w=ac l' (dl l' s' x) w:=fun w=>by
  have:=e (UInt8.ofNat x.toNat::w)
  unfold ac at this
  rw[hb] at this
  exact this
 have hl:=h.lv (s:=dl l s x) (kH h.wf)
 have hl':=h'.lv (s:=dl l' s' x) (kH h'.wf)
 have hiff:live.getD (c.getD (dl l s x) 0) false=true↔live'.getD (c'.getD (dl l' s' x) 0) false=true:=by
  rw[hl,hl']
  exact⟨fun⟨w,hw⟩=>⟨w,by rw[<-e2];exact hw⟩,fun⟨w,hw⟩=>⟨w,by rw[e2];exact hw⟩⟩
 unfold jR
 by_cases g:live.getD (c.getD (dl l s x) 0) false=true
 ·rw[HP g,HP (hiff.1 g)]
  exact⟨dl l s x,dl l' s' x,kH h.wf,kH h'.wf,rfl,rfl,e2⟩
 ·rw[TP g,TP fun y=>g (hiff.2 y)]
  trivial
end
section
variable {κ:Type} [DecidableEq κ]
theorem T6 {K:List κ} {e:List Sv.Edge} (h:K.Nodup) {lo hi:Int}:∀{k:Option κ},(jg (K,e) lo hi k).1.Nodup
 |none=>h
 |some k=>by
  unfold jg
  by_cases g:k∈K
  ·simp only[HP g];exact h
  ·simp only[TP g]
   rw[XT]
   exact⟨h,by simp,fun a ha b hb e=>g (by rw[V1.1 hb] at e;rw[<-e];exact ha)⟩
theorem HY {key:Int->Option κ}:∀(n:Nat) (b:Int) {K:List κ} {e:List Sv.Edge},K.Nodup->(fK key n b (K,e)).1.Nodup
 |0,b,K,e,h=>h
 |n+1,b,K,e,h=>by
  have h1:=T6 (e:=e) h (lo:=b) (hi:=b) (k:=key b)
  show(fK key n (b+1) (jg (K,e) b b (key b))).1.Nodup
  have e1:jg (K,e) b b (key b)=((jg (K,e) b b (key b)).1,(jg (K,e) b b (key b)).2):=rfl
  rw[e1]
  exact HY n (b+1) h1
end
theorem Lm {l:List bj} {p:List Int×List (List Int)×List Bool} {c:List Nat} {live:List Bool} (h:Fk l p c live) (hn:l.length<800000000) {s:Nat} (hs:s<=l.length) {row:List Int} (hrow:p.2.1[s]? =some row) {o:List Int} (hnd:(o.map (bg c)).Nodup) (hor:∀t∈o,0<=t/\t<(l.length+1:Nat)):
  ∃o1 e1,qI p.1 (NI c) live row 0 o (mF c o) []=some (o1,mF c o1,e1)/\(o1.map (bg c)).Nodup/\(∀t∈o1,0<=t/\t<(l.length+1:Nat))/\(o1.map (bg c),e1)=fK (jR l c live s) 256 0 (o.map (bg c),[]):=by
 have hT:=h.comp.tb h.wf
 have hr:=hT.at_ (s:=s) ii
 have hrow':p.2.1.getD s []=row:=cy hrow
 rw[hrow'] at hr
 have h256:=h.comp.bf.len
 have hol:o.length<=l.length+1:=by
  have:=iX (n:=l.length+1) hnd fun x hx=>by
   obtain⟨t,ht,rfl⟩:=WQ.1 hx
   have:=hor t ht
   exact h.lt t.toNat ii
  rwa [V4] at this
 obtain⟨o1,h1,h2,h3⟩:=tS h.comp.bf (n:=l.length+1) ii h.len h.lt h.live.len (r:=row) (i:=0) (o:=o) (e:=[]) (by rw[hr.2];omega) (fun t ht=>hT.eO row hr.1 t ht) (fun y hy=>by cases hy) (V2 _) (by rw[hr.2];omega)
 have h4:=uL h.comp h.wf hs (c:=c) (live:=live) (r:=row) (i:=0) (st:=(o.map (bg c),[])) (by rw[hrow'];rfl) (by rw[hr.2];omega)
 have e0:p.1.getD 0 256=0:=cy h.comp.bf.pos
 rw[e0,show((256:Int)-0).toNat=256 by decide] at h4
 refine⟨o1,(F9 c live p.1 row 0 (o.map (bg c),[])).2,h1,?_,fun t ht=> ?_,?_⟩
 ·rw[h2,h4]
  exact HY 256 0 hnd
 ·rcases h3 t ht with g|g
  ·exact hor t g
  ·exact hT.eO row hr.1 t g
 ·rw[h2,<-h4]
def Sst (l l':List bj) (s s':Int):Prop:=∀w:List UInt8,ac l s.toNat w=ac l' s'.toNat w
section
variable {l l':List bj} {p p':List Int×List (List Int)×List Bool} {c c':List Nat} {live live':List Bool}
theorem Om:∀{o o':List Int},(∀t∈o,0<=t/\t<(l.length+1:Nat))->(∀t∈o',0<=t/\t<(l'.length+1:Nat))->F2 (Sst l l') o o'->F2 (Rc l l' c c') (o.map (bg c)) (o'.map (bg c'))
 |[],[],_,_,_=>trivial
 |[],_::_,_,_,h=>h.elim
 |_::_,[],_,_,h=>h.elim
 |s::o,s'::o',h1,h2,h=>by
  have g1:=h1 s (V0 ..)
  have g2:=h2 s' (V0 ..)
  exact⟨⟨s.toNat,s'.toNat,by omega,by omega,rfl,rfl,h.1⟩,Om (fun t ht=>h1 t (VX _ ht)) (fun t ht=>h2 t (VX _ ht)) h.2⟩
theorem Ol (h:Fk l p c live) (h':Fk l' p' c' live'):∀{o o':List Int},(∀t∈o,0<=t/\t<(l.length+1:Nat))->(∀t∈o',0<=t/\t<(l'.length+1:Nat))->F2 (Rc l l' c c') (o.map (bg c)) (o'.map (bg c'))->F2 (Sst l l') o o'
 |[],[],_,_,_=>trivial
 |[],_::_,_,_,h=>h.elim
 |_::_,[],_,_,h=>h.elim
 |s::o,s'::o',h1,h2,hf=>by
  have g1:=h1 s (V0 ..)
  have g2:=h2 s' (V0 ..)
  obtain⟨⟨t,t',t1,t2,t3,t4,t5⟩,hr⟩:=hf
  refine⟨fun w=> ?_,Ol h h' (fun t ht=>h1 t (VX _ ht)) (fun t ht=>h2 t (VX _ ht)) hr⟩
  have e1:=(h.iff t s.toNat t1 ii).1 t3 w
  have e2:=(h'.iff t' s'.toNat t2 ii).1 t4 w
  rw[<-e1,t5,e2]
end
section
variable {l l':List bj} {p p':List Int×List (List Int)×List Bool} {c c':List Nat} {live live':List Bool}
theorem kN (h:Fk l p c live) (hn:l.length<800000000) {f k:Nat} {o:List Int} {out r:List bj} (hnd:(o.map (bg c)).Nodup) (hor:∀t∈o,0<=t/\t<(l.length+1:Nat)) (hr:pC p.1 p.2.1 p.2.2 (NI c) live (f+1) k o (mF c o) out=some r):
  (o.length<=k/\out=r)\/∃(s:Int) (o1:List Int) (e1:List Sv.Edge),o[k]? =some s/\(o1.map (bg c)).Nodup/\(∀t∈o1,0<=t/\t<(l.length+1:Nat))/\(o1.map (bg c),e1)=fK (jR l c live s.toNat) 256 0 (o.map (bg c),[])/\pC p.1 p.2.1 p.2.2 (NI c) live f (k+1:Nat) o1 (mF c o1) (out++[⟨ac l s.toNat [],e1⟩])=some r:=by
 unfold pC at hr
 obtain⟨_,hr⟩:=ah hr
 by_cases hk:k<o.length
 ·rw[HP ii] at hr
  obtain⟨s,hs⟩:∃s,o[k]? =some s:=⟨_,VV hk⟩
  have hsr:=hor s (V6 hs)
  have es:s=((s.toNat:Nat):Int):=by omega
  have hT:=h.comp.tb h.wf
  obtain⟨row,hrow⟩:∃row,p.2.1[s.toNat]? =some row:=⟨_,VV (by rw[hT.len];omega)⟩
  have hacc:p.2.2[s.toNat]? =some (ac l s.toNat []):=by
   have h1:=qO h.comp (s:=s.toNat) ii
   have hl:s.toNat<p.2.2.length:=by rw[h.comp.acc];simp;omega
   rw[Wg,VV hl] at h1
   rw[VV hl,<-h1]
   rfl
  rw[cM hs,es,cM hacc,cM hs,es,cM hrow] at hr
  obtain⟨_,hr⟩:=ah hr
  obtain⟨o1,e1,h1,h2,h3,h4⟩:=Lm h hn (s:=s.toNat) ii hrow hnd hor
  rw[h1,VU] at hr
  obtain⟨_,hr⟩:=aC hr
  refine .inr ⟨s,o1,e1,hs,h2,h3,h4,?_⟩
  have ek:((k:Int)+1)=((k+1:Nat):Int):=by omega
  rw[ek] at hr
  exact hr
 ·rw[TP ii] at hr
  exact .inl ⟨by omega,Wm hr⟩
theorem TC:∀{o o':List Int} {k:Nat} {s s':Int},F2 (Sst l l') o o'->o[k]? =some s->o'[k]? =some s'->Sst l l' s s'
 |[],[],k,s,s',_,h,_=>by simp at h
 |[],_::_,_,_,_,h,_,_=>h.elim
 |_::_,[],_,_,_,h,_,_=>h.elim
 |a::o,b::o',0,s,s',h,h1,h2=>by
  simp at h1 h2
  subst h1 h2
  exact h.1
 |a::o,b::o',k+1,s,s',h,h1,h2=>TC h.2 (by simpa using h1) (by simpa using h2)
theorem zM (h:Fk l p c live) (h':Fk l' p' c' live') (hn:l.length<800000000) (hn':l'.length<800000000):
  ∀{f f' k:Nat} {o o':List Int} {out r r':List bj},(o.map (bg c)).Nodup->(o'.map (bg c')).Nodup->(∀t∈o,0<=t/\t<(l.length+1:Nat))->(∀t∈o',0<=t/\t<(l'.length+1:Nat))->F2 (Sst l l') o o'->
   pC p.1 p.2.1 p.2.2 (NI c) live f k o (mF c o) out=some r->pC p'.1 p'.2.1 p'.2.2 (NI c') live' f' k o' (mF c' o') out=some r'->r=r'
 |0,_,_,_,_,_,_,_,_,_,_,_,_,hr,_=>by cases hr
 |_+1,0,_,_,_,_,_,_,_,_,_,_,_,_,hr'=>by cases hr'
 |f+1,f'+1,k,o,o',out,r,r',g1,g2,g3,g4,hf,hr,hr'=>by
  have hlen:=hf.len
  rcases kN h hn g1 g3 hr with⟨a1,a2⟩|⟨s,o1,e1,a1,a2,a3,a4,a5⟩
  ·rcases kN h' hn' g2 g4 hr' with⟨b1,b2⟩|⟨s',o1',e1',b1,b2,b3,b4,b5⟩
   ·rw[<-a2,b2]
   ·have:=(VZ.1 b1).1
    omega
  ·rcases kN h' hn' g2 g4 hr' with⟨b1,b2⟩|⟨s',o1',e1',b1,b2,b3,b4,b5⟩
   ·have:=(VZ.1 a1).1
    omega
   ·have hs:=TC hf a1 b1
    have r1:=g3 s (V6 a1)
    have r2:=g4 s' (V6 b1)
    have hl:=yF (Rc.one h h') (key:=jR l c live s.toNat) (key':=jR l' c' live' s'.toNat) 256 0 (e:=[]) (fun x x1 x2=>NY h h' ii ii hs x1 ii) (Om (c:=c) (c':=c') g3 g4 hf)
    rw[<-a4,<-b4] at hl
    have he:e1=e1':=hl.2
    subst he
    have ha:ac l s.toNat []=ac l' s'.toNat []:=hs []
    rw[ha] at a5
    exact zM h h' hn hn' a2 b2 a3 b3 (Ol h h' a3 b3 hl.1) a5 b5
end
theorem kx {l:List bj} {n:Nat} (h:AB n l) (hn:n<800000000) (hw:FJ l=some true) (hW:WF l) (h0:l≠[]):∃(p:List Int×List (List Int)×List Bool) (c:List Nat) (live:List Bool),Fk l p c live/\∀r,mB l=some (r,0)->
  (live.getD (c.getD 0 0) false=true/\pC p.1 p.2.1 p.2.2 (NI c) live (p.2.1.length+1) 0 [0] (mF c [0]) []=some r)\/(¬live.getD (c.getD 0 0) false=true/\r=[]):=by
 have hln:=h.len
 have hpos:0<l.length:=Xq.2 h0
 obtain⟨p,hp,hC⟩:=Ey h ii
 have hT:=hC.tb hW
 have h256:=hC.bf.len
 have hal:p.2.2.length=l.length+1:=by rw[hC.acc];simp
 obtain⟨_,hc,c,m,rfl,hP,hS,hA⟩:=C2 hT ii ii h256 hal
 have hlt:∀s,s<l.length+1->c.getD s 0<l.length+1:=fun s hs=>Xe (hP.lt s hs) hP.le
 obtain⟨live,hlv,hL⟩:=yT hT ii h256 hal hP.len hlt hS hA
 have hK:Fk l p c live:={comp:=hC,wf:=hW,len:=hP.len,lt:=hlt,live:=hL,iff:=fun s t hs ht=>⟨fun e w=>Oo hC hW hS hA w s t hs ht e,fun e=>Q4 hT ii ii h256 hal (R6 hC hW) (fun s t hs ht e=>by rw[qO hC ii,qO hC ii];exact e []) hc s t ii ii e⟩}
 refine⟨p,c,live,hK,fun r hr=> ?_⟩
 unfold mB at hr
 rw[hw,VU,HP rfl,TP ii,hp,VU,hc,VU] at hr
 obtain⟨r1,h1,h2⟩:=aa hr
 have h3:r1=r:=W4 Prod.fst (Wm h2)
 subst h3
 have hcl:(NI c)[0]? =some ((c.getD 0 0:Nat):Int):=by
  unfold NI
  have:=hP.len
  rw[Wt,VV ii,Wg,VV ii]
  rfl
 have hlv0:live[c.getD 0 0]? =some (live.getD (c.getD 0 0) false):=by
  have h4:=hL.len
  have h5:=hlt 0 ii
  rw[Wg (l:=live),VV ii]
  rfl
 unfold Pd at h1
 rw[hlv,VU,zU hcl,cM hlv0] at h1
 by_cases g:live.getD (c.getD 0 0) false=true
 ·rw[HP g,zU hcl] at h1
  exact .inl ⟨g,h1⟩
 ·rw[TP g] at h1
  exact .inr ⟨g,(Wm h1).symm⟩
theorem iE (w:List UInt8):ac [] 0 w=false:=jZ (V2 _) w
theorem mA {r:List bj} (h:mB []=some (r,0)):r=[]:=by
 unfold mB at h
 obtain⟨ok,_,h⟩:=aa h
 cases ok with
 |false=>cases h
 |true=>
  have h:some (([]:List bj),(0:Int))=some (r,0):=h
  exact(W4 Prod.fst (Wm h)).symm
theorem KD {l l':List bj} {n n':Nat} (h:AB n l) (h':AB n' l') (hn:n<800000000) (hn':n'<800000000) (hw:FJ l=some true) (hw':FJ l'=some true) (hW:WF l) (hW':WF l') (e:∀w:List UInt8,ac l 0 w=ac l' 0 w) {r r':List bj} (hr:mB l=some (r,0)) (hr':mB l'=some (r',0)):r=r':=by
 by_cases h0:l=[]
 ·subst h0
  rw[mA hr]
  by_cases h1:l'=[]
  ·subst h1
   rw[mA hr']
  ·obtain⟨p',c',live',hK',hR'⟩:=kx h' hn' hw' hW' h1
   rcases hR' r' hr' with⟨g,_⟩|⟨_,g⟩
   ·obtain⟨w,hw⟩:=(hK'.lv (s:=0) (Wd _)).1 g
    rw[<-e,iE] at hw
    cases hw
   ·exact g.symm
 ·obtain⟨p,c,live,hK,hR⟩:=kx h hn hw hW h0
  by_cases h1:l'=[]
  ·subst h1
   rw[mA hr']
   rcases hR r hr with⟨g,_⟩|⟨_,g⟩
   ·obtain⟨w,hw⟩:=(hK.lv (s:=0) (Wd _)).1 g
    rw[e,iE] at hw
    cases hw
   ·exact g
  ·obtain⟨p',c',live',hK',hR'⟩:=kx h' hn' hw' hW' h1
   have hiff:live.getD (c.getD 0 0) false=true↔live'.getD (c'.getD 0 0) false=true:=by
    rw[hK.lv (Wd _),hK'.lv (Wd _)]
    exact⟨fun⟨w,hw⟩=>⟨w,by rw[<-e];exact hw⟩,fun⟨w,hw⟩=>⟨w,by rw[e];exact hw⟩⟩
   rcases hR r hr with⟨g,g1⟩|⟨g,g1⟩
   ·rcases hR' r' hr' with⟨g',g2⟩|⟨g',g2⟩
    ·have hl:=h.len
     have hl':=h'.len
     exact zM hK hK' ii ii (k:=0) (o:=[0]) (o':=[0]) (by simp) (by simp) (fun t ht=>by rw[V1.1 ht];omega) (fun t ht=>by rw[V1.1 ht];omega) ⟨fun w=>e w,trivial⟩ g1 g2
    ·exact absurd (hiff.1 g) g'
   ·rcases hR' r' hr' with⟨g',g2⟩|⟨g',g2⟩
    ·exact absurd (hiff.2 g') g
    ·rw[g1,g2]
structure L2 (e:List Sv.Edge) (n:Nat) (b:Int):Prop where
 one:∀y∈e,0<=y.lo/\y.lo<=y.hi/\y.hi<b/\0<=y.to/\y.to<n
 pw:e.Pairwise fun x y=>x.hi<y.lo
def PU (e:List Sv.Edge) (x t:Int):Prop:=∃y∈e,y.lo<=x/\x<=y.hi/\y.to=t
theorem L2.ext {e:List Sv.Edge} {n m:Nat} {b v:Int} (h:L2 e n b) (hb:0<=b) (hnm:n<=m) (h0:0<=v) (hv:v<m):L2 (lu e b b v) m (b+1)/\∀x t,PU (lu e b b v) x t↔PU e x t\/(x=b/\t=v):=by
 unfold lu
 rcases Yg e with rfl|⟨q,p,rfl⟩
 ·refine⟨⟨fun y hy=> ?_,WH _ _⟩,fun x t=>⟨fun⟨y,hy,h1,h2,h3⟩=> ?_,fun g=> ?_⟩⟩
  ·rw[V1.1 hy]
   exact⟨hb,Wv _,by show b<b+1;omega,h0,hv⟩
  ·rw[V1.1 hy] at h1 h2 h3
   exact .inr ⟨by have h1:b<=x:=h1;have h2:x<=b:=h2;omega,h3.symm⟩
  ·rcases g with⟨y,hy,_⟩|⟨rfl,rfl⟩
   ·cases hy
   ·exact⟨_,V1.2 rfl,Wv _,Wv _,rfl⟩
 ·have hp:=h.one p (by simp)
  have hq:=Wx.1 (Xl▸h.pw)
  have hq1:∀y∈q,y.hi<p.lo:=fun y hy=>hq.2.2 y hy p (by simp)
  have hq2:∀y∈q,0<=y.lo/\y.lo<=y.hi/\y.hi<b/\0<=y.to/\y.to<n:=fun y hy=>h.one y (by simp[hy])
  rw[Xl,List.getLast?_append,List.getLast?_singleton]
  simp only[Option.some_or,List.dropLast_concat]
  by_cases g:p.to=v/\p.hi+1=b
  ·rw[HP g]
   refine⟨⟨fun y hy=> ?_,Wx.2 ⟨hq.1,WH _ _,fun y hy z hz=> ?_⟩⟩,fun x t=>⟨fun⟨y,hy,h1,h2,h3⟩=> ?_,fun g=> ?_⟩⟩
   ·rcases V8.1 hy with hy|hy
    ·have:=hq2 y hy;omega
    ·rw[V1.1 hy]
     exact⟨hp.1,by show p.lo<=b;omega,by show b<b+1;omega,h0,hv⟩
   ·rw[V1.1 hz]
    exact hq1 y hy
   ·rcases V8.1 hy with hy|hy
    ·exact .inl ⟨y,Wu _ hy,h1,h2,h3⟩
    ·rw[V1.1 hy] at h1 h2 h3
     have h1:p.lo<=x:=h1
     have h2:x<=b:=h2
     have h3:v=t:=h3
     by_cases hx:x=b
     ·exact .inr ⟨hx,h3.symm⟩
     ·exact .inl ⟨p,by simp,h1,by omega,by omega⟩
   ·rcases g with⟨y,hy,h1,h2,h3⟩|⟨h1,h2⟩
    ·rcases V8.1 hy with hy|hy
     ·exact⟨y,Wu _ hy,h1,h2,h3⟩
     ·rw[V1.1 hy] at h1 h2 h3
      exact⟨⟨p.lo,b,v⟩,by simp,h1,by show x<=b;omega,by show v=t;omega⟩
    ·exact⟨⟨p.lo,b,v⟩,by simp,by show p.lo<=x;omega,by show x<=b;omega,h2.symm⟩
  ·rw[TP g]
   refine⟨⟨fun y hy=> ?_,Wx.2 ⟨Xl▸h.pw,WH _ _,fun y hy z hz=> ?_⟩⟩,fun x t=>⟨fun⟨y,hy,h1,h2,h3⟩=> ?_,fun g=> ?_⟩⟩
   ·rcases V8.1 hy with hy|hy
    ·have:=h.one y (by rw[Xl];exact hy);omega
    ·rw[V1.1 hy]
     exact⟨hb,Wv _,by show b<b+1;omega,h0,hv⟩
   ·rw[V1.1 hz]
    have:=h.one y (by rw[Xl];exact hy)
    show y.hi<b
    omega
   ·rcases V8.1 hy with hy|hy
    ·exact .inl ⟨y,hy,h1,h2,h3⟩
    ·rw[V1.1 hy] at h1 h2 h3
     exact .inr ⟨by have h1:b<=x:=h1;have h2:x<=b:=h2;omega,h3.symm⟩
   ·rcases g with⟨y,hy,h1⟩|⟨rfl,rfl⟩
    ·exact⟨y,Wu _ hy,h1⟩
    ·exact⟨_,WB _ (V1.2 rfl),Wv _,Wv _,rfl⟩
section
variable {κ:Type} [DecidableEq κ]
structure mX (key:Int->Option κ) (K:List κ) (e:List Sv.Edge) (b:Int):Prop where
 ed:L2 e K.length b
 kn:∀x,0<=x->x<b->∀a,key x=some a->a∈K
 br:∀x t,0<=x->x<b->(PU e x t↔∃a,key x=some a/\t=(K.idxOf a:Int))
theorem nR {K ext:List κ} {a:κ} (h:a∈K):(K++ext).idxOf a=K.idxOf a:=by
 rw[XU,HP h]
theorem L2.none {e:List Sv.Edge} {n:Nat} {b:Int} (h:L2 e n b) {t:Int}:¬PU e b t:=fun⟨y,hy,h1,h2,_⟩=>by
 have:=h.one y hy
 omega
theorem J7 {key:Int->Option κ} {K:List κ} {e:List Sv.Edge} {b:Int} (h:mX key K e b) (hb:0<=b):mX key (jg (K,e) b b (key b)).1 (jg (K,e) b b (key b)).2 (b+1)/\∃ext,(jg (K,e) b b (key b)).1=K++ext:=by
 cases hk:key b with
 |none=>
  refine⟨⟨⟨fun y hy=> ?_,h.ed.pw⟩,fun x h0 h1 a ha=> ?_,fun x t h0 h1=> ?_⟩,[],(Wy _).symm⟩
  ·have:=h.ed.one y hy
   exact⟨this.1,this.2.1,by omega,this.2.2.2⟩
  ·by_cases hx:x=b
   ·subst hx;rw[hk] at ha;cases ha
   ·exact h.kn x h0 ii a ha
  ·by_cases hx:x=b
   ·subst hx
    rw[hk]
    exact⟨fun g=>(h.ed.none g).elim,fun⟨a,g,_⟩=>by cases g⟩
   ·exact h.br x t h0 ii
 |some k=>
  unfold jg
  by_cases g:k∈K
  ·simp only[HP g]
   have hi:K.idxOf k<K.length:=XP.2 g
   obtain⟨e1,e2⟩:=h.ed.ext hb (V2 _) (v:=(K.idxOf k:Int)) ii ii
   refine⟨⟨e1,fun x h0 h1 a ha=> ?_,fun x t h0 h1=> ?_⟩,[],(Wy _).symm⟩
   ·by_cases hx:x=b
    ·subst hx;rw[hk] at ha;cases ha;exact g
    ·exact h.kn x h0 ii a ha
   ·rw[e2]
    by_cases hx:x=b
    ·subst hx
     rw[hk]
     exact⟨fun g=>g.elim (fun g=>(h.ed.none g).elim) fun g=>⟨k,rfl,g.2⟩,fun⟨a,g1,g2⟩=>by cases g1;exact .inr ⟨rfl,g2⟩⟩
    ·rw[h.br x t h0 ii]
     exact⟨fun g=>g.elim id fun g=>(hx g.1).elim,.inl⟩
  ·simp only[TP g]
   obtain⟨e1,e2⟩:=h.ed.ext hb (m:=(K++[k]).length) (by simp) (v:=(K.length:Int)) ii (by simp;omega)
   have hnew:(K++[k]).idxOf k=K.length:=by
    rw[XU,TP g]
    simp
   refine⟨⟨e1,fun x h0 h1 a ha=> ?_,fun x t h0 h1=> ?_⟩,[k],rfl⟩
   ·by_cases hx:x=b
    ·subst hx;rw[hk] at ha;cases ha;simp
    ·exact Wu _ (h.kn x h0 ii a ha)
   ·rw[e2]
    by_cases hx:x=b
    ·subst hx
     rw[hk]
     exact⟨fun g=>g.elim (fun g=>(h.ed.none g).elim) fun g=>⟨k,rfl,by rw[hnew];exact g.2⟩,fun⟨a,g1,g2⟩=>by cases g1;rw[hnew] at g2;exact .inr ⟨rfl,g2⟩⟩
    ·rw[h.br x t h0 ii]
     constructor
     ·rintro(⟨a,g1,g2⟩|g)
      ·exact⟨a,g1,by rw[nR (h.kn x h0 ii a g1)];exact g2⟩
      ·exact(hx g.1).elim
     ·rintro⟨a,g1,g2⟩
      rw[nR (h.kn x h0 ii a g1)] at g2
      exact .inl ⟨a,g1,g2⟩
theorem MK {key:Int->Option κ}:∀(n:Nat) (b:Int) {K:List κ} {e:List Sv.Edge},mX key K e b->0<=b->mX key (fK key n b (K,e)).1 (fK key n b (K,e)).2 (b+n)/\∃ext,(fK key n b (K,e)).1=K++ext
 |0,b,K,e,h,_=>by
  rw[show b+((0:Nat):Int)=b by omega]
  exact⟨h,[],(Wy _).symm⟩
 |n+1,b,K,e,h,hb=>by
  obtain⟨h1,x1,h2⟩:=J7 h hb
  obtain⟨h3,x2,h4⟩:=MK n (b+1) h1 ii
  rw[show b+((n+1:Nat):Int)=b+1+(n:Int) by omega]
  refine⟨h3,x1++x2,?_⟩
  show(fK key n (b+1) (jg (K,e) b b (key b))).1=_
  have e1:jg (K,e) b b (key b)=((jg (K,e) b b (key b)).1,(jg (K,e) b b (key b)).2):=rfl
  rw[e1,h4,h2,WG]
theorem mX.start (key:Int->Option κ) (K:List κ):mX key K [] 0:=⟨⟨fun y hy=>(by cases hy),List.Pairwise.nil⟩,fun x h0 h1=>by omega,fun x t h0 h1=>by omega⟩
end
theorem L2.ew {e:List Sv.Edge} {n:Nat} {b:Int} (h:L2 e n b):EW n e:=⟨fun y hy=>by have:=h.one y hy;omega,fun i x y hx hy=>by
 obtain⟨h1,h2⟩:=VZ.1 hx
 obtain⟨h3,h4⟩:=VZ.1 hy
 have:=WS.1 h.pw i (i+1) h1 h3 ii
 rwa [h2,h4] at this⟩
structure LM (l:List bj) (c:List Nat) (live:List Bool) (K:List Nat) (j:Nat) (x:bj):Prop where
 ex:∃s,s<=l.length/\K[j]? =some (c.getD s 0)/\x.acc=ac l s []/\mX (jR l c live s) K x.aI 256
theorem mX.pre {κ:Type} [DecidableEq κ] {key:Int->Option κ} {K ext:List κ} {e:List Sv.Edge} {b:Int} (h:mX key K e b):mX key (K++ext) e b:=⟨⟨fun y hy=>by have:=h.ed.one y hy;rw[V7];omega,h.ed.pw⟩,fun x h0 h1 a ha=>Wu _ (h.kn x h0 h1 a ha),fun x t h0 h1=>by
 rw[h.br x t h0 h1]
 exact⟨fun⟨a,g1,g2⟩=>⟨a,g1,by rw[nR (h.kn x h0 h1 a g1)];exact g2⟩,fun⟨a,g1,g2⟩=>⟨a,g1,by rw[nR (h.kn x h0 h1 a g1)] at g2;exact g2⟩⟩⟩
theorem LM.pre {l:List bj} {c:List Nat} {live:List Bool} {K ext:List Nat} {j:Nat} {x:bj} (h:LM l c live K j x):LM l c live (K++ext) j x:=by
 obtain⟨s,h1,h2,h3,h4⟩:=h.ex
 refine⟨s,h1,?_,h3,h4.pre⟩
 rw[Wi (VZ.1 h2).1,h2]
theorem ES {l:List bj} {p:List Int×List (List Int)×List Bool} {c:List Nat} {live:List Bool} (h:Fk l p c live) (hn:l.length<800000000):
  ∀{f k:Nat} {o:List Int} {out r:List bj},(o.map (bg c)).Nodup->(∀t∈o,0<=t/\t<(l.length+1:Nat))->out.length=k->k<=o.length->(∀j x,out[j]? =some x->LM l c live (o.map (bg c)) j x)->
   pC p.1 p.2.1 p.2.2 (NI c) live f k o (mF c o) out=some r->∃K ext,K=o.map (bg c)++ext/\K.Nodup/\r.length=K.length/\∀j x,r[j]? =some x->LM l c live K j x
 |0,_,_,_,_,_,_,_,_,_,hr=>by cases hr
 |f+1,k,o,out,r,g1,g2,g3,g4,g5,hr=>by
  rcases kN h hn g1 g2 hr with⟨a1,a2⟩|⟨s,o1,e1,a1,a2,a3,a4,a5⟩
  ·subst a2
   exact⟨_,[],(Wy _).symm,g1,by rw[V4];omega,g5⟩
  ·have hs:=g2 s (V6 a1)
   obtain⟨b1,ext,b2⟩:=MK 256 0 (mX.start (jR l c live s.toNat) (o.map (bg c))) (Wv _)
   rw[<-a4] at b1 b2
   have b2:o1.map (bg c)=o.map (bg c)++ext:=b2
   have hlen:o.length<=o1.length:=by
    have:=W4 List.length b2
    rw[V4,V7,V4] at this
    omega
   have hk:k<o.length:=(VZ.1 a1).1
   obtain⟨K,x2,c1,c2,c3,c4⟩:=ES h hn (k:=k+1) a2 a3 (by rw[V7,g3];rfl) ii (fun j x hx=>by
    rcases WI j out.length with hj|hj
    ·rw[Wi hj] at hx
     rw[b2]
     exact(g5 j x hx).pre
    ·rw[Wh hj] at hx
     obtain⟨h1,h2⟩:=VZ.1 hx
     have hj':j=k:=by
      simp at h1
      omega
     subst hj'
     simp[g3] at h2
     subst h2
     refine⟨s.toNat,by omega,?_,rfl,b1⟩
     rw[b2,Wi (by rw[V4];exact hk),Wt,a1]
     rfl) a5
   exact⟨K,ext++x2,by rw[c1,b2,WG],c2,c3,c4⟩
theorem Be {n:Nat} {es:List Sv.Edge} (h:EW n es) {x t d:Int} (hb:PU es x t):gA x es d=t:=by
 obtain⟨y,hy,h1,h2,h3⟩:=hb
 rw[tL h y hy ⟨h1,h2⟩,h3]
theorem D2 {es:List Sv.Edge} {x d:Int} (hb:∀t,¬PU es x t):gA x es d=d:=vO fun e he hc=>hb e.to ⟨e,he,hc.1,hc.2,rfl⟩
theorem wS (b:UInt8):(0:Int)<=b.toNat/\(b.toNat:Int)<256:=⟨by omega,by have:=We b;omega⟩
theorem O9 {l:List bj} {p:List Int×List (List Int)×List Bool} {c:List Nat} {live:List Bool} (h:Fk l p c live) {r:List bj} {K:List Nat} (hK:K.Nodup) (hl:r.length=K.length) (hr:∀j x,r[j]? =some x->LM l c live K j x):
  ∀(w:List UInt8) (j s:Nat),s<=l.length->K[j]? =some (c.getD s 0)->ac r j w=ac l s w
 |w,j,s,hs,hj=>by
  have hjl:j<r.length:=by
   have:=(VZ.1 hj).1
   omega
  obtain⟨x,hx⟩:∃x,r[j]? =some x:=⟨_,VV hjl⟩
  obtain⟨s',h1,h2,h3,h4⟩:=(hr j x hx).ex
  rw[h2] at hj
  have he:=(h.iff s' s h1 hs).1 (Wm hj)
  cases w with
  |nil=>
   rw[<-he []]
   unfold ac at h3⊢
   rw[hx]
   exact h3
  |cons b w=>
   rw[<-he (b::w)]
   show ac r (dl r j b.toNat) w=ac l (dl l s' b.toNat) w
   have hb:=wS b
   have hd:dl r j b.toNat=(gA b.toNat x.aI r.length).toNat:=by
    unfold dl
    rw[hx]
   rw[hd]
   have hlv:=h.lv (s:=dl l s' b.toNat) (kH h.wf)
   by_cases g:live.getD (c.getD (dl l s' b.toNat) 0) false=true
   ·have hk:jR l c live s' b.toNat=some (c.getD (dl l s' b.toNat) 0):=by
     unfold jR
     rw[HP g]
    have hm:=h4.kn _ hb.1 hb.2 _ hk
    have hbr:=(h4.br b.toNat (K.idxOf (c.getD (dl l s' b.toNat) 0):Int) hb.1 hb.2).2 ⟨_,hk,rfl⟩
    rw[Be h4.ed.ew hbr,WR]
    refine O9 h hK hl hr w _ _ (kH h.wf) ?_
    rw[VV (XP.2 hm),List.getElem_idxOf]
   ·have hk:jR l c live s' b.toNat=none:=by
     unfold jR
     rw[TP g]
    rw[D2 fun t ht=> ?_,WR,jZ (V2 _)]
    ·cases hc:ac l (dl l s' b.toNat) w with
     |false=>rfl
     |true=>exact(g (hlv.2 ⟨w,hc⟩)).elim
    ·obtain⟨a,g1,_⟩:=(h4.br b.toNat t hb.1 hb.2).1 ht
     rw[hk] at g1
     cases g1
theorem KE {l:List bj} {n:Nat} (h:AB n l) (hn:n<800000000) (hw:FJ l=some true) (hW:WF l) {r:List bj} (hr:mB l=some (r,0)):(∀w:List UInt8,ac r 0 w=ac l 0 w)/\WF r:=by
 by_cases h0:l=[]
 ·subst h0
  rw[mA hr]
  exact⟨fun w=>rfl,fun s hs=>by cases hs⟩
 ·obtain⟨p,c,live,hK,hR⟩:=kx h hn hw hW h0
  have hln:=h.len
  rcases hR r hr with⟨g,g1⟩|⟨g,rfl⟩
  ·obtain⟨K,ext,c1,c2,c3,c4⟩:=ES hK ii (k:=0) (o:=[0]) (out:=[]) (by simp) (fun t ht=>by rw[V1.1 ht];omega) rfl (by simp) (fun j x hx=>by simp at hx) g1
   refine⟨fun w=>O9 hK c2 c3 c4 w 0 0 (Wd _) ?_,fun s hs=> ?_⟩
   ·rw[c1]
    rfl
   ·obtain⟨j,hj⟩:=Wj.1 hs
    obtain⟨s',h1,h2,h3,h4⟩:=(c4 j s hj).ex
    rw[c3]
    exact h4.ed.ew
  ·refine⟨fun w=> ?_,fun s hs=>by cases hs⟩
   rw[iE]
   cases hc:ac l 0 w with
   |false=>rfl
   |true=>exact(g ((hK.lv (Wd _)).2 ⟨w,hc⟩)).elim
theorem B2 {n:Nat} {all:List Sv.Edge} (h:EW n all):∀{r pre:List Sv.Edge},all=pre++r->Mb n all r pre.length=some (.Fv ())
 |[],_,_=>rfl
 |e::r,pre,ha=>by
  have h1:=h.one e (by rw[ha];simp)
  have ih:=B2 h (r:=r) (pre:=pre++[e]) (by rw[ha];simp)
  rw[V7] at ih
  have e1:((pre.length:Int)+1)=((pre.length+[e].length:Nat):Int):=by simp
  unfold Mb
  rw[TP ii,TP ii,TP ii,e1]
  by_cases hp:0<pre.length
  ·rw[HP ii]
   obtain⟨x,hx⟩:∃x,all[pre.length-1]? =some x:=⟨_,VV (by rw[ha];simp;omega)⟩
   have h2:=h.adj (pre.length-1) x e hx (by rw[show pre.length-1+1=pre.length by omega,ha];simp)
   rw[show(pre.length:Int)-1=((pre.length-1:Nat):Int) by omega,cM hx,TP ii]
   exact ih
  ·rw[TP ii]
   exact ih
theorem B1 {n:Nat}:∀{l:List bj},(∀s∈l,s.aI.length<=256)->(∀s∈l,EW n s.aI)->Qc n l=some true
 |[],_,_=>rfl
 |s::r,h1,h2=>by
  have:=h1 s (V0 ..)
  have e:Mb n s.aI s.aI 0=some (.Fv ()):=B2 (h2 s (V0 ..)) (pre:=[]) rfl
  unfold Qc
  rw[bL ii,e]
  exact B1 (fun x hx=>h1 x (VX _ hx)) fun x hx=>h2 x (VX _ hx)
theorem pM {n:Nat} {l:List bj} (h:AB n l) (hn:n<=1000000000) (hw:WF l):FJ l=some true:=by
 have:=h.len
 unfold FJ
 rw[bL ii]
 exact B1 h.row hw
theorem Bk {α:Type} {a r:List α} {i:Nat} {x:α} (h:a.drop i=x::r):a[i]? =some x/\a.drop (i+1)=r:=by
 constructor
 ·have:=W4 (·[0]?) h
  simpa using this
 ·have:=W4 List.tail h
  rwa [List.tail_drop] at this
theorem zq {α:Type} {g:α->α->Option Bool} {a:List α} (hg:∀x∈a,g x x=some true):∀{r:List α} {i:Nat},a.drop i=r->iQ g a r i=some true
 |[],_,_=>rfl
 |x::r,i,h=>by
  obtain⟨h1,h2⟩:=Bk h
  have e1:((i:Int)+1)=((i+1:Nat):Int):=by omega
  unfold iQ
  rw[cM h1,hg x (V6 h1),VU,HP rfl,e1]
  exact zq hg h2
theorem KZ {α:Type} {g:α->α->Option Bool} {a:List α} (hg:∀x∈a,g x x=some true) (hl:a.length<=1000000000):ju g a a=some true:=by
 unfold ju
 rw[HP rfl,bL hl]
 exact zq hg (i:=0) rfl
theorem qC {a:List Sv.Edge}:∀{r:List Sv.Edge} {i:Nat},a.drop i=r->iR a r i=some true
 |[],_,_=>rfl
 |x::r,i,h=>by
  obtain⟨h1,h2⟩:=Bk h
  have e1:((i:Int)+1)=((i+1:Nat):Int):=by omega
  unfold iR
  rw[cM h1,HP (by simp[Bj]),e1]
  exact qC h2
theorem uQ {n:Nat} {l:List bj} (h:AB n l) (hn:n<=1000000000):pV l l=some true:=by
 unfold pV
 refine KZ (fun x hx=> ?_) (by have:=h.len;omega)
 have:=h.row x hx
 unfold sd oa
 rw[HP (by simp),HP rfl,bL ii]
 exact qC (i:=0) rfl
theorem AW {l:List bj} {n:Nat} (h:AB n l) (hn:n<800000000) (hw:FJ l=some true):∃r,mB l=some (r,0)/\Canon (l.length+1) r:=by
 obtain⟨⟨r,q⟩,hp,hc,_⟩:=AV h ii
 have hq:q=0:=by
  unfold mB at hp
  rw[hw,VU,HP rfl] at hp
  split at hp
  ·exact(W4 Prod.snd (Wm hp)).symm
  ·obtain⟨_,_,hp⟩:=aa hp
   obtain⟨_,_,hp⟩:=aa hp
   obtain⟨_,_,hp⟩:=aa hp
   exact(W4 Prod.snd (Wm hp)).symm
 subst hq
 exact⟨r,hp,hc⟩
structure VL (n:Nat) (l:List bj):Prop where
 gd:Gd n l
 ok:iA l=some true
theorem VL.of {n:Nat} {l:List bj} (h:AB n l) (hn:n<900000000) (e:iA l=some true):VL n l:=by
 obtain⟨b,h1,h2⟩:=iU h hn
 rw[e] at h1
 cases h1
 exact⟨h2 rfl,e⟩
theorem VL.mono {n m:Nat} {l:List bj} (h:VL n l) (hn:n<=m):VL m l:=⟨h.gd.mono hn,h.ok⟩
theorem VL.self {n:Nat} {l:List bj} (h:VL n l):VL l.length l:=⟨⟨⟨V2 _,h.gd.row,h.gd.eb⟩,h.gd.wf,h.gd.live⟩,h.ok⟩
theorem VL.wfm {n:Nat} {l:List bj} (h:VL n l) (hn:n<=1000000000):FJ l=some true:=pM h.gd.toAB hn h.gd.wf
theorem VL.fix {n:Nat} {l:List bj} (h:VL n l) (hn:n<800000000):mB l=some (l,0):=by
 obtain⟨r,h1,h2⟩:=AW h.gd.toAB hn (h.wfm ii)
 have h3:=h.ok
 unfold iA at h3
 rw[h1,VU,HP rfl] at h3
 obtain⟨b,h4,h5⟩:=nu (b:=r) h.gd.toAB ii
 rw[h3] at h4
 cases h4
 rw[h1,<-h5 rfl]
theorem VL.min {n:Nat} {l:List bj} (h:AB n l) (hn:n<700000000) (hW:WF l):∃r,mB l=some (r,0)/\VL (l.length+1) r/\∀w:List UInt8,ac r 0 w=ac l 0 w:=by
 have hl:=h.len
 have hw:=pM h ii hW
 obtain⟨r,h1,h2⟩:=AW h ii hw
 obtain⟨h3,h4⟩:=KE h ii hw hW h1
 refine⟨r,h1,VL.of h2.toAB ii ?_,h3⟩
 have hw2:=pM h2.toAB ii h4
 obtain⟨r2,h5,h6⟩:=AW h2.toAB ii hw2
 have h7:r2=r:=KD h2.toAB h ii ii hw2 hw h4 hW h3 h5 h1
 subst h7
 unfold iA
 rw[h5,VU,HP rfl]
 exact uQ h2.toAB ii
theorem VL.ne {n:Nat} {l:List bj} (h:VL n l) (hn:n<800000000) (h0:l≠[]):∃w:List UInt8,ac l 0 w=true:=by
 obtain⟨p,c,live,hK,hR⟩:=kx h.gd.toAB hn (h.wfm ii) h.gd.wf h0
 rcases hR l (h.fix hn) with⟨g,_⟩|⟨_,g⟩
 ·exact(hK.lv (Wd _)).1 g
 ·exact(h0 g).elim
theorem VL.nil (n:Nat):VL n []:=by
 refine(VL.of (AB.nil 0) ii ?_).mono (Wd _)
 obtain⟨r,h1,h2⟩:=AW (AB.nil 0) ii (pM (AB.nil 0) ii fun s hs=>by cases hs)
 rw[iA,h1,VU,HP rfl,mA h1]
 exact uQ (AB.nil 0) ii
theorem VL.qv {n:Nat} {l:List bj} (h:VL n l):fq l=some l:=by
 unfold fq
 rw[h.ok]
 rfl
instance :DecidableEq dw:=fun x y=>decidable_of_iff (x.a=y.a/\x.b=y.b) (by cases x;cases y;simp)
theorem sB {p:dw}:∀{r:List dw} {i:Int},gb p r i=some (if p∈r then i+r.idxOf p else -1)
 |[],i=>rfl
 |x::r,i=>by
  unfold gb
  by_cases h:p=x
  ·subst h
   rw[HP (my.2 rfl),HP (V0 ..),List.idxOf_cons_self]
   simp
  ·rw[TP fun e=>h (my.1 e),sB]
   have hb:(x==p)=false:=by simpa using fun e:x=p=>h e.symm
   by_cases g:p∈r
   ·rw[HP g,HP (VX _ g),X0,hb]
    simp
    omega
   ·rw[TP g,TP fun e=>(V9.1 e).elim h g]
def xc (l:List bj) (s:Int) (w:List UInt8):Bool:=if s<0 then false else ac l s.toNat w
theorem Ct {n:Nat} {b:Int}:∀{es:List Sv.Edge},EW n es->iH b es=some (if gA b es n<n then gA b es n else -1)
 |[],_=>by
  rw[show gA b [] n=n from rfl,TP ii]
  rfl
 |e::r,h=>by
  have ih:=Ct (b:=b) h.tail
  have h3:=h.one e (V0 ..)
  unfold iH
  by_cases g:e.lo<=b/\b<=e.hi
  ·rw[HP g.1,HP g.2,tL h e (V0 ..) g,HP h3.2.2]
  ·have e1:gA b (e::r) n=gA b r n:=by
    unfold gA
    rw[WX,TP g]
   by_cases g1:e.lo<=b
   ·rw[HP g1,TP fun g2=>g ⟨g1,g2⟩,ih,e1]
   ·rw[TP g1,ih,e1]
theorem Cs {n:Nat} {l:List bj} (h:Gd n l) {s t:Int} {b:UInt8} (e:jf l s b.toNat=some t) (w:List UInt8):xc l s (b::w)=xc l t w:=by
 unfold jf at e
 by_cases h1:s<0
 ·rw[HP h1] at e
  cases e
  unfold xc
  rw[HP h1,HP ii]
 ·rw[TP h1] at e
  by_cases h2:s>=l.length
  ·rw[HP h2] at e
   cases e
   unfold xc
   rw[TP h1,HP ii,jZ ii]
  ·rw[TP h2] at e
   obtain⟨j,x,rfl,hx,e⟩:=az e
   obtain⟨_,e⟩:=ah e
   have hw:=h.wf x (V6 hx)
   rw[Ct hw] at e
   have hr:=nW (c:=b.toNat) (n:=l.length) (es:=x.aI) (t:=l.length) (fun e he=>(hw.one e he).2) ii (Wv _)
   have hd:dl l j b.toNat=(gA b.toNat x.aI l.length).toNat:=by
    unfold dl
    rw[hx]
   have e1:xc l j (b::w)=ac l (dl l j b.toNat) w:=by
    unfold xc
    rw[TP h1,WR]
    rfl
   rw[e1,hd]
   by_cases g:gA b.toNat x.aI l.length<l.length
   ·rw[HP g] at e
    cases e
    unfold xc
    rw[TP ii]
   ·rw[TP g] at e
    cases e
    unfold xc
    rw[HP ii,jZ ii]
theorem xa {l:List bj} {s:Int}:iu l s=some (xc l s []):=by
 unfold iu xc
 by_cases h1:s<0
 ·rw[TP ii,HP h1]
 ·rw[HP ii,TP h1]
  by_cases h2:s<l.length
  ·obtain⟨x,hx⟩:∃x,l[s.toNat]? =some x:=⟨_,VV ii⟩
   have e:s=(s.toNat:Int):=by omega
   rw[HP h2,e,cM hx,WR]
   unfold ac
   rw[hx]
  ·rw[TP h2,jZ ii]
theorem r7 {c b:Int}:∀{es:List Sv.Edge},(∀e∈es,(e.lo<=c/\c<=e.hi)↔(e.lo<=b/\b<=e.hi))->iH c es=iH b es
 |[],_=>rfl
 |e::r,h=>by
  have h1:=h e (V0 ..)
  have ih:=r7 (es:=r) fun x hx=>h x (VX _ hx)
  unfold iH
  rw[ih]
  by_cases g:e.lo<=c/\c<=e.hi
  ·rw[HP g.1,HP g.2,HP (h1.1 g).1,HP (h1.1 g).2]
  ·have g':¬(e.lo<=b/\b<=e.hi):=fun x=>g (h1.2 x)
   have p:∀z:Int,¬(e.lo<=z/\z<=e.hi)->(if e.lo<=z then if z<=e.hi then some e.to else iH b r else iH b r)=iH b r:=fun z hz=>by
    by_cases z1:e.lo<=z
    ·rw[HP z1,TP fun z2=>hz ⟨z1,z2⟩]
    ·rw[TP z1]
   rw[p c g,p b g']
theorem FT {l:List bj} {s c b:Int} (h:∀(j:Nat) (x:bj),s=(j:Int)->l[j]? =some x->∀e∈x.aI,(e.lo<=c/\c<=e.hi)↔(e.lo<=b/\b<=e.hi)):jf l s c=jf l s b:=by
 unfold jf
 by_cases h1:s<0
 ·rw[HP h1,HP h1]
 ·by_cases h2:s>=l.length
  ·rw[TP h1,TP h1,HP h2,HP h2]
  ·rw[TP h1,TP h1,TP h2,TP h2]
   obtain⟨x,hx⟩:∃x,l[s.toNat]? =some x:=⟨_,VV ii⟩
   have e:s=(s.toNat:Int):=by omega
   rw[e,cM hx,cM hx,r7 (h s.toNat x e hx)]
theorem rK:∀{es:List Sv.Edge} {a r:List Bool},a.length=256->gn es a=some r->r.length=256/\(∀i:Nat,a[i]? =some true->r[i]? =some true)/\∀e∈es,∀i:Nat,((i:Int)=e.lo\/(i:Int)=e.hi+1/\e.hi<255)->r[i]? =some true
 |[],a,r,ha,h=>by
  cases h
  exact⟨ha,fun i hi=>hi,fun e he=>by cases he⟩
 |e::es,a,r,ha,h=>by
  unfold gn at h
  obtain⟨j,x,hj,hj2,hx,h⟩:=dp h
  by_cases g:e.hi<255
  ·rw[HP g] at h
   obtain⟨_,h⟩:=ah h
   obtain⟨j2,x2,hj3,hj4,hx2,h⟩:=dp h
   obtain⟨h1,h2,h3⟩:=rK (by simp[ha]) h
   have hs:∀i:Nat,(a[i]? =some true\/i=j\/i=j2)->r[i]? =some true:=fun i hi=>h2 i ((dG (by simp;omega) i).2 (by
    rcases hi with hi|hi|hi
    ·exact .inl ((dG ii i).2 (.inl hi))
    ·exact .inl ((dG ii i).2 (.inr hi))
    ·exact .inr hi))
   refine⟨h1,fun i hi=>hs i (.inl hi),fun e' he i hi=> ?_⟩
   rcases V9.1 he with rfl|he
   ·exact hs i (.inr ii)
   ·exact h3 e' he i hi
  ·rw[TP g] at h
   obtain⟨h1,h2,h3⟩:=rK (by simp[ha]) h
   have hs:∀i:Nat,(a[i]? =some true\/i=j)->r[i]? =some true:=fun i hi=>h2 i ((dG ii i).2 hi)
   refine⟨h1,fun i hi=>hs i (.inl hi),fun e' he i hi=> ?_⟩
   rcases V9.1 he with rfl|he
   ·exact hs i (.inr ii)
   ·exact h3 e' he i hi
def Ctd (l:List bj) (s:Int) (a:List Bool):Prop:=∀(j:Nat) (x:bj),s=(j:Int)->l[j]? =some x->∀e∈x.aI,∀i:Nat,((i:Int)=e.lo\/(i:Int)=e.hi+1/\e.hi<255)->a[i]? =some true
theorem zA {l:List bj} {s:Int} {a r:List Bool} (ha:a.length=256) (h:we l s a=some r):r.length=256/\(∀i:Nat,a[i]? =some true->r[i]? =some true)/\Ctd l s r:=by
 unfold we at h
 by_cases h1:s<0
 ·rw[HP h1] at h
  cases h
  exact⟨ha,fun i hi=>hi,fun j x hj=>by omega⟩
 ·rw[TP h1] at h
  by_cases h2:s>=l.length
  ·rw[HP h2] at h
   cases h
   exact⟨ha,fun i hi=>hi,fun j x hj hx=>by have:=(VZ.1 hx).1;omega⟩
  ·rw[TP h2] at h
   obtain⟨j,x,hj,hx,h⟩:=az h
   obtain⟨_,h⟩:=ah h
   obtain⟨g1,g2,g3⟩:=rK ha h
   refine⟨g1,g2,fun j' x' hj' hx'=> ?_⟩
   have:j'=j:=by omega
   subst this
   rw[hx] at hx'
   cases hx'
   exact g3
theorem Ctd.step {l:List bj} {s:Int} {a:List Bool} (h:Ctd l s a) {c:Nat} (h0:0<c) (h1:c<256) (hc:a[c]? =some false):jf l s c=jf l s ((c:Int)-1):=by
 refine FT fun j x hj hx e he=> ?_
 have g1:(c:Int)≠e.lo:=fun g=>by
  rw[h j x hj hx e he c (.inl g)] at hc
  cases hc
 have g2:(c:Int)≠e.hi+1:=fun g=>by
  rw[h j x hj hx e he c (.inr ⟨g,by omega⟩)] at hc
  cases hc
 omega
theorem L2.app {e:List Sv.Edge} {n m:Nat} {b v:Int} (h:L2 e n b) (hb:0<=b) (hnm:n<=m) (h0:0<=v) (hv:v<m):L2 (e++[⟨b,b,v⟩]) m (b+1)/\∀x t,PU (e++[⟨b,b,v⟩]) x t↔PU e x t\/(x=b/\t=v):=by
 refine⟨⟨fun y hy=> ?_,Wx.2 ⟨h.pw,WH _ _,fun y hy z hz=> ?_⟩⟩,fun x t=>⟨fun⟨y,hy,h1,h2,h3⟩=> ?_,fun g=> ?_⟩⟩
 ·rcases V8.1 hy with hy|hy
  ·have:=h.one y hy;omega
  ·rw[V1.1 hy]
   exact⟨hb,Wv _,by show b<b+1;omega,h0,hv⟩
 ·rw[V1.1 hz]
  exact(h.one y hy).2.2.1
 ·rcases V8.1 hy with hy|hy
  ·exact .inl ⟨y,hy,h1,h2,h3⟩
  ·rw[V1.1 hy] at h1 h2 h3
   exact .inr ⟨by have h1:b<=x:=h1;have h2:x<=b:=h2;omega,h3.symm⟩
 ·rcases g with⟨y,hy,h1⟩|⟨rfl,rfl⟩
  ·exact⟨y,Wu _ hy,h1⟩
  ·exact⟨_,WB _ (V1.2 rfl),Wv _,Wv _,rfl⟩
theorem uK {κ:Type} [DecidableEq κ] {key:Int->Option κ} {K:List κ} {e:List Sv.Edge} {b:Int} (h:mX key K e b) {a:κ} (hk:key b=some a) {e':List Sv.Edge} {K' ext:List κ} (hK:K'=K++ext) (ha:a∈K') (he:L2 e' K'.length (b+1)) (hbr:∀x t,PU e' x t↔PU e x t\/(x=b/\t=(K'.idxOf a:Int))):mX key K' e' (b+1):=by
 subst hK
 refine⟨he,fun x h0 h1 y hy=> ?_,fun x t h0 h1=> ?_⟩
 ·by_cases hx:x=b
  ·subst hx;rw[hk] at hy;cases hy;exact ha
  ·exact Wu _ (h.kn x h0 ii y hy)
 ·rw[hbr]
  by_cases hx:x=b
  ·subst hx
   rw[hk]
   exact⟨fun g=>g.elim (fun g=>(h.ed.none g).elim) fun g=>⟨a,rfl,g.2⟩,fun⟨y,g1,g2⟩=>by cases g1;exact .inr ⟨rfl,g2⟩⟩
  ·rw[(h.pre (ext:=ext)).br x t h0 ii]
   exact⟨fun g=>g.elim id fun g=>(hx g.1).elim,.inl⟩
def xX (a b:List bj) (p:dw) (x:Int):Option dw:=(jf a p.a x).bind fun u=>(jf b p.b x).bind fun v=>some ⟨u,v⟩
theorem AQ {e:List Sv.Edge} {y:Sv.Edge} {f:Sv.Edge->Sv.Edge} {α:Type} {k:List Sv.Edge->Option α} {r:α} (h:(ot (e++[y]) ((e++[y]).length-1:Int) f).bind k=some r):k (e++[f y])=some r:=by
 obtain⟨j,x,hj,hx,h⟩:=bY h
 have:j=e.length:=by rw[V7,Ws] at hj;omega
 subst this
 rw[Wh (V2 _),Xh] at hx
 cases hx
 rw[Yf _ _ (V2 _),Xh] at h
 exact h
theorem Kg {a b:List bj} {p:dw} {at':List Bool} (h0:at'[0]? =some true) (ha:Ctd a p.a at') (hb:Ctd b p.b at'):
  ∀{m c:Nat} {l:List dw} {e:List Sv.Edge} {q:List dw×List Sv.Edge},c<=256->256<=m+c->m+c<=256->mX (xX a b p) l e c->(0<c->∃e0 y,e=e0++[y]/\y.hi=(c:Int)-1)->dk a b p at' m c l e=some q->mX (xX a b p) q.1 q.2 256/\∃ext,q.1=l++ext:=by
 intro m
 induction m with
 |zero=>
  intro c l e q hm1 hm2 hm h _ hr
  cases hr
  have e1:(c:Int)=256:=by omega
  rw[e1] at h
  exact⟨h,[],(Wy _).symm⟩
 |succ m ih=>
  intro c l e q hm1 hm2 hm h hl hr
  have e1:((c:Int)+1)=((c+1:Nat):Int):=by omega
  unfold dk at hr
  obtain⟨j,x,hj,hj2,hx,hr⟩:=gX hr
  have:j=c:=by omega
  subst this
  cases x with
  |true=>
   rw[HP rfl] at hr
   obtain⟨x1,hx1,hr⟩:=aa hr
   obtain⟨y1,hy1,hr⟩:=aa hr
   obtain⟨k,hk,hr⟩:=aa hr
   have hkey:xX a b p j=some ⟨x1,y1⟩:=by
    unfold xX
    rw[hx1,VU,hy1,VU]
   unfold nQ at hk
   obtain⟨_,hk⟩:=ah hk
   rw[sB] at hk
   by_cases g:(⟨x1,y1⟩:dw)∈l
   ·rw[HP g] at hk
    have hk:0+(l.idxOf (⟨x1,y1⟩:dw):Int)=k:=Wm hk
    have hi:l.idxOf (⟨x1,y1⟩:dw)<l.length:=XP.2 g
    rw[TP ii] at hr
    obtain⟨_,hr⟩:=aC hr
    obtain⟨_,hr⟩:=ah hr
    have hr:=AQ hr
    rw[e1] at hr
    obtain⟨g1,g2⟩:=h.ed.app (v:=k) ii (V2 _) ii ii
    rw[e1] at g1
    have:=uK h hkey (K':=l) (ext:=[]) (Wy _).symm g (e1▸g1) (fun x t=>by rw[g2,show k=(l.idxOf (⟨x1,y1⟩:dw):Int) by omega])
    rw[e1] at this
    exact ih (c:=j+1) ii ii ii this (fun _=>⟨e,_,rfl,by show(j:Int)=_;omega⟩) hr
   ·rw[TP g] at hk
    have hk: -1=k:=Wm hk
    rw[HP ii] at hr
    obtain⟨_,hr⟩:=aC hr
    obtain⟨_,hr⟩:=aC hr
    obtain⟨_,hr⟩:=ah hr
    have hr:=AQ hr
    rw[e1] at hr
    obtain⟨g1,g2⟩:=h.ed.app (v:=(l.length:Int)) (m:=(l++[(⟨x1,y1⟩:dw)]).length) ii (by simp) ii (by simp;omega)
    have hnew:(l++[(⟨x1,y1⟩:dw)]).idxOf ⟨x1,y1⟩=l.length:=by
     rw[XU,TP g]
     simp
    have:=uK h hkey (K':=l++[⟨x1,y1⟩]) (ext:=[⟨x1,y1⟩]) rfl (by simp) g1 (fun x t=>by rw[g2,hnew])
    rw[e1] at this
    obtain⟨r1,ext,r2⟩:=ih (c:=j+1) ii ii ii this (fun _=>⟨e,_,rfl,by show(j:Int)=_;omega⟩) hr
    exact⟨r1,⟨x1,y1⟩::ext,by rw[r2];simp⟩
  |false=>
   rw[TP (by decide)] at hr
   have hc0:0<j:=by
    rcases W8 j with rfl|g
    ·rw[h0] at hx;cases hx
    ·exact g
   obtain⟨e0,y,rfl,hy⟩:=hl hc0
   obtain⟨_,hr⟩:=ah hr
   have hr:=AQ hr
   rw[e1] at hr
   have hkey:xX a b p j=xX a b p ((j:Int)-1):=by
    unfold xX
    rw[ha.step hc0 hj2 hx,hb.step hc0 hj2 hx]
   have hym:y∈e0++[y]:=by simp
   have hyo:=h.ed.one y hym
   obtain⟨u,hu,hut⟩:=(h.br ((j:Int)-1) y.to ii ii).1 ⟨y,hym,by omega,by omega,rfl⟩
   have hmem:=h.kn _ ii ii u hu
   obtain⟨g1,g2⟩:=h.ed.ext (v:=y.to) ii (V2 _) ii ii
   have hx':lu (e0++[y]) j j y.to=e0++[⟨y.lo,j,y.to⟩]:=by
    unfold lu
    rw[List.getLast?_append,List.getLast?_singleton]
    simp only[Option.some_or,List.dropLast_concat]
    rw[HP ⟨trivial,by omega⟩]
   rw[hx'] at g1 g2
   have:=uK h (hkey.trans hu) (K':=l) (ext:=[]) (Wy _).symm hmem g1 (fun x t=>by rw[g2,hut])
   rw[e1] at this
   exact ih (c:=j+1) ii ii ii this (fun _=>⟨e0,_,rfl,by show(j:Int)=_;omega⟩) hr
def PrI (a b:List bj) (op:Bool->Bool->Bool) (L:List dw) (j:Nat) (x:bj):Prop:=∃p,L[j]? =some p/\x.acc=op (xc a p.a []) (xc b p.b [])/\mX (xX a b p) L x.aI 256
theorem yK {a b:List bj} {is:Bool->Bool->Option Bool} {op:Bool->Bool->Bool} (hop:∀x y,is x y=some (op x y)):∀{f:Nat} {l:List dw} {out r:List bj},out.length<=l.length->(∀j x,out[j]? =some x->PrI a b op l j x)->oH a b is f out.length l out=some r->∃ext,r.length=(l++ext).length/\∀j x,r[j]? =some x->PrI a b op (l++ext) j x
 |0,_,_,_,_,_,hr=>by cases hr
 |f+1,l,out,r,h1,h2,hr=>by
  unfold oH at hr
  obtain⟨_,hr⟩:=ah hr
  by_cases hk:out.length<l.length
  ·rw[HP ii] at hr
   obtain⟨j,p,hj,hp,hr⟩:=az hr
   have:j=out.length:=by omega
   subst this
   rw[xa,xa,VU,VU,hop,VU] at hr
   obtain⟨a1,g1,hr⟩:=aa hr
   obtain⟨a2,g2,hr⟩:=aa hr
   obtain⟨q,g3,hr⟩:=aa hr
   obtain⟨_,hr⟩:=aC hr
   obtain⟨c1,c2,c3⟩:=zA (a:=kR) (by unfold kR;rw[V5,Wc]) g1
   obtain⟨d1,d2,d3⟩:=zA c1 g2
   obtain⟨s1,ext,s2⟩:=Kg (m:=256) (c:=0) (d2 0 (c2 0 rfl)) (fun j x hj hx e he i hi=>d2 i (c3 j x hj hx e he i hi)) d3 ii ii ii (mX.start _ l) (fun h=>by omega) g3
   have e1:((out.length:Int)+1)=(((out++[(⟨op (xc a p.a []) (xc b p.b []),q.2⟩:bj)]).length:Nat):Int):=by simp
   rw[e1] at hr
   obtain⟨x2,r1,r2⟩:=yK hop (l:=q.1) (by rw[s2];simp;omega) (fun j x hx=>by
    rcases WI j out.length with hj|hj
    ·rw[Wi hj] at hx
     obtain⟨p',b1,b2,b3⟩:=h2 j x hx
     rw[s2]
     exact⟨p',by rw[Wi ii];exact b1,b2,b3.pre⟩
    ·rw[Wh hj] at hx
     have h4:=(VZ.1 hx).1
     have hj':j=out.length:=by simp at h4;omega
     subst hj'
     rw[Xh] at hx
     cases hx
     exact⟨p,by rw[s2,Wi hk];exact hp,rfl,s1⟩) hr
   rw[s2,WG] at r1 r2
   exact⟨ext++x2,r1,r2⟩
  ·rw[TP ii] at hr
   cases hr
   exact⟨[],by rw[Wy];omega,by rw[Wy];exact h2⟩
theorem Ig {n:Nat} {a b:List bj} (ha:Gd n a) (hb:Gd n b) (hn:n<=1000000000) {op:Bool->Bool->Bool} {r:List bj} {L:List dw} (hl:r.length=L.length) (hr:∀j x,r[j]? =some x->PrI a b op L j x):∀(w:List UInt8) (j:Nat) (p:dw),L[j]? =some p->ac r j w=op (xc a p.a w) (xc b p.b w)
 |w,j,p,hj=>by
  obtain⟨x,hx⟩:∃x,r[j]? =some x:=⟨_,VV (by have:=(VZ.1 hj).1;omega)⟩
  obtain⟨p',h1,h2,h3⟩:=hr j x hx
  rw[hj] at h1
  cases h1
  cases w with
  |nil=>
   rw[<-h2]
   unfold ac
   rw[hx]
  |cons c w=>
   show ac r (dl r j c.toNat) w=_
   have hc:=wS c
   have hd:dl r j c.toNat=(gA c.toNat x.aI r.length).toNat:=by
    unfold dl
    rw[hx]
   obtain⟨u,hu,_⟩:=pR ha hn (s:=p.a) (b:=c.toNat)
   obtain⟨v,hv,_⟩:=pR hb hn (s:=p.b) (b:=c.toNat)
   have hkey:xX a b p c.toNat=some ⟨u,v⟩:=by
    unfold xX
    rw[hu,VU,hv,VU]
   have hm:=h3.kn _ hc.1 hc.2 _ hkey
   rw[hd,Be h3.ed.ew ((h3.br c.toNat _ hc.1 hc.2).2 ⟨_,hkey,rfl⟩),WR,Cs ha hu,Cs hb hv]
   exact Ig ha hb hn hl hr w _ ⟨u,v⟩ (by rw[VV (XP.2 hm),List.getElem_idxOf])
theorem sq {n:Nat} {a b:List bj} (ha:VL n a) (hb:VL n b) (hn:n<=20000) {is:Bool->Bool->Option Bool} {op:Bool->Bool->Bool} (hop:∀x y,is x y=some (op x y)):∃r,fW is a b=some r/\VL (fX a b) r/\∀w:List UInt8,ac r 0 w=op (ac a 0 w) (ac b 0 w):=by
 have h1:=ha.gd.len
 have h2:=hb.gd.len
 have hll:(a.length+2)*(b.length+2)<=20002*20002:=Xb ii ii
 have his:∀x y,aW (is x y) fun _=>True:=fun x y=>⟨_,hop x y,trivial⟩
 obtain⟨out,ho,hA⟩:=re ha.gd hb.gd hn his (f:=(a.length+2)*(b.length+2)+1) (l:=[⟨0,0⟩]) (out:=[]) ⟨fun p hp=>by
  rw[V1.1 hp]
  show(-1:Int)<=0/\(0:Int)<(a.length+1:Nat)/\(-1:Int)<=0/\(0:Int)<(b.length+1:Nat)
  omega,by simp⟩ (AB.nil 0) (by simp) (by simp)
 obtain⟨ext,g1,g2⟩:=yK hop (l:=[⟨0,0⟩]) (out:=[]) (by simp) (fun j x hx=>by simp at hx) ho
 have hac:=Ig ha.gd hb.gd ii g1 g2
 have hW:WF out:=fun s hs=>by
  obtain⟨j,hj⟩:=Wj.1 hs
  obtain⟨p,_,_,h3⟩:=g2 j s hj
  rw[g1]
  exact h3.ed.ew
 obtain⟨r,r1,r2,r3⟩:=VL.min hA ii hW
 refine⟨r,?_,r2.mono (by have:=hA.len;unfold fX;omega),fun w=> ?_⟩
 ·unfold fW
  have ho:oH a b is ((a.length+2)*(b.length+2)+1) 0 [⟨0,0⟩] []=some out:=ho
  rw[ha.qv,VU,hb.qv,VU,ho,VU,r1]
  rfl
 ·rw[r3,hac w 0 ⟨0,0⟩ rfl]
  rfl
theorem SW {n:Nat} {a b:List bj} (ha:VL n a) (hb:VL n b) (hn:n<=20000):∃r,th a b=some r/\VL (fX a b) r/\∀w:List UInt8,ac r 0 w=(ac a 0 w&&ac b 0 w):=by
 unfold th
 by_cases h1:a=[]
 ·subst h1
  exact⟨[],rfl,VL.nil _,fun w=>by rw[iE];rfl⟩
 ·rw[TP (by have:=Xq.2 h1;omega)]
  by_cases h2:b=[]
  ·subst h2
   exact⟨[],rfl,VL.nil _,fun w=>by rw[iE,Bool.and_false]⟩
  ·rw[TP (by have:=Xq.2 h2;omega)]
   exact sq ha hb hn fun x y=>by cases x<;>cases y<;>rfl
theorem KA {n:Nat} {a b:List bj} (ha:VL n a) (hb:VL n b) (hn:n<=20000):∃r,jP a b=some r/\VL (fX a b) r/\∀w:List UInt8,ac r 0 w=(ac a 0 w&& !ac b 0 w):=by
 unfold jP
 by_cases h1:a=[]
 ·subst h1
  exact⟨[],rfl,VL.nil _,fun w=>by rw[iE];rfl⟩
 ·rw[TP (by have:=Xq.2 h1;omega)]
  by_cases h2:b=[]
  ·subst h2
   obtain⟨r,e1,e2⟩:=wi ha.gd.toAB ii
   subst e2
   rw[HP (show(([]:List bj).length:Int)=0 from rfl),ha.qv,VU,e1]
   exact⟨r,rfl,ha.self.mono (by unfold fX;simp;omega),fun w=>by rw[iE];simp⟩
  ·rw[TP (by have:=Xq.2 h2;omega)]
   exact sq ha hb hn (op:=fun x y=>x&& !y) fun x y=>by cases x<;>cases y<;>rfl
def wst (b:UInt8) (i:Nat):bj:=⟨false,[⟨b.toNat,b.toNat,(i:Int)+1⟩]⟩
structure z8 (s:List UInt8) (l:List bj):Prop where
 len:l.length=s.length+1
 st:∀(i:Nat) (b:UInt8),s[i]? =some b->l[i]? =some (wst b i)
 fin:l[s.length]? =some (⟨true,[]⟩:bj)
theorem yq {s:List UInt8}:∀{n i:Nat} {out o:List bj},i+n=s.length->out.length=i->(∀(j:Nat) (b:UInt8),j<i->s[j]? =some b->out[j]? =some (wst b j))->oD s n i out=some o->o.length=s.length/\∀(j:Nat) (b:UInt8),s[j]? =some b->o[j]? =some (wst b j)
 |0,i,out,o,h1,h2,h3,e=>by
  cases e
  exact⟨by omega,fun j b hb=>h3 j b (by have:=(VZ.1 hb).1;omega) hb⟩
 |n+1,i,out,o,h1,h2,h3,e=>by
  unfold oD at e
  obtain⟨j,b,hj,hb,e⟩:=az e
  have:j=i:=by omega
  subst this
  obtain⟨_,e⟩:=aC e
  have e1:((j:Int)+1)=((j+1:Nat):Int):=by omega
  have e:oD s n ((j:Int)+1) (out++[wst b j])=some o:=e
  rw[e1] at e
  refine yq ii (by simp[h2]) (fun k x hk hx=> ?_) e
  rcases WI k j with g|g
  ·rw[Wi ii]
   exact h3 k x g hx
  ·have:k=j:=by omega
   subst this
   rw[hb] at hx
   cases hx
   rw[Wh ii,h2,Xh]
   rfl
theorem JI {s:List UInt8} {l:List bj} (e:pL s=some l):z8 s l:=by
 unfold pL at e
 obtain⟨_,e⟩:=ah e
 obtain⟨o,h1,e⟩:=aa e
 obtain⟨h2,h3⟩:=yq (n:=s.length) (i:=0) (out:=[]) ii rfl (fun j b hj=>by omega) h1
 unfold push at e
 split at e<;>cases e
 refine⟨by simp[h2],fun i b hb=> ?_,?_⟩
 ·rw[Wi (by rw[h2];exact(VZ.1 hb).1)]
  exact h3 i b hb
 ·rw[Wh ii,h2,Xh]
  rfl
theorem z8.Gu {s:List UInt8} {l:List bj} (h:z8 s l):∀(w:List UInt8) (i:Nat),i<=s.length->ac l i w=decide (w=s.drop i)
 |[],i,hi=>by
  unfold ac
  rcases WI i s.length with g|g
  ·rw[h.st i s[i] (VV g)]
   refine(Xu fun e=> ?_).symm
   have:=W4 List.length e
   rw[XZ] at this
   simp at this
   omega
  ·have:i=s.length:=by omega
   subst this
   rw[h.fin]
   exact(Xd (by simp)).symm
 |b::w,i,hi=>by
  show ac l (dl l i b.toNat) w=_
  rcases WI i s.length with g|g
  ·have hx:=h.st i s[i] (VV g)
   have hd:s.drop i=s[i]::s.drop (i+1):=Wo g
   by_cases hb:b=s[i]
   ·have hdl:dl l i b.toNat=i+1:=by
     unfold dl
     rw[hx,hb]
     show(if(s[i].toNat:Int)<=s[i].toNat/\(s[i].toNat:Int)<=s[i].toNat then(i:Int)+1 else _).toNat=_
     rw[HP ⟨Wv _,Wv _⟩]
     omega
    rw[hdl,h.Gu w (i+1) ii,hd,hb]
    exact decide_eq_decide.2 ⟨fun e=>by rw[e],fun e=>(Yn e).2⟩
   ·have hdl:dl l i b.toNat=l.length:=by
     unfold dl
     rw[hx]
     show(if(s[i].toNat:Int)<=b.toNat/\(b.toNat:Int)<=s[i].toNat then(i:Int)+1 else(l.length:Int)).toNat=_
     rw[TP fun e=>hb (UInt8.toNat_inj.1 ii)]
     omega
    rw[hdl,jZ (V2 _),hd]
    exact(Xu fun e=>hb (Yn e).1).symm
  ·have:i=s.length:=by omega
   subst this
   have hdl:dl l s.length b.toNat=l.length:=by
    unfold dl
    rw[h.fin]
    show(l.length:Int).toNat=_
    omega
   rw[hdl,jZ (V2 _)]
   simp
theorem z8.wf {s:List UInt8} {l:List bj} (h:z8 s l):WF l:=fun x hx=>by
 have hlen:=h.len
 obtain⟨i,hi⟩:=Wj.1 hx
 have hil:=(VZ.1 hi).1
 rcases WI i s.length with g|g
 ·rw[h.st i s[i] (VV g)] at hi
  cases hi
  refine⟨fun e he=> ?_,fun j a b ha hb=> ?_⟩
  ·rw[V1.1 he]
   exact⟨Wv _,by show(0:Int)<=(i:Int)+1;omega,by show(i:Int)+1<(l.length:Int);omega⟩
  ·have:j+1<1:=(VZ.1 hb).1
   omega
 ·have:i=s.length:=by omega
  subst this
  rw[h.fin] at hi
  cases hi
  exact⟨fun e he=>(by cases he),fun j a b ha=>by simp at ha⟩
theorem nq {κ:Type} [DecidableEq κ] {key:Int->Option κ}:∀(n:Nat) (b:Int) (st:List κ×List Sv.Edge),(∀x,b<=x->x<b+n->key x=none)->fK key n b st=st
 |0,b,st,_=>rfl
 |n+1,b,st,h=>by
  unfold fK
  rw[h b (Wv _) ii]
  exact nq n (b+1) st fun x h1 h2=>h x ii ii
theorem J8 {κ:Type} [DecidableEq κ] {key:Int->Option κ} {b:Nat} {a:κ} {K:List κ} (hb:b<256) (h1:key b=some a) (h2:∀x:Int,0<=x->x<256->x≠(b:Int)->key x=none) (ha:a∉K):fK key 256 0 (K,[])=(K++[a],[⟨b,b,K.length⟩]):=by
 have e:(256:Nat)=b+(1+(255-b)):=by omega
 rw[e,pU,nq b 0 _ (fun x h3 h4=>h2 x h3 ii ii),pU,nq (255-b) _ _ (fun x h3 h4=>h2 x ii ii ii)]
 show jg (K,[]) (0+(b:Int)) (0+(b:Int)) (key (0+(b:Int)))=_
 rw[Int.zero_add,h1]
 unfold jg
 simp only[TP ha]
 rfl
theorem DM {x:Int} (h0:0<=x) (h1:x<256):((UInt8.ofNat x.toNat).toNat:Int)=x:=by
 rw[XQ]
 omega
theorem uh {s:List UInt8} {l:List bj} (h:z8 s l) {p:List Int×List (List Int)×List Bool} {c:List Nat} {live:List Bool} (hK:Fk l p c live) (hn:l.length<800000000):
  ∀{f k:Nat} {o:List Int} {r:List bj},k<=s.length+1->o.map (bg c)=(List.range (min (k+1) (s.length+1))).map (fun i=>c.getD i 0)->(∀t∈o,0<=t/\t<(l.length+1:Nat))->pC p.1 p.2.1 p.2.2 (NI c) live f k o (mF c o) (l.take k)=some r->r=l
 |0,_,_,_,_,_,_,hr=>by cases hr
 |f+1,k,o,r,hk,ho,hor,hr=>by
  have hlen:=h.len
  have inj:∀i j,i<=s.length->j<=s.length->c.getD i 0=c.getD j 0->i=j:=fun i j hi hj e=>by
   have h1:=(hK.iff i j ii ii).1 e (s.drop i)
   rw[h.Gu _ i hi,h.Gu _ j hj,Xd rfl] at h1
   have h2:=W4 List.length (Wp h1.symm)
   rw[XZ,XZ] at h2
   omega
  have hnd:(o.map (bg c)).Nodup:=by
   rw[ho]
   refine(Yb.2 ?_)
   refine List.Pairwise.imp_of_mem (fun{a b} ha hb hne e=>hne ?_) Yx
   exact inj a b (by have:=XJ.1 ha;omega) (by have:=XJ.1 hb;omega) e
  have hol:o.length=min (k+1) (s.length+1):=by
   have:=W4 List.length ho
   simpa using this
  rcases kN hK hn hnd hor hr with⟨a1,a2⟩|⟨t,o1,e1,a1,a2,a3,a4,a5⟩
  ·have:k=s.length+1:=by omega
   rw[<-a2,Xa ii]
  ·have hkl:=(VZ.1 a1).1
   have hk':k<=s.length:=by omega
   have htr:=hor t (V6 a1)
   have hct:c.getD t.toNat 0=c.getD k 0:=by
    have h1:(o.map (bg c))[k]? =some (bg c t):=by rw[Wt,a1];rfl
    rw[ho,Wt,Yl ii] at h1
    exact(Wm h1).symm
   have hE:=(hK.iff t.toNat k ii ii).1 hct
   have hstep:∀x:Int,0<=x->x<256->∀w,ac l (dl l t.toNat x) w=decide (UInt8.ofNat x.toNat::w=s.drop k):=fun x x0 x1 w=>by
    rw[<-h.Gu _ k hk',<-hE]
    show _=ac l (dl l t.toNat (UInt8.ofNat x.toNat).toNat) w
    rw[DM x0 x1]
   have hkey:∀x:Int,0<=x->x<256->(∀w,UInt8.ofNat x.toNat::w≠s.drop k)->jR l c live t.toNat x=none:=fun x x0 x1 hx=>by
    unfold jR
    rw[TP fun g=> ?_]
    obtain⟨w,hw⟩:=(hK.lv (kH hK.wf)).1 g
    rw[hstep x x0 x1] at hw
    exact hx w (Wp hw)
   have hacc:ac l t.toNat []=ac l k []:=hE []
   rcases WI k s.length with g|g
   ·have hd:s.drop k=s[k]::s.drop (k+1):=Wo g
    have hby:=wS s[k]
    have hk1:jR l c live t.toNat (s[k].toNat:Nat)=some (c.getD (k+1) 0):=by
     have hEq:Eqv l (dl l t.toNat s[k].toNat) (k+1):=fun w=>by
      rw[hstep _ hby.1 hby.2,h.Gu _ (k+1) ii,hd]
      have:UInt8.ofNat ((s[k].toNat:Int)).toNat=s[k]:=by simp
      rw[this]
      exact decide_eq_decide.2 ⟨fun e=>(Yn e).2,fun e=>by rw[e]⟩
     have hc:=(hK.iff _ (k+1) (kH hK.wf) ii).2 hEq
     unfold jR
     rw[HP,hc]
     exact(hK.lv (kH hK.wf)).2 ⟨s.drop (k+1),by rw[hEq,h.Gu _ (k+1) ii];simp⟩
    have hnew:c.getD (k+1) 0∉o.map (bg c):=by
     rw[ho]
     intro hm
     obtain⟨i,hi,e⟩:=WQ.1 hm
     have hi:=XJ.1 hi
     have:=inj i (k+1) ii ii e
     omega
    rw[J8 (b:=s[k].toNat) ii hk1 (fun x x0 x1 hx=>hkey x x0 x1 fun w e=>by
     rw[hd] at e
     injection e with e _
     exact hx (by rw[<-e,DM x0 x1])) hnew] at a4
    injection a4 with a4 a6
    subst a6
    have hst:=h.st k s[k] (VV g)
    have e2:l.take k++[(⟨ac l t.toNat [],[⟨(s[k].toNat:Int),(s[k].toNat:Int),((o.map (bg c)).length:Int)⟩]⟩:bj)]=l.take (k+1):=by
     have e3:ac l k []=false:=by
      unfold ac
      rw[hst]
      rfl
     rw[W6,hst,hacc,e3,V4,hol,show min (k+1) (s.length+1)=k+1 by omega]
     rfl
    rw[e2] at a5
    refine uh h hK hn (k:=k+1) ii ?_ a3 a5
    rw[a4,ho,show min (k+1) (s.length+1)=k+1 by omega,show min (k+1+1) (s.length+1)=k+1+1 by omega,List.range_succ (n:=k+1),W2]
    rfl
   ·have hke:k=s.length:=by omega
    subst hke
    rw[nq 256 0 _ (fun x x0 x1=>hkey x x0 ii fun w e=>by simp at e)] at a4
    injection a4 with a4 a6
    subst a6
    have e2:l.take s.length++[(⟨ac l t.toNat [],[]⟩:bj)]=l.take (s.length+1):=by
     have e3:ac l s.length []=true:=by
      unfold ac
      rw[h.fin]
     rw[W6,h.fin,hacc,e3]
     rfl
    rw[e2] at a5
    refine uh h hK hn (k:=s.length+1) ii ?_ a3 a5
    rw[a4,ho]
    congr 2
    omega
theorem Qb {s:List UInt8} (hs:s.length<1000000):∃l,pL s=some l/\VL (s.length+1) l/\∀w:List UInt8,ac l 0 w=decide (w=s):=by
 obtain⟨l,h1,h2⟩:=yo hs
 have h:=JI h1
 have hlen:=h.len
 have hac:∀w:List UInt8,ac l 0 w=decide (w=s):=fun w=>by
  rw[h.Gu w 0 (Wd _),Xn]
 obtain⟨r,r1,r2,r3⟩:=VL.min h2 ii h.wf
 have hw:=pM h2 ii h.wf
 obtain⟨p,c,live,hK,hR⟩:=kx h2 ii hw h.wf (List.ne_nil_of_length_pos ii)
 have hrl:r=l:=by
  rcases hR r r1 with⟨_,g⟩|⟨g,_⟩
  ·refine uh h hK ii (k:=0) (o:=[0]) (Wd _) ?_ (fun t ht=>by rw[V1.1 ht];omega) g
   rw[show min (0+1) (s.length+1)=1 by omega]
   rfl
  ·exact(g ((hK.lv (Wd _)).2 ⟨s,by rw[hac];simp⟩)).elim
 subst hrl
 exact⟨r,h1,⟨⟨h2,h.wf,r2.gd.live⟩,r2.ok⟩,hac⟩
theorem NR {n:Nat} {l:List bj} (h:VL n l) (hn:n<400000000):∃q,ln l=some q/\q.1.length<=n/\(q.2=true↔∃w:List UInt8,ac l 0 w=true):=by
 obtain⟨q,h1,h2,h3⟩:=vD h.gd.toAB hn
 refine⟨q,h1,h2,?_⟩
 rw[h3,h.qv]
 constructor
 ·intro g
  exact h.ne ii fun e=>g (by rw[e])
 ·rintro⟨w,hw⟩ e
  rw[Wm e,iE] at hw
  cases hw
end Go.Proofs.YtcejopopgcglpaaGreatDoor
