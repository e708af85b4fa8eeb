/- For ConcreteOnly and ConcreteBack: calls, ranges over functions, a reckoner. -/
import Derived.Test.YtaagahmkmcnhaaaGreatDoorSA
import Derived.Lib.AppendZerosOnto
set_option linter.unusedVariables false
set_option linter.unusedSimpArgs false
set_option linter.unusedSectionVars false
namespace Sv
open Go Go.RowKit
def dE (m:Nat):Fn->Bool
 | .yield k=>decide (k<m)
 |_=>true
mutual
def nb (m:Nat):SVal->Bool
 | .ptr k _=>decide (k<m)
 | .fq k _ _ _=>decide (k<m)
 | .own k _=>decide (k<m)
 | .map k=>decide (k<m)
 | .bN row _=>cY m row
 | .aE _ rows=>jC m rows
 | .func fn x y=>dE m fn&&cY m x&&cY m y
 | .iface _ v=>nb m v
 | .agg l=>cY m l
 | .dT l=>cY m l
 |_=>true
def cY (m:Nat):List SVal->Bool
 |[]=>true
 |s::r=>nb m s&&cY m r
def jC (m:Nat):List (List SVal)->Bool
 |[]=>true
 |row::r=>cY m row&&jC m r
end
mutual
theorem xH (m:Nat):∀s:SVal,closed s=true->nb m s=true
 | .bool _,_=>rfl
 | .int _ _,_=>rfl
 | .str _,_=>rfl
 | .nilPtr,_=>rfl
 | .ptr _ _,h=>by cases h
 | .fq _ _ _ _,h=>by cases h
 | .bN row _,h=>bo m row h
 | .ax,_=>rfl
 | .aE _ rows,h=>gJ m rows h
 | .own _ _,h=>by cases h
 | .eA,_=>rfl
 | .map _,h=>by cases h
 | .func fn x y,h=>by
  rw[closed,Tw,Tw] at h
  rw[nb,Tw,Tw]
  refine⟨⟨?_,bo m x h.1.2⟩,bo m y h.2⟩
  cases fn<;>first|rfl|(simp[dx] at h)
 | .fT,_=>rfl
 | .nilIface,_=>rfl
 | .iface _ v,h=>xH m v h
 | .agg l,h=>bo m l h
 | .dT l,h=>bo m l h
theorem bo (m:Nat):∀l:List SVal,aw l=true->cY m l=true
 |[],_=>rfl
 |s::r,h=>by
  rw[aw,Tw] at h
  rw[cY,Tw]
  exact⟨xH m s h.1,bo m r h.2⟩
theorem gJ (m:Nat):∀l:List (List SVal),aG l=true->jC m l=true
 |[],_=>rfl
 |s::r,h=>by
  rw[aG,Tw] at h
  rw[jC,Tw]
  exact⟨bo m s h.1,gJ m r h.2⟩
end
section
variable {c c':Ctx} {m:Nat} (hρ:∀k,k<m->c'.ρ k=c.ρ k) (hfz:∀b i v,c.fz b i=some v->c'.fz b i=some v)
include hρ hfz
mutual
theorem Den.low:∀(s:SVal) (v:Value),nb m s=true->Den c s v->Den c' s v
 | .bool _,_,_,e=>e
 | .int _ _,_,_,e=>e
 | .str _,_,_,e=>e
 | .nilPtr,_,_,e=>e
 | .ptr k off,v,h,⟨b,h1,h2⟩=>⟨b,(hρ k (TF h)).trans h1,h2⟩
 | .fq k s i off,v,h,⟨h0,b,st,sz,u,h1,h2⟩=>⟨h0,b,st,sz,u,(hρ k (TF h)).trans h1,h2⟩
 | .bN row off,v,h,⟨b,base,h1,h2⟩=>⟨b,base,h1,bW.low b row base h h2⟩
 | .ax,_,_,e=>e
 | .aE full rows,v,h,e=>by
  rcases e with e|⟨b,base,size,cap,h1,h2,h3,h4⟩
  ·exact .inl e
  ·exact .inr ⟨b,base,size,cap,h1,h2,h3,bL.low b size rows base h h4⟩
 | .own k s,v,h,⟨h0,b,st,sz,u,h1,h2⟩=>⟨h0,b,st,sz,u,(hρ k (TF h)).trans h1,h2⟩
 | .eA,_,_,e=>e
 | .map k,v,h,⟨b,h1,h2⟩=>⟨b,(hρ k (TF h)).trans h1,h2⟩
 | .func fn x y,v,h,e=>by
  rw[nb,Tw,Tw] at h
  cases fn<;>first
   |(obtain⟨b,h1,h2⟩:=e;exact⟨b,(hρ _ (TF h.1.1)).trans h1,h2⟩)
   |(obtain⟨xs,ys,h1,h2,h3⟩:=e;exact⟨xs,ys,aJ.low x xs h.1.2 h1,aJ.low y ys h.2 h2,h3⟩)
 | .fT,_,_,e=>e
 | .nilIface,_,_,e=>e
 | .iface t s,v,h,⟨u,h1,h2⟩=>⟨u,Den.low s u h h1,h2⟩
 | .agg l,v,h,⟨vs,h1,h2⟩=>⟨vs,aJ.low l vs h h1,h2⟩
 | .dT l,v,h,⟨vs,h1,h2⟩=>⟨vs,aJ.low l vs h h1,h2⟩
theorem aJ.low:∀(l:List SVal) (vs:List Value),cY m l=true->aJ c l vs->aJ c' l vs
 |[],_,_,e=>e
 |s::r,vs,h,⟨v,l,h1,h2,h3⟩=>by
  rw[cY,Tw] at h
  exact⟨v,l,Den.low s v h.1 h1,aJ.low r l h.2 h2,h3⟩
theorem bW.low (b:Nat):∀(row:List SVal) (i:Nat),cY m row=true->bW c b row i->bW c' b row i
 |[],_,_,_=>trivial
 |s::r,i,h,⟨⟨u,h1,h0,h2⟩,h3⟩=>by
  rw[cY,Tw] at h
  exact⟨⟨u,hfz b i u h1,h0,Den.low s u h.1 h2⟩,bW.low b r (i+1) h.2 h3⟩
theorem bL.low (b size:Nat):∀(rows:List (List SVal)) (i:Nat),jC m rows=true->bL c b size rows i->bL c' b size rows i
 |[],_,_,_=>trivial
 |row::r,i,h,⟨h1,h2,h3⟩=>by
  rw[jC,Tw] at h
  exact⟨h1,bW.low b row i h.1 h2,bL.low b size r (i+size) h.2 h3⟩
end
end
theorem sX {m:Nat}:∀{l:List SVal} {s:SVal},cY m l=true->s∈l->nb m s=true
 |[],_,_,h=>by cases h
 |t::r,s,h,hs=>by
  rw[cY,Tw] at h
  rcases Tv.1 hs with rfl|hs
  ·exact h.1
  ·exact sX h.2 hs
theorem sW {m:Nat}:∀{l:List (List SVal)} {s:List SVal},jC m l=true->s∈l->cY m s=true
 |[],_,_,h=>by cases h
 |t::r,s,h,hs=>by
  rw[jC,Tw] at h
  rcases Tv.1 hs with rfl|hs
  ·exact h.1
  ·exact sW h.2 hs
def Qx (m:Nat):List (SVal×SVal)->Bool
 |[]=>true
 |p::r=>nb m p.1&&nb m p.2&&Qx m r
theorem sZ {m:Nat}:∀{l:List (SVal×SVal)} {p:SVal×SVal},Qx m l=true->p∈l->nb m p.1=true/\nb m p.2=true
 |[],_,_,h=>by cases h
 |t::r,s,h,hs=>by
  rw[Qx,Tw,Tw] at h
  rcases Tv.1 hs with rfl|hs
  ·exact h.1
  ·exact sZ h.2 hs
def lG (m:Nat):List (Nat×SVal)->Bool
 |[]=>true
 |p::r=>nb m p.2&&lG m r
theorem sY {m:Nat}:∀{l:List (Nat×SVal)} {t:Nat} {s:SVal},lG m l=true->bx l t=some s->nb m s=true
 |[],_,_,_,h=>by cases h
 |p::r,t,s,h,hs=>by
  rw[lG,Tw] at h
  rw[bZ] at hs
  split at hs
  ·cases hs;exact h.1
  ·exact sY h.2 hs
def gK (m:Nat):bm->Bool
 | .cells l=>cY m l
 | .still l=>cY m l
 | .row _ rows _ _=>jC m rows
 | .map es=>Qx m es
 | .loop r=>lG m r.fr.t
 | .lR _ l=>cY m l
theorem eK.low {c c':Ctx} {m:Nat} (hρ:∀k,k<m->c'.ρ k=c.ρ k) (hfz:c'.fz=c.fz) {o:bm} {l:Loc} {w:World} (h:gK m o=true) (k:eK c o l w):eK c' o l w:=by
 have hf:∀b i v,c.fz b i=some v->c'.fz b i=some v:=fun b i v e=>by rw[hfz];exact e
 cases o with
 |cells cs=>cases l with
  |row=>exact k.elim
  |box b=>
   obtain⟨arr,e,h1,h2,h3⟩:=k
   exact⟨arr,e,h1,aJ.low hρ hf _ _ h h2,fun i v=>by rw[hfz];exact h3 i v⟩
 |still cs=>cases l with
  |row=>exact k.elim
  |box b=>
   obtain⟨arr,e,h1,h2,h3⟩:=k
   exact⟨arr,e,h1,aJ.low hρ hf _ _ h h2,fun i v=>by rw[hfz];exact h3 i v⟩
 |row m' rows s froz=>cases l with
  |box b=>exact k.elim
  |row ob st sz u=>
   refine⟨k.1,k.2.1,?_⟩
   have h2:=k.2.2
   cases ob with
   |none=>exact h2
   |some b=>
    obtain⟨arr,e,cap,h3⟩:=h2
    refine⟨arr,e,cap,h3.val,h3.cells,h3.size,h3.fits,fun i row hr=>⟨(h3.elems i row hr).1,fun j s hs=> ?_⟩,fun i v hv=>h3.fz i v (by rw[hfz] at hv;exact hv)⟩
    obtain⟨v,h4,h5,h6⟩:=(h3.elems i row hr).2 j s hs
    exact⟨v,h4,h5,Den.low hρ hf _ _ (sX (sW h (Ts hr)) (Ts hs)) h6⟩
 |map es=>cases l with
  |row=>exact k.elim
  |box b=>
   obtain⟨ents,clock,h1,h2,h3⟩:=k
   refine⟨ents,clock,h1,h2,fun i p hp=> ?_⟩
   obtain⟨e,h4,h5,h6⟩:=h3 i p hp
   obtain⟨h7,h8⟩:=sZ h (Ts hp)
   exact⟨e,h4,Den.low hρ hf _ _ h7 h5,Den.low hρ hf _ _ h8 h6⟩
 |loop r=>cases l with
  |row=>exact k.elim
  |box b=>
   obtain⟨x,h1,h2⟩:=k
   exact⟨x,h1,⟨h2.rN.1,fun t s hs=>let⟨v,h3,h4⟩:=h2.rN.2 t s hs;⟨v,h3,Den.low hρ hf _ _ (sY h hs) h4⟩⟩,h2.ps,h2.assign,h2.body,h2.state,h2.lM,h2.one,h2.two⟩
 |lR g cs=>cases l with
  |box=>exact k.elim
  |row ob st sz u=>
   obtain⟨h0,h3,arr,e,f,h4,h1,h2⟩:=k
   exact⟨h0,h3,arr,e,f,h4,h1,aJ.low hρ hf _ _ h h2⟩
structure kO (lo:Nat) (st1 st:St):Prop where
 next:st1.next<=st.next
 low:lo<=st1.next
 cB:st1.cB=st.cB
 mark:st1.mark=st.mark
 log:st1.log=st.log
 SU:∀k,b8 k st.cB=true->k<st1.next
 heap:∀k o,bx st1.heap k=some o->bx st.heap k=some o/\gK st1.next o=true/\k<st1.next
 same:∀k,k<lo->bx st1.heap k=bx st.heap k
theorem kO.look {lo:Nat} {st1 st:St} (h:kO lo st1 st) {k:Nat} {o:bm} (hk:st1.look k=some o):st.look k=some o/\gK st1.next o=true:=by
 obtain⟨h1,h2⟩:=cR hk
 obtain⟨h3,h4,_⟩:=h.heap k o h1
 refine⟨?_,h4⟩
 rw[look_eq,<-h.cB,h2]
 exact h3
def lS (m:Nat) (c:Ctx):Ctx:=⟨fun k=>if k<m then c.ρ k else none,c.fz⟩
theorem dZ {m k:Nat} (c:Ctx) (h:k<m):(lS m c).ρ k=c.ρ k:=Th h
theorem kO.rep {lo:Nat} {st1 st:St} (h:kO lo st1 st) {c:Ctx} {w:World} (hr:dD c st.look w):dD (lS st1.next c) st1.look w:=by
 refine⟨fun k o hk=> ?_,fun k j o o' l l' r hk hj hne h1 h2=> ?_,hr.fz⟩
 ·obtain⟨h1,h2⟩:=h.look hk
  obtain⟨l,h3,h4⟩:=hr.dF k o h1
  exact⟨l,(dZ c (h.heap k o (cR hk).1).2.2).trans h3,h4.low (fun k hk=>dZ c hk) rfl h2⟩
 ·rw[dZ c (h.heap k o (cR hk).1).2.2] at h1
  rw[dZ c (h.heap j o' (cR hj).1).2.2] at h2
  exact hr.sep k j o o' l l' r (h.look hk).1 (h.look hj).1 hne h1 h2
theorem kO.cstep {lo:Nat} {st1 st:St} (h:kO lo st1 st) {c c':Ctx} {w w':World} {H':gx} (k:eh lo (lS st1.next c) st1.look w c' H' w'):eh lo c st.look w c' H' w':=by
 have own:∀r,fN (lS st1.next c) st1.look r->fN c st.look r:=fun r ⟨n,o,l,h1,h2,h3⟩=>⟨n,o,l,(h.look h1).1,by rw[dZ c (h.heap n o (cR h1).1).2.2] at h2;exact h2,h3⟩
 have lt:∀n,n<lo->n<st1.next:=fun n hn=>Us hn h.low
 refine⟨fun n l hn e=>k.le n l hn (by rw[dZ c (lt n hn)];exact e),k.fz,fun n hn e=>k.off n hn (by rw[dZ c (lt n hn)];exact e),fun n l hn e e'=>k.hid n l hn ?_ (by rw[dZ c (lt n hn)];exact e'),k.os,k.tape,k.output,k.size,fun r hr hn=>k.kept r hr fun ho=>hn (own r ho),fun r ho=>(k.owns r ho).imp (own r) id,fun b i v hv=>(k.wR b i v hv).imp id fun e=>e.imp (own b) id⟩
 cases hx:st1.look n with
 |none=>rfl
 |some o=>rw[(h.look hx).1] at e;cases e
theorem kO.csta {lo:Nat} {st1 st st':St} (h:kO lo st1 st) (k:rI lo st1 st'):rI lo st st':=
 ⟨k.cB.trans h.cB,k.mark.trans h.mark,fun n hn=>k.log n (by rw[h.log];exact hn),fun n h1 h2 h3=>(k.same n h1 (by rw[h.mark];exact h2) h3).trans (h.same n h1),fun n hn=>by
  rcases k.AO n hn with e|e
  ·exact .inl (by rw[<-h.log];exact e)
  ·exact .inr ⟨by rw[<-h.cB];exact e.1,by rw[<-h.mark];exact e.2⟩⟩
theorem kO.wf {lo:Nat} {st1 st:St} (h:kO lo st1 st) (hm:st.mark<=lo):Wf st1:=
 ⟨fun k hk=>by
  cases hx:bx st1.heap k with
  |none=>rfl
  |some o=>have:=(h.heap k o hx).2.2;omega,fun k hk=>h.SU k (by rw[<-h.cB];exact hk),by rw[h.mark];exact TR hm h.low⟩
structure Fs (m:Nat) (fr1 fr:Fr):Prop where
 n:fr1.n=fr.n
 get:∀t s,fr1.get t=some s->fr.get t=some s/\nb m s=true
theorem W.less {P:Program} {lo:Nat} {z:Code} {fr fr1:Fr} {st st1:St} {Φ:Ex->Fr->St->Prop} (hf:Fs st1.next fr1 fr) (hs:kO lo st1 st) (h:W P lo z fr1 st1 Φ):W P lo z fr st Φ:=by
 intro ro B D c w a he hr Q hq
 refine h ⟨hs.rep he.rep,hs.wf he.mark,fun k hk=>Ti ii,⟨by rw[hf.n];exact he.fr.size,fun t s ht=> ?_,he.fr.defers⟩,he.Ep,he.base,hs.low,by rw[hs.mark];exact he.mark⟩ hr fun x fr' st' D' c' a' w' h1 h2 h3 h4 h5=> ?_
 ·obtain⟨h1,h2⟩:=hf.get t s ht
  obtain⟨v,h3,h4⟩:=he.fr.get t s h1
  exact⟨v,h3,Den.low (fun k hk=>dZ c hk) (fun _ _ _ h=>h) _ _ h2 h4⟩
 ·exact hq x fr' st' D' c' a' w' h1 h2 (hs.cstep h3) (hs.csta h4) (h5.trans hf.n)
theorem W.kp {P:Program} {lo:Nat} {z:Code} {fr fr1:Fr} {st:St} {Φ:Ex->Fr->St->Prop} (hn:fr1.n=fr.n) (hf:∀t s,fr1.get t=some s->∃s',fr.get t=some s'/\∀c v,Den c s' v->Den c s v) (h:W P lo z fr1 st Φ):W P lo z fr st Φ:=by
 intro ro B D c w a he hr Q hq
 refine h ⟨he.rep,he.wf,he.wW,⟨by rw[hn];exact he.fr.size,fun t s ht=> ?_,he.fr.defers⟩,he.Ep,he.base,he.low,he.mark⟩ hr fun x fr' st' D' c' a' w' h1 h2 h3 h4 h5=>hq x fr' st' D' c' a' w' h1 h2 h3 h4 (h5.trans hn)
 obtain⟨s',h1,h2⟩:=hf t s ht
 obtain⟨v,h3,h4⟩:=he.fr.get t s' h1
 exact⟨v,h3,h2 c v h4⟩
theorem oX {st:St} {k m s:Nat} {rows:List (List SVal)} {z:Bool} (hk:st.look k=some (.row m rows s z)) {c:Ctx} {w:World} (hr:dD c st.look w):
  ∃c',c'.ρ=c.ρ/\dD c' (st.put k (.row m rows s true)).look w/\Step st.next (st.put k (.row m rows s true)).next c st.look w c' (st.put k (.row m rows s true)).look w/\∀v,Den c (.own k s) v->Den c' (.aE false rows) v:=by
 obtain⟨l,h1,h2⟩:=hr.dF _ _ hk
 cases l with
 |box b=>exact h2.elim
 |row ob st0 sz u=>
  obtain⟨rfl,rfl,h2⟩:=h2
  cases ob with
  |none=>
   obtain⟨rfl,a,rfl⟩:=h2
   obtain⟨r1,r2⟩:=eE (o':= .row sz [] st0 true) hr hk h1 h1 (dz.refl _) (fun _ _=>rfl) (fun _ _ _ h=>h) (fun _ _ _ h=> .inl h) (fun r hr=> .inl hr) ((df.refl w).but _) (fun b i v hb=>by cases hb) ⟨rfl,rfl,rfl,a,rfl⟩
   refine⟨c,rfl,r1,r2,fun v hv=> ?_⟩
   obtain⟨_,ob,st1,sz1,u1,h3,_,h5⟩:=hv
   rw[h1] at h3
   cases h3
   rw[h5 rfl]
   exact .inl ⟨rfl,a,0,rfl,fun h=>by cases h⟩
  |some b=>
   obtain⟨arr,e,cap,h3⟩:=h2
   have cell:∀i,w.cell? ⟨b,i,none⟩=arr[i]? :=iQ h3.cells
   let c':Ctx:=⟨c.ρ,fun b' i=>if b'=b/\i<rows.length*sz then arr[i]? else c.fz b' i⟩
   have hle:Le c c':=⟨fun n l e=>⟨l,e,dz.refl l⟩,fun b' i v hv=>by
    show(if b'=b/\i<rows.length*sz then arr[i]? else c.fz b' i)=some v
    split
    ·rename_i hc
     obtain⟨rfl,_⟩:=hc
     obtain⟨arr2,e2,f2,h5,h6⟩:=hr.fz _ _ _ hv
     rw[h3.cells] at h5
     cases h5
     exact h6
    ·exact hv⟩
   have hnew:∀b' i v,c'.fz b' i=some v->c.fz b' i=some v\/some b=some b':=fun b' i v hv=>by
    have hv:(if b'=b/\i<rows.length*sz then arr[i]? else c.fz b' i)=some v:=hv
    split at hv
    ·rename_i hc;exact .inr (by rw[hc.1])
    ·exact .inl hv
   have hin:∀i v,c'.fz b i=some v->arr[i]? =some v/\i<rows.length*sz:=fun i v hv=>by
    have hv:(if b=b/\i<rows.length*sz then arr[i]? else c.fz b i)=some v:=hv
    split at hv
    ·rename_i hc;exact⟨hv,hc.2⟩
    ·obtain⟨arr2,e2,f2,h5,h6⟩:=hr.fz _ _ _ hv
     rw[h3.cells] at h5
     cases h5
     exact⟨h6,(h3.fz i v hv).2⟩
   obtain⟨r1,r2⟩:=eE (o':= .row sz rows st0 true) (c':=c') hr hk h1 h1 (dz.refl _) (fun _ _=>rfl) hle.fz hnew (fun r hr=> .inl hr) ((df.refl w).but _) (fun b' i v hb hv=>by cases hb;exact⟨arr,e,_,h3.cells,(hin i v hv).1⟩)
    ⟨rfl,rfl,arr,e,cap,h3.val,h3.cells,h3.size,h3.fits,h3.elems.le hle,fun i v hv=>⟨rfl,(hin i v hv).2⟩⟩
   refine⟨c',rfl,r1,r2,fun v hv=> ?_⟩
   obtain⟨_,ob,st1,sz1,u1,h4,_,h5⟩:=hv
   rw[h1] at h4
   cases h4
   rw[h5 rfl,h3.val]
   refine .inr ⟨b,0,sz,cap,rfl,h3.fits,(fun h=>by cases h),bL.of fun i row hrow=>⟨(h3.elems i row hrow).1,bW.of fun j t ht=> ?_⟩⟩
   obtain⟨x,h6,h7,h8⟩:=(h3.elems i row hrow).2 j t ht
   refine⟨x,?_,h7,Den.le hle _ _ h8⟩
   have hi:i<rows.length:=(Tk.1 hrow).1
   have hj:j<sz:=by rw[<-(h3.elems i row hrow).1];exact(Tk.1 ht).1
   have hm:(i+1)*sz<=rows.length*sz:=UA _ hi
   rw[Um,U5] at hm
   show(if b=b/\0+i*sz+j<rows.length*sz then arr[0+i*sz+j]? else _)=_
   rw[Th ⟨rfl,by omega⟩,Ue]
   exact h6
theorem xn {st:St} {k:Nat} {l l':List SVal} (hk:st.look k=some (.cells l)) {c:Ctx} {w:World} (hr:dD c st.look w) (hf:sd l') (hd:∀(b:Nat) (arr:Array Value) (e:TypeId),c.ρ k=some (.box b)->w.heap[b]? =some (.cells arr e (0,0))->aJ c l' arr.toList):
  ∃c',c'.ρ=c.ρ/\dD c' (st.put k (.still l')).look w/\Step st.next (st.put k (.still l')).next c st.look w c' (st.put k (.still l')).look w/\∀off v,Den c (.ptr k off) v->Den c' (.bN l' off) v:=by
 obtain⟨lc,h1,h2⟩:=hr.dF _ _ hk
 cases lc with
 |row=>exact h2.elim
 |box b=>
  obtain⟨arr,e,h3,h4,h5⟩:=h2
  have h4:=hd _ _ _ h1 h3
  let c':Ctx:=⟨c.ρ,fun b' i=>if b'=b then arr[i]? else c.fz b' i⟩
  have hle:Le c c':=⟨fun n l e=>⟨l,e,dz.refl l⟩,fun b' i v hv=>by
   show(if b'=b then arr[i]? else c.fz b' i)=some v
   split
   ·rename_i hc
    subst hc
    exact(h5 i v hv).elim
   ·exact hv⟩
  have hnew:∀b' i v,c'.fz b' i=some v->c.fz b' i=some v\/some b=some b':=fun b' i v hv=>by
   have hv:(if b'=b then arr[i]? else c.fz b' i)=some v:=hv
   split at hv
   ·rename_i hc;exact .inr (by rw[hc])
   ·exact .inl hv
  have hin:∀(i:Nat) (v:Value),arr[i]? =some v->c'.fz b i=some v:=fun i v hv=>by
   show(if b=b then arr[i]? else c.fz b i)=some v
   rw[Th rfl]
   exact hv
  obtain⟨r1,r2⟩:=eE (o':= .still l') (c':=c') hr hk h1 h1 (dz.refl _) (fun _ _=>rfl) hle.fz hnew (fun r hr=> .inl hr) ((df.refl w).but _) (fun b' i v hb hv=>by
    cases hb
    have hv:(if b=b then arr[i]? else c.fz b i)=some v:=hv
    rw[Th rfl] at hv
    exact⟨arr,e,_,h3,hv⟩)
   ⟨arr,e,h3,aJ.le hle _ _ h4,hin⟩
  refine⟨c',rfl,r1,r2,fun off v hv=> ?_⟩
  obtain⟨b2,h6,rfl⟩:=hv
  rw[h1] at h6
  cases h6
  refine⟨b,0,by rw[Ue],bW.of fun j s hs=> ?_⟩
  obtain⟨u,h7,h8⟩:=h4.get hs
  have h7:arr[j]? =some u:=by simpa using h7
  refine⟨u,by rw[Ue];exact hin j u h7,nK (hf s (Ts hs)) h8,Den.le hle _ _ h8⟩
theorem HJ {st:St} {k:Nat} {l:List SVal} (hk:st.look k=some (.still l)) {c:Ctx} {w:World} (hr:dD c st.look w) (hf:sd l) {off:Nat} {v:Value} (hv:Den c (.ptr k off) v):Den c (.bN l off) v:=by
 obtain⟨lc,h1,h2⟩:=hr.dF _ _ hk
 cases lc with
 |row=>exact h2.elim
 |box b=>
  obtain⟨arr,e,h3,h4,h5⟩:=h2
  obtain⟨b2,h6,rfl⟩:=hv
  rw[h1] at h6
  cases h6
  refine⟨b,0,by rw[Ue],bW.of fun j s hs=> ?_⟩
  obtain⟨u,h7,h8⟩:=h4.get hs
  have h7:arr[j]? =some u:=by simpa using h7
  exact⟨u,by rw[Ue];exact h5 j u h7,nK (hf s (Ts hs)) h8,h8⟩
def Call1 (P:Program) (f:FuncId) (args:Array Value) (w:World) (R:Value->World->Prop):Prop:=
 ∀(o:Oper) (a:Act) (next:Act->World->Prop) (Q:Exit->Act->World->Prop),(∀v w',R v w'->next (a.put o.dst v) w')->o.uponIn Fence.wide 0 P a next Q ((callFunc f args).run P w)
theorem ru {P:Program} {f:FuncId} {fn:Func} {body:Code} (hf:P.funcs[f]? =some fn) (hn:(fn.name== "runtime.NumGoroutine")=false) (hb:fn.body=some body) (args:Array Value) (w:World):(callFunc f args).run P w= .ok (.enter f args) w:=by
 simp only[callFunc,Sem.run_bind,run_program,Result.andThen_ok,hf,hn,hb]
 rfl
theorem eW {P:Program} {f:FuncId} {fn:Func} {body:Code} (hf:P.funcs[f]? =some fn) (hn:(fn.name== "runtime.NumGoroutine")=false) (hb:fn.body=some body) {args:Array Value} {w:World} {R:Value->World->Prop}
  (h:Calls P f args w fun e w'=>∃v,e= .returned v/\R v w'):Call1 P f args w R:=by
 intro o a next Q hk
 rw[ru hf hn hb,Oper.uponIn_enter]
 refine⟨fun h=>(by cases h),callsIn_wide.2 (h.mono fun e w' ⟨v,he,hr⟩=> ?_)⟩
 subst he
 exact hk v w' hr
def Hn (P:Program) (f:FuncId):Prop:=∃fn body,P.funcs[f]? =some fn/\(fn.name== "runtime.NumGoroutine")=false/\fn.body=some body
structure gX (P:Program) (f:FuncId) (args:List SVal) (st:St) (s:SVal) (st':St):Prop where
 body:Hn P f
 eP:eJ st st'
 ok:∀{c:Ctx} {w:World},dD c st.look w->Wf st->pk c st.next st'.next->∀{vs:List Value},aJ c args vs->Calls P f vs.toArray w fun e w'=>∃v,e= .returned v/\∃c',Good st st' s c w c' v w'
section
variable {P:Program} {E:Env} {o:Oper} {ev:jA} {st st':St}
theorem jb {e:Operand->Value} {d:Go.Call} {fop:Operand} {f:FuncId} {first cap:List SVal} {ss:List SVal} {c:Ctx} (ho:o.op= .call d) (hc:d.callee= .value fop) (hf:ev fop=some (.func (.func f) first cap)) (hev:lZ ev d.args.toList=some ss)
  (he:∀x∈o.op.operands.toList,∀s,ev x=some s->Den c s (e x)):∃vs,aJ c (first++(ss++cap)) vs/\∀w,(execOp e o).run P w=(callFunc f vs.toArray).run P w:=by
 have mem:∀x,x∈d.args.toList->∀s,ev x=some s->Den c s (e x):=fun x hx=>he x (by
  rw[ho]
  show x∈(_++d.args).toList
  rw[U4]
  exact Uq _ hx)
 obtain⟨x,y,h1,h2,h3⟩:=he fop (by simp[ho,Op.operands,Go.Call.operands,hc]) _ hf
 refine⟨x++(d.args.toList.map e++y),aJ.append.2 ⟨_,_,h1,aJ.append.2 ⟨_,_,nN mem hev,h2,rfl⟩,rfl⟩,fun w=> ?_⟩
 simp only[execOp,ho,Sem.run_bind,resolve,hc,h3,Deferred.ofValue,Sem.run_pure,Result.andThen_ok,invoke]
 congr 2
 simp
theorem kt {d:Go.Call} {fop:Operand} {f:FuncId} {first cap ss:List SVal} {s:SVal} (ho:o.op= .call d) (hc:d.callee= .value fop) (hf:ev fop=some (.func (.func f) first cap)) (hev:lZ ev d.args.toList=some ss) (h:gX P f (first++(ss++cap)) st s st'):bD P o ev st s st':=
 ⟨by simp[ho],h.eP,fun{c w} hr hwf hfr {e} he a next Q hn=>by
  obtain⟨vs,h1,h2⟩:=jb (P:=P) ho hc hf hev he
  obtain⟨fn,body,g1,g2,g3⟩:=h.body
  rw[h2]
  exact eW g1 g2 g3 (h.ok hr hwf hfr h1) o a next Q fun v w' ⟨c',hg⟩=>hn c' v w' hg⟩
end
mutual
def kp:SVal->SVal
 | .ax=> .aE false []
 | .aE _ rows=> .aE false rows
 | .agg l=> .agg (cG l)
 |s=>s
def cG:List SVal->List SVal
 |[]=>[]
 |s::r=>kp s::cG r
end
mutual
theorem tB {c:Ctx}:∀(s:SVal) (v:Value),Den c s v->Den c (kp s) v
 | .ax,v,h=> .inl ⟨rfl,none,0,h,fun h=>by cases h⟩
 | .aE f rows,v,h=>by
  rcases h with⟨h1,a,cap,h2,_⟩|⟨b,base,size,cap,h1,h2,_,h3⟩
  ·exact .inl ⟨h1,a,cap,h2,fun h=>by cases h⟩
  ·exact .inr ⟨b,base,size,cap,h1,h2,(fun h=>by cases h),h3⟩
 | .agg l,v,⟨vs,h1,h2⟩=>⟨vs,gB l vs h1,h2⟩
 | .bool _,_,h=>h
 | .int _ _,_,h=>h
 | .str _,_,h=>h
 | .nilPtr,_,h=>h
 | .ptr _ _,_,h=>h
 | .fq _ _ _ _,_,h=>h
 | .bN _ _,_,h=>h
 | .own _ _,_,h=>h
 | .eA,_,h=>h
 | .map _,_,h=>h
 | .func _ _ _,_,h=>h
 | .fT,_,h=>h
 | .nilIface,_,h=>h
 | .iface _ _,_,h=>h
 | .dT _,_,h=>h
theorem gB {c:Ctx}:∀(l:List SVal) (vs:List Value),aJ c l vs->aJ c (cG l) vs
 |[],_,h=>h
 |s::r,_,⟨v,l,h1,h2,h3⟩=>⟨v,l,tB s v h1,gB r l h2,h3⟩
end
inductive iN:St->List SVal->List SVal->St->Prop where
 |nil {st:St}:iN st [] [] st
 |same {st st':St} {s:SVal} {r r':List SVal}:iN st r r' st'->iN st (s::r) (s::r') st'
 |ax {st st':St} {r r':List SVal}:iN st r r' st'->iN st (.ax::r) (.aE false []::r') st'
 |aE {st st':St} {f:Bool} {rows:List (List SVal)} {r r':List SVal}:iN st r r' st'->iN st (.aE f rows::r) (.aE false rows::r') st'
 |own {st st':St} {k m s:Nat} {rows:List (List SVal)} {z:Bool} {r r':List SVal}:st.look k=some (.row m rows s z)->iN (st.put k (.row m rows s true)) r r' st'->iN st (.own k s::r) (.aE false rows::r') st'
 |agg {st st1 st':St} {l l' r r':List SVal}:iN st l l' st1->iN st1 r r' st'->iN st (.agg l::r) (.agg l'::r') st'
 |ptr {st st1 st':St} {k off:Nat} {l l' r r':List SVal}:st.look k=some (.cells l)->iN st l l' st1->st1.look k=some (.cells l)->gb l'=true->iN (st1.put k (.still l')) r r' st'->iN st (.ptr k off::r) (.bN l' off::r') st'
 |still {st st':St} {k off:Nat} {l r r':List SVal}:st.look k=some (.still l)->gb l=true->iN st r r' st'->iN st (.ptr k off::r) (.bN l off::r') st'
 |func {st st1 st2 st':St} {f:FuncId} {x x' y y' r r':List SVal}:iN st x x' st1->iN st1 y y' st2->iN st2 r r' st'->iN st (.func (.func f) x y::r) (.func (.func f) x' y'::r') st'
theorem iN.eP {st st':St} {l l':List SVal} (h:iN st l l' st'):eJ st st'/\st'.next=st.next:=by
 induction h with
 |nil=>exact⟨eJ.refl _,rfl⟩
 |same _ ih=>exact ih
 |ax _ ih=>exact ih
 |aE _ ih=>exact ih
 |own hk _ ih=>exact⟨(dt _ hk).trans ih.1,ih.2⟩
 |agg _ _ ih1 ih2=>exact⟨ih1.1.trans ih2.1,ih2.2.trans ih1.2⟩
 |ptr _ _ hk _ _ ih1 ih2=>exact⟨ih1.1.trans ((dt _ hk).trans ih2.1),ih2.2.trans ih1.2⟩
 |still _ _ _ ih=>exact ih
 |func _ _ _ ih1 ih2 ih3=>exact⟨ih1.1.trans (ih2.1.trans ih3.1),ih3.2.trans (ih2.2.trans ih1.2)⟩
theorem iN.ok {st st':St} {l l':List SVal} (h:iN st l l' st') {w:World}:∀{c:Ctx},dD c st.look w->∀{vs:List Value},aJ c l vs->∃c',c'.ρ=c.ρ/\dD c' st'.look w/\Step st.next st'.next c st.look w c' st'.look w/\aJ c' l' vs:=by
 induction h with
 |nil=>exact fun{c} hr _ hd=>⟨c,rfl,hr,Step.refl _ _ _ _,hd⟩
 |same _ ih=>
  rintro c hr vs ⟨v,l,h1,h2,rfl⟩
  obtain⟨c',e,h3,h4,h5⟩:=ih hr h2
  exact⟨c',e,h3,h4,v,l,Den.le h4.le _ _ h1,h5,rfl⟩
 |ax _ ih=>
  rintro c hr vs ⟨v,l,h1,h2,rfl⟩
  obtain⟨c',e,h3,h4,h5⟩:=ih hr h2
  exact⟨c',e,h3,h4,v,l,tB .ax v h1,h5,rfl⟩
 |aE _ ih=>
  rintro c hr vs ⟨v,l,h1,h2,rfl⟩
  obtain⟨c',e,h3,h4,h5⟩:=ih hr h2
  exact⟨c',e,h3,h4,v,l,Den.le h4.le _ _ (tB (.aE _ _) v h1),h5,rfl⟩
 |own hk h ih=>
  rintro c hr vs ⟨v,l,h1,h2,rfl⟩
  obtain⟨c1,e1,r1,s1,d1⟩:=oX hk hr
  obtain⟨c',e,h3,h4,h5⟩:=ih r1 (aJ.le s1.le _ _ h2)
  exact⟨c',e.trans e1,h3,s1.trans h4 (Tp _) (VJ h.eP.2.symm),v,l,Den.le h4.le _ _ (d1 v h1),h5,rfl⟩
 |agg ha hb ih1 ih2=>
  rintro c hr vs ⟨v,l,⟨xs,h1,rfl⟩,h2,rfl⟩
  obtain⟨c1,e1,r1,s1,d1⟩:=ih1 hr h1
  obtain⟨c',e,h3,h4,h5⟩:=ih2 r1 (aJ.le s1.le _ _ h2)
  exact⟨c',e.trans e1,h3,s1.trans h4 ha.eP.1.next hb.eP.1.next,_,l,⟨xs,aJ.le h4.le _ _ d1,rfl⟩,h5,rfl⟩
 |ptr h0 ha hk hf hb ih1 ih2=>
  rintro c hr vs ⟨v,vl,h1,h2,rfl⟩
  obtain⟨lc,g1,g2⟩:=hr.dF _ _ h0
  cases lc with
  |row=>exact g2.elim
  |box b=>
   obtain⟨arr,e,g3,g4,_⟩:=g2
   obtain⟨c1,e1,r1,s1,d1⟩:=ih1 hr g4
   obtain⟨c2,e2,r2,s2,d2⟩:=xn hk r1 (hZ hf) fun b' arr' e' h3 h4=>by
    rw[e1,g1] at h3
    cases h3
    rw[g3] at h4
    cases h4
    exact d1
   obtain⟨c',e3,h4,h5,h6⟩:=ih2 r2 (aJ.le s2.le _ _ (aJ.le s1.le _ _ h2))
   exact⟨c',e3.trans (e2.trans e1),h4,(s1.trans s2 ha.eP.1.next (Tp _)).trans h5 (TR ha.eP.1.next (Tp _)) hb.eP.1.next,v,vl,Den.le h5.le _ _ (d2 _ v (Den.le s1.le _ _ h1)),h6,rfl⟩
 |still hk hf _ ih=>
  rintro c hr vs ⟨v,l,h1,h2,rfl⟩
  obtain⟨c',e,h3,h4,h5⟩:=ih hr h2
  exact⟨c',e,h3,h4,v,l,Den.le h4.le _ _ (HJ hk hr (hZ hf) h1),h5,rfl⟩
 |func ha hb hc ih1 ih2 ih3=>
  rintro c hr vs ⟨v,l,⟨xs,ys,h1,h2,rfl⟩,h3,rfl⟩
  obtain⟨c1,e1,r1,s1,d1⟩:=ih1 hr h1
  obtain⟨c2,e2,r2,s2,d2⟩:=ih2 r1 (aJ.le s1.le _ _ h2)
  obtain⟨c',e,h4,h5,h6⟩:=ih3 r2 (aJ.le s2.le _ _ (aJ.le s1.le _ _ h3))
  exact⟨c',e.trans (e2.trans e1),h4,(s1.trans s2 ha.eP.1.next hb.eP.1.next).trans h5 (TR ha.eP.1.next hb.eP.1.next) hc.eP.1.next,_,l,⟨xs,ys,aJ.le h5.le _ _ (aJ.le s2.le _ _ d1),aJ.le h5.le _ _ d2,rfl⟩,h6,rfl⟩
def Ta (fz:Nat->Nat->Option Value) (w:World):Prop:=∀b i v,fz b i=some v->∃arr e f,w.heap[b]? =some (.cells arr e f)/\arr[i]? =some v
def bare (fz:Nat->Nat->Option Value):Ctx:=⟨fun _=>none,fz⟩
def Aft (fz:Nat->Nat->Option Value) (w:World) (s:SVal) (v:Value) (w':World):Prop:=
 ∃fz',(∀b i v,fz b i=some v->fz' b i=some v)/\(∀b i v,fz' b i=some v->fz b i=some v\/w.heap.size<=b)/\Ta fz' w'/\df w w'/\Den (bare fz') s v
structure lz (P:Program) (f:FuncId) (args:List SVal) (s:SVal):Prop where
 body:Hn P f
 Mu:aw args=true
 cres:closed s=true
 ok:∀{fz:Nat->Nat->Option Value} {w:World} {vs:List Value},Ta fz w->aJ (bare fz) args vs->Calls P f vs.toArray w fun e w'=>∃v,e= .returned v/\Aft fz w s v w'
theorem kF {st:St} {c:Ctx} {w w':World} {fz':Nat->Nat->Option Value} (hr:dD c st.look w) (g:df w w') (h1:∀b i v,c.fz b i=some v->fz' b i=some v) (h2:∀b i v,fz' b i=some v->c.fz b i=some v\/w.heap.size<=b) (h3:Ta fz' w'):
  dD ⟨c.ρ,fz'⟩ st.look w'/\Step st.next st.next c st.look w ⟨c.ρ,fz'⟩ st.look w':=by
 have hle:Le c ⟨c.ρ,fz'⟩:=⟨fun _ l h=>⟨l,h,dz.refl l⟩,h1⟩
 refine⟨⟨fun k o hk=> ?_,hr.sep,h3⟩,⟨hle,fun _ _ h=>h,fun _ _ h h'=>⟨h,h'⟩,g.os,g.tape,g.output,g.size,fun r hr' _=>g.old r hr',fun _ h=> .inl h,fun b i v hv=>(h2 b i v hv).imp id .inr⟩⟩
 obtain⟨l,h4,h5⟩:=hr.dF k o hk
 refine⟨l,h4,h5.sF hle (fun b hb=>g.old b (h5.lt hb)) fun b hb i v hv=> ?_⟩
 rcases h2 b i v hv with h|h
 ·exact h
 ·have:=h5.lt hb;omega
section
variable {P:Program} {E:Env} {o:Oper} {ev:jA} {st st':St}
theorem Ke {d:Go.Call} {fop:Operand} {f:FuncId} {first cap ss args:List SVal} {s:SVal} (ho:o.op= .call d) (hc:d.callee= .value fop) (hf:ev fop=some (.func (.func f) first cap)) (hev:lZ ev d.args.toList=some ss) (ha:cG (first++(ss++cap))=args) (h:lz P f args s):bD P o ev st s st:=
 ⟨by simp[ho],eJ.refl _,fun{c w} hr hwf hfr {e} he a next Q hn=>by
  obtain⟨vs,h1,h2⟩:=jb (P:=P) ho hc hf hev he
  obtain⟨fn,body,g1,g2,g3⟩:=h.body
  rw[h2]
  have hd:aJ (bare c.fz) args vs:=aJ.free (c:=c) (c':=bare c.fz) (fun _ _ _ h=>h) _ _ h.Mu (ha▸gB _ _ h1)
  refine eW g1 g2 g3 (h.ok hr.fz hd) o a next Q fun v w' ⟨fz',h4,h5,h6,h7,h8⟩=> ?_
  obtain⟨r1,s1⟩:=kF hr h7 h4 h5 h6
  exact hn ⟨c.ρ,fz'⟩ v w' ⟨Den.free (c:=bare fz') (c':=⟨c.ρ,fz'⟩) (fun _ _ _ h=>h) _ _ h.cres h8,r1,s1⟩⟩
theorem zj {d:Go.Call} {fop:Operand} {f:FuncId} {first cap ss args:List SVal} {s:SVal} (ho:o.op= .call d) (hc:d.callee= .value fop) (hf:ev fop=some (.func (.func f) first cap)) (hev:lZ ev d.args.toList=some ss) (ha:iN st (first++(ss++cap)) args st') (h:lz P f args s):bD P o ev st s st':=
 ⟨by simp[ho],ha.eP.1,fun{c w} hr hwf hfr {e} he a next Q hn=>by
  obtain⟨vs,h1,h2⟩:=jb (P:=P) ho hc hf hev he
  obtain⟨fn,body,g1,g2,g3⟩:=h.body
  rw[h2]
  obtain⟨c1,e1,r1,s1,d1⟩:=ha.ok hr h1
  have hd:aJ (bare c1.fz) args vs:=aJ.free (c:=c1) (c':=bare c1.fz) (fun _ _ _ h=>h) _ _ h.Mu d1
  refine eW g1 g2 g3 (h.ok r1.fz hd) o a next Q fun v w' ⟨fz',h4,h5,h6,h7,h8⟩=> ?_
  obtain⟨r2,s2⟩:=kF r1 h7 h4 h5 h6
  exact hn ⟨c1.ρ,fz'⟩ v w' ⟨Den.free (c:=bare fz') (c':=⟨c1.ρ,fz'⟩) (fun _ _ _ h=>h) _ _ h.cres h8,r2,s1.trans s2 ha.eP.1.next (Tp _)⟩⟩
mutual
def sS:SVal->Bool
 | .bool _=>true
 | .int _ _=>true
 | .str _=>true
 | .ax=>true
 | .agg l=>mf l
 | .dT l=>mf l
 |_=>false
def mf:List SVal->Bool
 |[]=>true
 |s::r=>sS s&&mf r
end
mutual
theorem rR {c c':Ctx}:∀(s:SVal) (v:Value),sS s=true->Den c s v->Den c' s v
 | .bool _,_,_,h=>h
 | .int _ _,_,_,h=>h
 | .str _,_,_,h=>h
 | .ax,_,_,h=>h
 | .agg l,_,k,⟨vs,h1,h2⟩=>⟨vs,kV l vs k h1,h2⟩
 | .dT l,_,k,⟨vs,h1,h2⟩=>⟨vs,kV l vs k h1,h2⟩
theorem kV {c c':Ctx}:∀(l:List SVal) (vs:List Value),mf l=true->aJ c l vs->aJ c' l vs
 |[],_,_,h=>h
 |s::r,_,k,⟨v,l,h1,h2,h3⟩=>by
  rw[mf,Tw] at k
  exact⟨v,l,rR s v k.1 h1,kV r l k.2 h2,h3⟩
end
theorem wF {d:Go.Call} {fop:Operand} {f:FuncId} {first cap ss args:List SVal} {s:SVal} (ho:o.op= .call d) (hc:d.callee= .value fop) (hf:ev fop=some (.func (.func f) first cap)) (hev:lZ ev d.args.toList=some ss) (ha:iN st (first++(ss++cap)) args st') (hs:sS s=true) (h:lz P f args s):bD P o ev st s st:=
 ⟨by simp[ho],eJ.refl _,fun{c w} hr hwf hfr {e} he a next Q hn=>by
  obtain⟨vs,h1,h2⟩:=jb (P:=P) ho hc hf hev he
  obtain⟨fn,body,g1,g2,g3⟩:=h.body
  rw[h2]
  obtain⟨c1,e1,r1,s1,d1⟩:=ha.ok hr h1
  have hd:aJ (bare c1.fz) args vs:=aJ.free (c:=c1) (c':=bare c1.fz) (fun _ _ _ h=>h) _ _ h.Mu d1
  refine eW g1 g2 g3 (h.ok r1.fz hd) o a next Q fun v w' ⟨fz',h4,h5,h6,h7,h8⟩=> ?_
  obtain⟨r2,s2⟩:=kF (fz':=c.fz) hr h7 (fun _ _ _ h=>h) (fun _ _ _ h=> .inl h) fun b i v hv=>h6 b i v (h4 b i v (s1.le.fz b i v hv))
  exact hn ⟨c.ρ,c.fz⟩ v w' ⟨rR _ _ hs h8,r2,s2⟩⟩
end
theorem p7 {P:Program} {fn:Func} {tmps:Array Value} {R:Ending->World->Prop}:∀(bs:List Nat) (W:World),bs.Nodup->(∀b∈bs,W.heap[b]? =some (.deferred (some [])))->
  (∀W':World,W'.os=W.os->W'.tape=W.tape->W'.output=W.output->W'.heap.size=W.heap.size->(∀r,r∉bs->W'.heap[r]? =W.heap[r]?)->LeavesIn Fence.wide 0 P fn tmps R [] .returning W')->
  LeavesInM Fence.wide 0 P fn tmps R (bs.map ra) .returning W
 |[],W,_,_,h=>h W rfl rfl rfl rfl fun _ _=>rfl
 |b::bs,W,hn,hd,h=>by
  obtain⟨n1,n2⟩:=Vr.1 hn
  refine⟨by simp,.inl ⟨b,W.putObj b (.deferred none),rfl,run_takeDeferred (hd b (.head _)),p7 bs _ n2 (fun b' hb'=> ?_) fun W' e1 e2 e3 e4 e5=> ?_⟩⟩
  ·have hne:b'≠b:=fun e=>n1 (e▸hb')
   exact(World.putObj_heap_other ii).trans (hd b' (.tail _ hb'))
  ·refine h W' e1 e2 e3 (e4.trans (by simp[World.putObj])) fun r hr=> ?_
   have hne:r≠b:=fun e=>hr (e▸.head _)
   exact(e5 r fun hm=>hr (.tail _ hm)).trans (World.putObj_heap_other ii)
theorem IA {lo:Nat} {c0 c:Ctx} {H0 H:gx} {w0 w W:World} (hr:dD c H w) (hs:eh lo c0 H0 w0 c H w) {bs:List Nat} (hb:∀b∈bs,w0.heap.size<=b/\w.heap[b]? =some (.deferred (some [])))
  (e1:W.os=w.os) (e2:W.tape=w.tape) (e3:W.output=w.output) (e4:W.heap.size=w.heap.size) (e5:∀r,r∉bs->W.heap[r]? =w.heap[r]?):dD c H W/\eh lo c0 H0 w0 c H W:=by
 refine⟨⟨fun k o hk=> ?_,hr.sep,fun b i v hv=> ?_⟩,⟨hs.le,hs.fz,hs.off,hs.hid,e1.trans hs.os,e2.trans hs.tape,e3.trans hs.output,by rw[e4];exact hs.size,fun r h1 h2=>(e5 r fun hm=>by have:=(hb r hm).1;omega).trans (hs.kept r h1 h2),hs.owns,hs.wR⟩⟩
 ·obtain⟨l,h1,h2⟩:=hr.dF k o hk
  refine⟨l,h1,h2.sF (Le.refl c) (fun b hlb=>e5 _ fun hm=> ?_) fun _ _ _ _ h=>h⟩
  obtain⟨y,h3,h4⟩:=rY h2 hlb
  rw[(hb b hm).2] at h3
  cases h3
  exact h4 _ rfl
 ·obtain⟨arr,e,f,h1,h2⟩:=hr.fz b i v hv
  refine⟨arr,e,f,(e5 b fun hm=> ?_).trans h1,h2⟩
  rw[(hb b hm).2] at h1
  cases h1
inductive pj (E:Env) (fr:Fr) (st:St):List ResultVar->List SVal->Prop where
 |nil:pj E fr st [] []
 |tmp {t:Nat} {s:SVal} {l:List ResultVar} {ss:List SVal}:fr.get t=some s->pj E fr st l ss->pj E fr st (.tmp t::l) (s::ss)
 |cell {b:Nat} {t:TypeId} {p s:SVal} {cs:List SVal} {l:List ResultVar} {ss:List SVal}:fr.get b=some p->lA st p cs->r7 E t cs=some s->pj E fr st l ss->pj E fr st (.cell b t::l) (s::ss)
def xy (tmps:Array Value):ResultVar->Sem Value
 | .tmp t=>pure (tmps.getD t undef)
 | .cell b t=>do loadVar t (<-asAddr (tmps.getD b undef))
theorem Eg (fn:Func) (tmps:Array Value):results fn tmps=(do
  let vs<-fn.results.mapM (xy tmps)
  pure (if h:vs.size=1 then vs[0] else .tuple vs):Sem Value):=by
 unfold results
 refine Ub (fun f=>(fn.results.mapM f>>=fun vs=>pure (if h:vs.size=1 then vs[0] else .tuple vs):Sem Value)) (funext fun x=> ?_)
 cases x<;>rfl
theorem pj.ok {D:List Deferred} {P:Program} {E:Env} (hE:bt P E) {fr:Fr} {st:St} {l:List ResultVar} {ss:List SVal} (h:pj E fr st l ss) {c:Ctx} {w:World} {a:Act} (hr:dD c st.look w) (hf:lC D c fr a):
  ∃vs,aJ c ss vs/\(l.mapM (xy a.tmps)).run P w= .ok vs w:=by
 induction h with
 |nil=>exact⟨[],rfl,rfl⟩
 |tmp h1 _ ih=>
  rename_i t s l ss _
  obtain⟨vs,h2,h3⟩:=ih
  obtain⟨v,h4,h5⟩:=hf.get _ _ h1
  refine⟨v::vs,⟨v,vs,h5,h2,rfl⟩,?_⟩
  rw[List.mapM_cons]
  have:(xy a.tmps (.tmp t)).run P w= .ok v w:=by simp[xy,Uj,h4]
  simp only[Sem.run_bind,Result.andThen_ok,this,h3,Sem.run_pure]
 |cell h1 h6 h7 _ ih=>
  rename_i bb tt p s cs l ss _
  obtain⟨vs,h2,h3⟩:=ih
  obtain⟨u,h4,h5⟩:=hf.get _ _ h1
  obtain⟨b,off,rfl,h8⟩:=h6.spec hr h5
  obtain⟨v,h9,h10⟩:=uG (P:=P) hE h8 h7
  refine⟨v::vs,⟨v,vs,h9,h2,rfl⟩,?_⟩
  rw[List.mapM_cons]
  have:(xy a.tmps (.cell bb tt)).run P w= .ok v w:=by simp only[xy,Uj,h4,VS,asAddr,Sem.run_bind,Sem.run_pure,Result.andThen_ok,h10]
  simp only[Sem.run_bind,Result.andThen_ok,this,h3,Sem.run_pure]
def oN:List SVal->SVal
 |[v]=>v
 |vs=> .dT vs
theorem Ky {c:Ctx} {ss:List SVal} {vs:List Value} (h:aJ c ss vs):Den c (oN ss) (if h:vs.toArray.size=1 then vs.toArray[0] else .tuple vs.toArray):=by
 match ss,h with
 |[],h=>cases h;exact⟨[],rfl,rfl⟩
 |[s],⟨v,l,h1,h2,h3⟩=>
  cases h2
  subst h3
  exact h1
 |s::s2::r,⟨v,l,h1,⟨v2,l2,h3,h4,h5⟩,h6⟩=>
  subst h5 h6
  have:¬((v::v2::l2).toArray.size=1):=by simp
  rw[dif_neg this]
  exact⟨_,⟨v,_,h1,⟨v2,l2,h3,h4,rfl⟩,rfl⟩,rfl⟩
def sk:Ex->Bool
 | .exit _=>false
 |_=>true
def Jm:Nat->List SVal->List (Nat×SVal)
 |_,[]=>[]
 |i,s::r=>(i,s)::Jm (i+1) r
theorem Dj:∀{l:List SVal} {i t:Nat} {s:SVal},bx (Jm i l) t=some s->i<=t/\l[t-i]? =some s
 |[],_,_,_,h=>by cases h
 |x::r,i,t,s,h=>by
  rw[Jm,bZ] at h
  split at h
  ·rename_i e
   cases h
   have e:i=t:=e
   subst e
   simp
  ·rename_i e
   have e:¬i=t:=e
   obtain⟨h1,h2⟩:=Dj h
   refine⟨by omega,?_⟩
   rw[show t-i=(t-(i+1))+1 by omega]
   simpa using h2
noncomputable def entry (fn:Func) (args:List SVal):Fr:=⟨args.length+(fn.ntmps-args.length),Jm 0 args⟩
theorem vQ {P:Program} {E:Env} (hE:bt P E) {f:FuncId} {fn:Func} (hf:E.funcs.get f=some fn) {body:Code} (hb:fn.body=some body) {lo:Nat} {args:List SVal} {st:St} {Φ:Ex->Fr->St->Prop} (h:W P lo body (entry fn args) st Φ)
  {c:Ctx} {w:World} (hr:dD c st.look w) (hwf:Wf st) (hdom:∀k,st.next<=k->c.ρ k=none) (hlo:lo<=st.next) (hm:st.mark<=lo) {vs:List Value} (hd:aJ c args vs) {R:Ending->World->Prop}
  (hR:∀x fr' st' c' w',Φ x fr' st'->dD c' st'.look w'->Wf st'->eh lo c st.look w c' st'.look w'->rI lo st st'->(∀k,st'.next<=k->c'.ρ k=none)->sk x=true/\∃ss,pj E fr' st' fn.results.toList ss/\∀v,Den c' (oN ss) v->R (.returned v) w'):Calls P f vs.toArray w R:=by
 obtain⟨g1,g2⟩:=hE.funcs f fn hf
 refine callsIn_wide.1 (callsIn_of_wp_marks (n:=0) g1 hb trivial (h (ro:=none) (B:=w.heap.size) (D:=[]) ⟨hr,hwf,hdom,(⟨?_,fun t s ht=> ?_,rfl⟩:lC [] c (entry fn args) {tmps:=vs.toArray++Array.replicate (fn.ntmps-vs.toArray.size) undef,defers:=[]}),JC.nil _ _,Tp _,hlo,hm⟩ (.inl rfl) fun x fr' st' D' c' a' w' h1 h2 h3 h4 _=> ?_).wp)
 ·have hl:=hd.length
  show(vs.toArray++Array.replicate (fn.ntmps-vs.toArray.size) undef).size=args.length+(fn.ntmps-args.length)
  simp[hl]
 ·obtain⟨_,h3⟩:=Dj (show bx (Jm 0 args) t=some s from ht)
  obtain⟨v,h7,h8⟩:=hd.get h3
  refine⟨v,?_,h8⟩
  rw[Vi] at h7
  have:t<vs.length:=(Tk.1 h7).1
  show(vs.toArray++Array.replicate (fn.ntmps-vs.toArray.size) undef)[t]? =some v
  rw[Array.getElem?_append_left (by simpa using this)]
  simpa using h7
 ·obtain⟨bs,d1,d2,d3⟩:=h2.Ep
  have fin:LeavesInM Fence.wide 0 P fn a'.tmps R a'.defers .returning w'/\sk x=true:=by
   refine⟨?_,(hR x fr' st' c' w' h1 h2.rep h2.wf h3 h4 h2.wW).1⟩
   rw[h2.fr.defers,d1]
   refine p7 bs w' d2 (fun b hb=>(d3 b hb).2) fun W e1 e2 e3 e4 e5=> ?_
   obtain⟨r1,s1⟩:=IA h2.rep h3 d3 e1 e2 e3 e4 e5
   obtain⟨_,ss,h5,h6⟩:=hR x fr' st' c' W h1 r1 h2.wf s1 h4 h2.wW
   obtain⟨rs,h7,h8⟩:=h5.ok hE (P:=P) r1 h2.fr
   have hres:(results fn a'.tmps).run P W= .ok (if h:rs.toArray.size=1 then rs.toArray[0] else .tuple rs.toArray) W:=by
    rw[Eg,Array.mapM_eq_mapM_toList,Sem.run_bind]
    simp only[Sem.run_map,h8,Result.andThen_ok,Sem.run_pure]
   exact⟨_,hres,h6 _ (Ky h7)⟩
  cases x with
  |normal=>exact fin.1
  |ret=>exact fin.1
  |exit id=>cases fin.2
theorem Om {P:Program} {E:Env} (hE:bt P E) {f:FuncId} {fn:Func} (hf:E.funcs.get f=some fn) {body:Code} (hb:fn.body=some body) {args:List SVal} {s:SVal} (hc:aw args=true)
  (h:W P 0 body (entry fn args) ⟨[],0,0,[],[]⟩ fun x fr' st'=>sk x=true/\∃ss,pj E fr' st' fn.results.toList ss/\∃ss' st2,iN st' ss ss' st2/\oN ss'=s) (hs:closed s=true):lz P f args s:=by
 obtain⟨g1,g2⟩:=hE.funcs f fn hf
 refine⟨⟨fn,body,g1,g2,hb⟩,hc,hs,fun{fz w vs} hfz hd=> ?_⟩
 have h0:∀k,(St.mk [] 0 0 [] []).look k=none:=fun k=>by rw[look_eq];rfl
 refine vQ hE hf hb h (c:=bare fz) (w:=w) ⟨fun k o hk=>(by rw[h0] at hk;cases hk),fun k j o o' l l' r hk=>(by rw[h0] at hk;cases hk),hfz⟩ ⟨fun _ _=>rfl,fun k hk=>(by cases hk),Tp _⟩ (fun _ _=>rfl) (Tp _) (Tp _) hd ?_
 rintro x fr' st' c' w' ⟨he,ss,h1,ss',st2,h2,rfl⟩ h3 h4 h5 h6 h7
 refine⟨he,ss,h1,fun v hv=>⟨v,rfl,?_⟩⟩
 have noown:∀r,¬fN (bare fz) (St.mk [] 0 0 [] []).look r:=fun r ⟨k,o,l,hk,_⟩=>by rw[h0] at hk;cases hk
 have gr:df w w':=⟨h5.os,h5.tape,h5.output,h5.size,fun r hr=>h5.kept r hr (noown r)⟩
 have hv':∃c2,dD c2 st2.look w'/\Step st'.next st2.next c' st'.look w' c2 st2.look w'/\Den c2 (oN ss') v:=by
  match ss,h2,hv with
  |[],h2,hv=>cases h2;exact⟨c',h3,Step.refl _ _ _ _,hv⟩
  |[a],h2,hv=>
   obtain⟨c2,_,r2,s2,d2⟩:=h2.ok h3 (vs:=[v]) ⟨v,[],hv,rfl,rfl⟩
   have:∃b,ss'=[b]:=by cases h2<;>(rename_i hh;cases hh;exact⟨_,rfl⟩)
   obtain⟨b,rfl⟩:=this
   obtain⟨u,l,d3,d4,e⟩:=d2
   cases d4
   cases e
   exact⟨c2,r2,s2,d3⟩
  |a::b::r,h2,⟨us,hvs,e⟩=>
   subst e
   obtain⟨c2,_,r2,s2,d2⟩:=h2.ok h3 hvs
   have:∃a' b' r',ss'=a'::b'::r':=by cases h2<;>(rename_i hh;cases hh<;>exact⟨_,_,_,rfl⟩)
   obtain⟨a',b',r',rfl⟩:=this
   exact⟨c2,r2,s2,us,d2,rfl⟩
 obtain⟨c2,r2,s2,d2⟩:=hv'
 refine⟨c2.fz,fun b i v hv=>s2.le.fz b i v (h5.fz b i v hv),fun b i v hv=> ?_,r2.fz,gr,Den.free (c:=c2) (c':=bare c2.fz) (fun _ _ _ h=>h) _ _ hs d2⟩
 rcases s2.wR b i v hv with e|e|e
 ·rcases h5.wR b i v e with e|e|e
  ·exact .inl e
  ·exact absurd e (noown b)
  ·exact .inr e
 ·rcases h5.owns b e with e|e
  ·exact absurd e (noown b)
  ·exact .inr e
 ·exact .inr (TR h5.size e)
theorem R6 {st st':St} {ss ss':List SVal} (h:iN st ss ss' st') {c:Ctx} {w:World} (hr:dD c st.look w) {v:Value} (hv:Den c (oN ss) v):∃c2,dD c2 st'.look w/\Step st.next st'.next c st.look w c2 st'.look w/\Den c2 (oN ss') v:=by
 match ss,h,hv with
 |[],h,hv=>cases h;exact⟨c,hr,Step.refl _ _ _ _,hv⟩
 |[a],h,hv=>
  obtain⟨c2,_,r2,s2,d2⟩:=h.ok hr (vs:=[v]) ⟨v,[],hv,rfl,rfl⟩
  have:∃b,ss'=[b]:=by cases h<;>(rename_i hh;cases hh;exact⟨_,rfl⟩)
  obtain⟨b,rfl⟩:=this
  obtain⟨u,l,d3,d4,e⟩:=d2
  cases d4
  cases e
  exact⟨c2,r2,s2,d3⟩
 |a::b::r,h,⟨us,hvs,e⟩=>
  subst e
  obtain⟨c2,_,r2,s2,d2⟩:=h.ok hr hvs
  have:∃a' b' r',ss'=a'::b'::r':=by cases h<;>(rename_i hh;cases hh<;>exact⟨_,_,_,rfl⟩)
  obtain⟨a',b',r',rfl⟩:=this
  exact⟨c2,r2,s2,us,d2,rfl⟩
theorem At {P:Program} {E:Env} (hE:bt P E) {f:FuncId} {fn:Func} (hf:E.funcs.get f=some fn) {body:Code} (hb:fn.body=some body) {args:List SVal} {s:SVal} {st st2:St} (hsta:eJ st st2) (hnb:∀k o,bx st.heap k=some o->gK st.next o=true) (hna:cY st.next args=true)
  (h:W P st.next body (entry fn args) st fun x fr' st'=>sk x=true/\∃ss,pj E fr' st' fn.results.toList ss/\∃ss' st3,iN st' ss ss' st3/\oN ss'=s/\kO st.next st2 st3/\nb st2.next s=true):gX P f args st s st2:=by
 obtain⟨g1,g2⟩:=hE.funcs f fn hf
 refine⟨⟨fn,body,g1,g2,hb⟩,hsta,fun{c w} hr hwf hfree vs hd=> ?_⟩
 have cut:∀k,k<st.next->(lS st.next c).ρ k=c.ρ k:=fun k hk=>dZ c hk
 have lt:∀k o,st.look k=some o->k<st.next:=fun k o hk=>by
  rcases TX k st.next with q|q
  ·exact q
  ·have:=(cR hk).1;rw[hwf.none k q] at this;cases this
 have hr0:dD (lS st.next c) st.look w:=⟨fun k o hk=>by
  obtain⟨l,h1,h2⟩:=hr.dF k o hk
  exact⟨l,(cut k (lt k o hk)).trans h1,h2.low cut rfl (hnb k o (cR hk).1)⟩,fun k j o o' l l' r hk hj hne h1 h2=>by
  rw[cut k (lt k o hk)] at h1
  rw[cut j (lt j o' hj)] at h2
  exact hr.sep k j o o' l l' r hk hj hne h1 h2,hr.fz⟩
 have hd0:aJ (lS st.next c) args vs:=aJ.low cut (fun _ _ _ h=>h) _ _ hna hd
 refine vQ hE hf hb h hr0 hwf (fun k hk=>Ti ii) (Tp _) hwf.mark hd0 ?_
 rintro x fr' st0 c00 w' ⟨he,ss,h1,ss',st',hfz,rfl,hless,hns⟩ h3' h4 h5' h6 h7
 refine⟨he,ss,h1,fun v hv'=>⟨v,rfl,?_⟩⟩
 obtain⟨c1,h3,hst,hv⟩:=R6 hfz h3' hv'
 have h5:=h5'.trans (hst.c (lo:=st.next) (by rw[<-hfz.eP.2];exact TR hless.low hless.next))
 let c2:Ctx:=⟨fun k=>if k<st2.next then c1.ρ k else c.ρ k,c1.fz⟩
 have low2:∀k,k<st2.next->c2.ρ k=(lS st2.next c1).ρ k:=fun k hk=>by
  show(if k<st2.next then c1.ρ k else c.ρ k)=(if k<st2.next then c1.ρ k else none)
  rw[Th hk,Th hk]
 have r1:=hless.rep h3
 have lt2:∀k o,st2.look k=some o->k<st2.next:=fun k o hk=>(hless.heap k o (cR hk).1).2.2
 have r2:dD c2 st2.look w':=⟨fun k o hk=>by
  obtain⟨l,g3,g4⟩:=r1.dF k o hk
  exact⟨l,(low2 k (lt2 k o hk)).trans g3,g4.low low2 rfl (hless.look hk).2⟩,fun k j o o' l l' r hk hj hne g3 g4=>by
  rw[low2 k (lt2 k o hk)] at g3
  rw[low2 j (lt2 j o' hj)] at g4
  exact r1.sep k j o o' l l' r hk hj hne g3 g4,r1.fz⟩
 have ownc:∀r,fN (lS st.next c) st.look r->fN c st.look r:=fun r ⟨k,o,l,hk,g3,g4⟩=>⟨k,o,l,hk,by rw[cut k (lt k o hk)] at g3;exact g3,g4⟩
 have own2:∀r,fN c2 st2.look r->fN c1 st'.look r:=fun r ⟨k,o,l,hk,g3,g4⟩=>⟨k,o,l,(hless.look hk).1,by
  rw[low2 k (lt2 k o hk),dZ c1 (lt2 k o hk)] at g3
  exact g3,g4⟩
 have hnx:=hless.low
 refine⟨c2,⟨Den.low (c:=c1) (c':=c2) (m:=st2.next) (fun k hk=>Th hk) (fun _ _ _ h=>h) _ _ hns hv,r2,⟨⟨fun k l e=> ?_,h5.fz⟩,fun k hk e=> ?_,fun k l e e'=> ?_,h5.os,h5.tape,h5.output,h5.size,fun r hr hn=>h5.kept r hr fun ho=>hn (ownc r ho),fun r ho=>(h5.owns r (own2 r ho)).imp (ownc r) id,fun b i v hv=>(h5.wR b i v hv).imp id fun e=>e.imp (ownc b) id⟩⟩⟩
 ·by_cases q:k<st.next
  ·obtain⟨l',e1,e2⟩:=h5.le k l q (by rw[cut k q];exact e)
   exact⟨l',(Th ii).trans e1,e2⟩
  ·by_cases q2:k<st2.next
   ·rw[hfree k ii q2] at e;cases e
   ·exact⟨l,(Ti q2).trans e,dz.refl l⟩
 ·rcases hk with q|q
  ·exact(Th ii).trans (h5.off k q (by rw[cut k q];exact e))
  ·exact(Ti ii).trans e
 ·by_cases q:k<st.next
  ·obtain⟨e1,e2⟩:=h5.hid k l q e (by rw[cut k q];exact e')
   refine⟨?_,(Th ii).trans e2⟩
   cases hx:st2.look k with
   |none=>rfl
   |some o=>rw[(hless.look hx).1] at e1;cases e1
  ·by_cases q2:k<st2.next
   ·rw[hfree k ii q2] at e';cases e'
   ·refine⟨?_,(Ti q2).trans e'⟩
    cases hx:st2.look k with
    |none=>rfl
    |some o=>exact absurd (lt2 k o hx) q2
structure QO (st:St) (c:Ctx) (w:World):Prop where
 rep:dD (lS st.next c) st.look w
 own:∀r,fN (lS st.next c) st.look r->fN c st.look r
theorem Ly {st:St} {c:Ctx} {w:World} (hr:dD c st.look w) (hwf:Wf st) (hnb:∀k o,bx st.heap k=some o->gK st.next o=true):QO st c w:=by
 have cut:∀k,k<st.next->(lS st.next c).ρ k=c.ρ k:=fun k hk=>dZ c hk
 have lt:∀k o,st.look k=some o->k<st.next:=fun k o hk=>by
  rcases TX k st.next with q|q
  ·exact q
  ·have:=(cR hk).1;rw[hwf.none k q] at this;cases this
 refine⟨⟨fun k o hk=> ?_,fun k j o o' l l' r hk hj hne h1 h2=> ?_,hr.fz⟩,fun r ⟨k,o,l,hk,g3,g4⟩=>⟨k,o,l,hk,by rw[cut k (lt k o hk)] at g3;exact g3,g4⟩⟩
 ·obtain⟨l,h1,h2⟩:=hr.dF k o hk
  exact⟨l,(cut k (lt k o hk)).trans h1,h2.low cut rfl (hnb k o (cR hk).1)⟩
 ·rw[cut k (lt k o hk)] at h1
  rw[cut j (lt j o' hj)] at h2
  exact hr.sep k j o o' l l' r hk hj hne h1 h2
theorem II {st st2 st':St} {c c1:Ctx} {w w':World} (hi:QO st c w) (hfree:pk c st.next st2.next) (h3:dD c1 st'.look w') (h5:eh st.next (lS st.next c) st.look w c1 st'.look w') (hless:kO st.next st2 st') {s:SVal} {v:Value} (hv:Den c1 s v) (hns:nb st2.next s=true):
  ∃c2,Good st st2 s c w c2 v w':=by
 have cut:∀k,k<st.next->(lS st.next c).ρ k=c.ρ k:=fun k hk=>dZ c hk
 let c2:Ctx:=⟨fun k=>if k<st2.next then c1.ρ k else c.ρ k,c1.fz⟩
 have low2:∀k,k<st2.next->c2.ρ k=(lS st2.next c1).ρ k:=fun k hk=>by
  show(if k<st2.next then c1.ρ k else c.ρ k)=(if k<st2.next then c1.ρ k else none)
  rw[Th hk,Th hk]
 have r1:=hless.rep h3
 have lt2:∀k o,st2.look k=some o->k<st2.next:=fun k o hk=>(hless.heap k o (cR hk).1).2.2
 have r2:dD c2 st2.look w':=⟨fun k o hk=>by
  obtain⟨l,g3,g4⟩:=r1.dF k o hk
  exact⟨l,(low2 k (lt2 k o hk)).trans g3,g4.low low2 rfl (hless.look hk).2⟩,fun k j o o' l l' r hk hj hne g3 g4=>by
  rw[low2 k (lt2 k o hk)] at g3
  rw[low2 j (lt2 j o' hj)] at g4
  exact r1.sep k j o o' l l' r hk hj hne g3 g4,r1.fz⟩
 have own2:∀r,fN c2 st2.look r->fN c1 st'.look r:=fun r ⟨k,o,l,hk,g3,g4⟩=>⟨k,o,l,(hless.look hk).1,by
  rw[low2 k (lt2 k o hk),dZ c1 (lt2 k o hk)] at g3
  exact g3,g4⟩
 have hnx:=hless.low
 refine⟨c2,⟨Den.low (c:=c1) (c':=c2) (m:=st2.next) (fun k hk=>Th hk) (fun _ _ _ h=>h) _ _ hns hv,r2,⟨⟨fun k l e=> ?_,h5.fz⟩,fun k hk e=> ?_,fun k l e e'=> ?_,h5.os,h5.tape,h5.output,h5.size,fun r hr hn=>h5.kept r hr fun ho=>hn (hi.own r ho),fun r ho=>(h5.owns r (own2 r ho)).imp (hi.own r) id,fun b i v hv=>(h5.wR b i v hv).imp id fun e=>e.imp (hi.own b) id⟩⟩⟩
 ·by_cases q:k<st.next
  ·obtain⟨l',e1,e2⟩:=h5.le k l q (by rw[cut k q];exact e)
   exact⟨l',(Th ii).trans e1,e2⟩
  ·by_cases q2:k<st2.next
   ·rw[hfree k ii q2] at e;cases e
   ·exact⟨l,(Ti q2).trans e,dz.refl l⟩
 ·rcases hk with q|q
  ·exact(Th ii).trans (h5.off k q (by rw[cut k q];exact e))
  ·exact(Ti ii).trans e
 ·by_cases q:k<st.next
  ·obtain⟨e1,e2⟩:=h5.hid k l q e (by rw[cut k q];exact e')
   refine⟨?_,(Th ii).trans e2⟩
   cases hx:st2.look k with
   |none=>rfl
   |some o=>rw[(hless.look hx).1] at e1;cases e1
  ·by_cases q2:k<st2.next
   ·rw[hfree k ii q2] at e';cases e'
   ·refine⟨?_,(Ti q2).trans e'⟩
    cases hx:st2.look k with
    |none=>rfl
    |some o=>exact absurd (lt2 k o hx) q2
def js:Ex->Option Code
 | .normal=>none
 | .exit id=>some (.exit id)
 | .ret=>some .ret
def dK:Ex->Bool
 | .normal=>true
 |_=>false
noncomputable def uj:List Nat->List SVal->Fr->Option Fr
 |[],[],fr=>some fr
 |p::ps,a::as,fr=>eH (fr.set p a) fun fr'=>uj ps as fr'
 |_,_,_=>none
theorem Kb {c:Ctx} {fr fr':Fr} {tmps:Array Value} {d:Nat} {s:SVal} {v:Value} (h:mO c fr tmps) (hs:fr.set d s=some fr') (hd:Den c s v):mO c fr' (tmps.setIfInBounds d v):=by
 obtain⟨h1,h2,h3⟩:=fm hs
 refine⟨by simp[h.1,h2],fun t s' ht=> ?_⟩
 rw[h3] at ht
 by_cases e:t=d
 ·subst e
  rw[Th rfl] at ht
  cases ht
  exact⟨v,by simp[h.1,h1],hd⟩
 ·rw[Ti e] at ht
  obtain⟨v',h4,h5⟩:=h.2 t s' ht
  exact⟨v',by simp[UL (UZ e),h4],h5⟩
theorem xz {c:Ctx}:∀{ps:List Nat} {as:List SVal} {fr fr':Fr} {tmps:Array Value} {vs:List Value},uj ps as fr=some fr'->aJ c as vs->mO c fr tmps->
  vs.length=ps.length/\mO c fr' ((ps.zip vs).foldl (fun t (p,v)=>t.setIfInBounds p v) tmps)
 |[],[],fr,fr',tmps,vs,h,hd,hs=>by
  cases h
  cases hd
  exact⟨rfl,hs⟩
 |p::ps,a::as,fr,fr',tmps,vs,h,⟨v,l,h3,h4,e⟩,hs=>by
  subst e
  have h:eH (fr.set p a) (fun fr'=>uj ps as fr')=some fr':=h
  rw[bf] at h
  obtain⟨fr1,h1,h2⟩:=h
  obtain⟨h5,h6⟩:=xz h2 h4 (Kb hs h1 h3)
  exact⟨by simp[h5],h6⟩
 |[],_::_,fr,fr',tmps,vs,h,_,_=>by cases h
 |_::_,[],fr,fr',tmps,vs,h,_,_=>by cases h
theorem pY {st:St} {c:Ctx} {w:World} (hr:dD c st.look w) {k b:Nat} {r:jz} (h:st.look k=some (.loop r)) (hb:c.ρ k=some (.box b)):∃x,w.heap[b]? =some (.loop x)/\sy c r x:=by
 obtain⟨l',h1,h2⟩:=hr.dF k _ h
 rw[hb] at h1
 cases h1
 exact h2
theorem ui (w:World) (r:Nat) (o:Obj):QP (some r) w (w.putObj r o):=
 ⟨rfl,rfl,rfl,by simp[World.putObj],fun x _ hx=>World.putObj_heap_other (by
  have:r≠x:=fun e=>hx (by rw[e])
  omega)⟩
theorem B5 {st:St} {c:Ctx} {w:World} (hr:dD c st.look w) {k b:Nat} {r r':jz} (hk:st.look k=some (.loop r)) (hb:c.ρ k=some (.box b)) {x:Loop} (hx:sy c r' x):
  dD c (st.put k (.loop r')).look (w.putObj b (.loop x))/\Step st.next (st.put k (.loop r')).next c st.look w c (st.put k (.loop r')).look (w.putObj b (.loop x)):=by
 obtain⟨y,h1,_⟩:=pY hr hk hb
 have hlt:b<w.heap.size:=(TI.1 h1).1
 refine eE (o':= .loop r') hr hk hb hb (dz.refl _) (fun _ _=>rfl) (fun _ _ _ h=>h) (fun _ _ _ h=> .inl h) (fun r hr=> .inl hr) (ui w b _) (fun b' i v hb' hv=> ?_) ⟨x,World.putObj_heap_same hlt,hx⟩
 cases hb'
 obtain⟨arr,ee,f,h6,_⟩:=hr.fz _ _ _ hv
 rw[h1] at h6
 cases h6
theorem L4 {st:St} {k b:Nat} {o:bm} {c:Ctx} {w w':World} (hr:dD c st.look w) (hk:st.look k=some o) (hb:c.ρ k=some (.box b)) (hw:QP (some b) w w') (hfz:∀i v,c.fz b i≠some v):
  dD c (st.drop k).look w'/\Step st.next (st.drop k).next c st.look w c (st.drop k).look w':=by
 obtain⟨r1,s1⟩:=L3 (k:=k) hr
 have old:∀m om,(st.drop k).look m=some om->m≠k/\st.look m=some om:=fun m om hm=>by
  rw[look_eq,qo,show(st.drop k).cB=st.cB from rfl] at hm
  split at hm
  ·cases hm
  ·rename_i hb
   split at hm
   ·cases hm
   ·rename_i hne;exact⟨hne,by rw[look_eq,Ti hb];exact hm⟩
 refine⟨⟨fun m om hm=> ?_,r1.sep,fun b' i v hv=> ?_⟩,⟨s1.le,s1.off,s1.hid,hw.os,hw.tape,hw.output,hw.size,fun r hr' hn=>hw.old r hr' fun e=>hn ⟨k,o,_,hk,hb,e⟩,fun r ho=>(s1.owns r ho).imp id fun h=>h,s1.wR⟩⟩
 ·obtain⟨l,h1,h2⟩:=r1.dF m om hm
  obtain⟨hne,hm'⟩:=old m om hm
  refine⟨l,h1,h2.sF (Le.refl c) (fun r hlr=>hw.old r (h2.lt hlr) fun e=> ?_) fun _ _ _ _ h=>h⟩
  exact hr.sep k m o om _ l r hk hm' (UZ hne) hb h1 e hlr
 ·have hne:b'≠b:=fun e=>by subst e;exact hfz i v hv
  rw[hw.old b' (Cx hr hv) fun e=>hne (by cases e;rfl)]
  exact hr.fz b' i v hv
section
variable {P:Program} {E:Env} {o:Oper} {ev:jA} {st:St}
theorem HX {d:Go.Call} {fop:Operand} {k:Nat} {x0 y0 ss:List SVal} {r:jz} {fr:Fr} {b:Bool} {st2:St} (ho:o.op= .call d) (hc:d.callee= .value fop) (hf:ev fop=some (.func (.yield k) x0 y0)) (hev:lZ ev d.args.toList=some ss) (hk:st.look k=some (.loop r)) (hr0:r.state=0)
  (hp:uj r.ps ss r.fr=some fr) (hsta:eJ st st2) (hnb:∀k o,bx st.heap k=some o->gK st.next o=true) (hna:cY st.next ss=true)
  (h:W P st.next r.assign fr st fun x fr1 st1=>x= .normal/\st1.look k=some (.loop r)/\
   W P st.next r.body fr1 (st1.put k (.loop ⟨r.fr,r.ps,r.assign,r.body,1,r.lM⟩)) fun x _ st3=>∃r3,st3.look k=some (.loop r3)/\b=dK x/\kO st.next st2 (st3.put k (.loop ⟨r3.fr,r3.ps,r3.assign,r3.body,Bool.rec 2 0 (dK x),js x⟩))):bD P o ev st (.bool b) st2:=
 ⟨by simp[ho],hsta,fun{c w} hr hwf hfree {e} he a next Q hn=>by
  have mem:∀x,x∈d.args.toList->∀s,ev x=some s->Den c s (e x):=fun x hx=>he x (by
   rw[ho]
   show x∈(_++d.args).toList
   rw[U4]
   exact Uq _ hx)
  obtain⟨bk,hbk,hfv⟩:=he fop (by simp[ho,Op.operands,Go.Call.operands,hc]) _ hf
  have hd:=nN mem hev
  have hrun:(execOp e o).run P w=(Instr.yield bk (d.args.toList.map e).toArray).run P w:=by
   simp only[execOp,ho,Sem.run_bind,resolve,hc,hfv,Deferred.ofValue,Sem.run_pure,Result.andThen_ok,invoke]
   congr 2
   simp
   exact(nz e d.args).symm
  rw[hrun]
  have hi:=Ly hr hwf hnb
  have hklt:k<st.next:=by
   rcases TX k st.next with q|q
   ·exact q
   ·have:=(cR hk).1;rw[hwf.none k q] at this;cases this
  have hb0:(lS st.next c).ρ k=some (.box bk):=(dZ c hklt).trans hbk
  have hd0:aJ (lS st.next c) ss (d.args.toList.map e):=aJ.low (fun k hk=>dZ c hk) (fun _ _ _ h=>h) _ _ hna hd
  obtain⟨l,e2,e3⟩:=pY hi.rep hk hb0
  obtain⟨hsz,hslots⟩:=xz hp hd0 e3.rN
  rw[run_yield e2 (by rw[e3.ps];simp at hsz⊢;exact hsz),Oper.uponIn_round]
  refine⟨fun h=>(by cases h),roundIn_of_wpIn trivial ?_⟩
  rw[e3.assign,e3.body,e3.ps]
  have hent:Qi st.next [] 0 (lS st.next c) fr st {tmps:=(r.ps.toArray.zip (d.args.toList.map e).toArray).foldl (fun tmps (t,a)=>tmps.setIfInBounds t a) l.tmps,defers:=[]} w:=
   ⟨hi.rep,hwf,fun k hk=>Ti ii,⟨by have:=hslots.1;simpa using this,by have:=hslots.2;simpa using this,rfl⟩,JC.nil _ _,TC _,Tp _,hwf.mark⟩
  refine(h hent (ro:=some bk) (.inr e3.one) fun x fr1 st1 D1 c1 a1 w1 h1 h2 h3 h4 h5=> ?_).wp
  obtain⟨rfl,hk1,hbody⟩:=h1
  have hb1:c1.ρ k=some (.box bk):=by
   obtain⟨l',g1,g2⟩:=h3.le k _ hklt hb0
   cases g2
   exact g1
  obtain⟨l1,g2,g3⟩:=pY h2.rep hk1 hb1
  have hready:l1.state= .ready:=by rw[g3.state,hr0];rfl
  refine⟨_,run_beginRound g2 hready,?_⟩
  obtain⟨rep2,stp2⟩:=B5 h2.rep hk1 hb1 (r':=⟨r.fr,r.ps,r.assign,r.body,1,r.lM⟩) (x:={l1 with state:= .busy}) ⟨g3.rN,g3.ps,g3.assign,g3.body,rfl,g3.lM,g3.one,g3.two⟩
  have cs2:=stp2.c h2.low
  have sta2:=dt (.loop ⟨r.fr,r.ps,r.assign,r.body,1,r.lM⟩) hk1
  have hent2:Qi st.next D1 0 c1 fr1 (st1.put k (.loop ⟨r.fr,r.ps,r.assign,r.body,1,r.lM⟩)) a1 (w1.putObj bk (.loop {l1 with state:= .busy})):=
   ⟨rep2,h2.wf.eP sta2,h2.wW,h2.fr,h2.Ep.step h2.rep cs2,TC _,h2.low,h2.mark⟩
  refine(hbody hent2 (ro:=some bk) (.inr e3.two) fun x fr2 st3 D3 c3 a3 w3 i1 i2 i3 i4 i5=> ?_).wp
  obtain⟨r3,hk3,rfl,hless⟩:=i1
  have hb3:c3.ρ k=some (.box bk):=by
   obtain⟨l',q1,q2⟩:=i3.le k _ hklt hb1
   cases q2
   exact q1
  obtain⟨l3,q2,q3⟩:=pY i2.rep hk3 hb3
  have hend:=run_endRound (P:=P) (js x) q2
  have hst:sQ (Bool.rec 2 0 (dK x))=if(js x).isNone then .ready else .done:=by cases x<;>rfl
  obtain⟨rep4,stp4⟩:=B5 i2.rep hk3 hb3 (r':=⟨r3.fr,r3.ps,r3.assign,r3.body,Bool.rec 2 0 (dK x),js x⟩) (x:={l3 with state:=if(js x).isNone then .ready else .done,pending:=js x}) ⟨q3.rN,q3.ps,q3.assign,q3.body,hst.symm,rfl,q3.one,q3.two⟩
  have hb:dK x=(js x).isNone:=by cases x<;>rfl
  have tot:=((h3.trans cs2).trans i3).trans (stp4.c i2.low)
  obtain⟨c5,hg⟩:=II hi hfree rep4 tot hless (s:= .bool (dK x)) (v:= .bool (dK x)) rfl rfl
  have fin:=hn c5 (.bool (dK x)) _ hg
  cases x with
  |normal=>exact⟨_,_,hend,fin⟩
  |ret=>exact⟨_,_,hend,fin⟩
  |exit id=>exact⟨_,_,hend,fin⟩⟩
def Lp:Option Code->Option Ex
 |none=>some .normal
 |some .ret=>some .ret
 |some (.exit id)=>some (.exit id)
 |_=>none
def SY:Oper:={dst:=none,op:= .move (.tmp 0),type:=0,pos:= "",after:= #[],guard:=none}
theorem W.range {lo:Nat} {g:Operand} {ps:Array Tmp} {x y:Code} {fr fr1:Fr} (hn1:fr1.n=fr.n) (hf1:∀t s,fr1.get t=some s->fr.get t=some s) {f:FuncId} {first cap:List SVal} {s:SVal} {st2:St} {rc:jz} {ex:Ex} {Φ:Ex->Fr->St->Prop} (hg:DE fr g=some (.func (.func f) first cap)) (n1:jM x=true) (n2:jM y=true)
  (hcall:gX P f (first++([SVal.func (.yield st.next) [] []]++cap)) (st.fresh (.loop ⟨fr1,ps.toList,x,y,0,none⟩)) s st2) (hk:st2.look st.next=some (.loop rc)) (hs:rc.state≠1) (hj:Lp rc.lM=some ex) (h:Φ ex fr (st2.drop st.next)):W P lo (.rangeFunc g ps x y) fr st Φ:=by
 intro ro B D c w a he hro Q hq
 have hro:ro=none:=hro.elim id fun h=>(by cases h)
 subst hro
 show(Code.rangeFunc g ps x y).wpIn (je none) 0 P Q a w
 refine wpIn_rangeFunc ?_
 intro fnid _
 obtain⟨W1,hW1⟩:∃W1,(w.alloc (.deferred (some []))).alloc (.loop {state:= .ready,pending:=none,fn:=fnid,tmps:=a.tmps,params:=ps,assign:=x,body:=y,defers:=w.heap.size})=W1:=⟨_,rfl⟩
 have hL:W1.heap[w.heap.size+1]? =some (.loop {state:= .ready,pending:=none,fn:=fnid,tmps:=a.tmps,params:=ps,assign:=x,body:=y,defers:=w.heap.size}):=by
  rw[<-hW1]
  have:=World.alloc_heap_new (w.alloc (.deferred (some []))) (.loop {state:= .ready,pending:=none,fn:=fnid,tmps:=a.tmps,params:=ps,assign:=x,body:=y,defers:=w.heap.size})
  rwa [World.size_alloc] at this
 have hD:W1.heap[w.heap.size]? =some (.deferred (some [])):=by
  rw[<-hW1]
  exact(Below.heap_alloc _ _ _ (by simp)).trans (World.alloc_heap_new w _)
 have hS:df w W1:=by
  rw[<-hW1]
  exact(df.alloc _ _).trans (df.alloc _ _)
 obtain⟨fn,body,g1,g2,g3⟩:=hcall.body
 have hρk:c.ρ st.next=none:=he.wW _ (Tp _)
 have hle:=qz (.box (w.heap.size+1)) hρk
 obtain⟨r1,t1⟩:=gN (o:= .loop ⟨fr1,ps.toList,x,y,0,none⟩) he.rep hρk he.wf hS (l:= .box (w.heap.size+1)) (fun b hb=>by cases hb;omega) ⟨_,hL,⟨mO.le (c:=c) (fr:=fr1) (tmps:=a.tmps) ⟨by rw[hn1];exact he.fr.size,fun t s hs=>he.fr.get t s (hf1 t s hs)⟩ hle,by simp,rfl,rfl,rfl,rfl,n1,n2⟩⟩
 obtain⟨xs,ys,d1,d2,d3⟩:=he.fr.eval g _ hg
 have hy:Den (iq c st.next (.box (w.heap.size+1))) (.func (.yield st.next) [] []) (.func (.yield (w.heap.size+1)) #[] #[]):=⟨_,cI _ _ _,rfl⟩
 have dl:aJ (iq c st.next (.box (w.heap.size+1))) (first++([SVal.func (.yield st.next) [] []]++cap)) (xs++([Value.func (.yield (w.heap.size+1)) #[] #[]]++ys)):=
  aJ.append.2 ⟨_,_,aJ.le hle _ _ d1,aJ.append.2 ⟨_,_,⟨_,[],hy,rfl,rfl⟩,aJ.le hle _ _ d2,rfl⟩,rfl⟩
 have wf1:=he.wf.eP (dw st (.loop ⟨fr1,ps.toList,x,y,0,none⟩))
 have dom1:∀n,(st.fresh (.loop ⟨fr1,ps.toList,x,y,0,none⟩)).next<=n->(iq c st.next (.box (w.heap.size+1))).ρ n=none:=fun n hn=>by
  have hn:st.next+1<=n:=hn
  rw[gp c _ ii]
  exact he.wW n ii
 have hc:=hcall.ok r1 wf1 (fun n hn _=>dom1 n hn) dl
 have hc1:=eW g1 g2 g3 hc SY a (fun _ w'=>∃v' c',Good (st.fresh (.loop ⟨fr1,ps.toList,x,y,0,none⟩)) st2 s (iq c st.next (.box (w.heap.size+1))) W1 c' v' w') (fun _ _ _=>False) fun v' w' ⟨c',hg⟩=>⟨v',c',hg⟩
 rw[ru g1 g2 g3,Oper.uponIn_enter] at hc1
 refine⟨w.heap.size+1,[ra w.heap.size],W1,⟨.fn (.func f) ys.toArray,xs.toArray++ #[.func (.yield (w.heap.size+1)) #[] #[]]⟩,W1,f,_,W1,?_,?_,fun _ _=>trivial,?_,fun h=>(by cases h),hc1.2.mono ?_⟩
 ·rw[<-hW1];exact run_enterLoop_outer _ _ _ _ _
 ·simp only[resolve,d3,Deferred.ofValue]
  simp[go_sem]
 ·simp only[invoke]
  rw[<-ru g1 g2 g3]
  congr 2
  simp
 ·rintro e w2 hh
  cases e with
  |panicked ch=>exact hh.elim
  |outgrown=>obtain⟨_,_,hh⟩:=hh;exact hh.elim
  |returned v'=>
   obtain⟨v',c2,hg⟩:=hh
   have hk2:c2.ρ st.next=some (.box (w.heap.size+1)):=hg.step.le.box (cI _ _ _)
   obtain⟨l,e2,e3⟩:=pY hg.rep hk hk2
   have hnb:l.state≠.busy:=by
    rw[e3.state]
    rcases hss:rc.state with _|_|n
    ·simp[sQ]
    ·exact absurd hss hs
    ·simp[sQ]
   have hend:=run_endLoop (P:=P) e2 hnb
   have nofz:∀i v,c2.fz (w.heap.size+1) i≠some v:=fun i v hv=>by
    obtain⟨arr,ee,f,h6,_⟩:=hg.rep.fz _ _ _ hv
    rw[e2] at h6
    cases h6
   obtain⟨r3,t3⟩:=L4 hg.rep hk hk2 (ui w2 (w.heap.size+1) (.loop {l with state:= .exhausted})) nofz
   have s3n:st2.next=(st2.drop st.next).next:=rfl
   have cs:eh lo c st.look w c2 (st2.drop st.next).look (w2.putObj (w.heap.size+1) (.loop {l with state:= .exhausted})):=
    ((t1.trans hg.step (U1 _) hcall.eP.next).trans t3 (TR (U1 _) hcall.eP.next) (VJ s3n)).c he.low
   have stay:∀(b:Nat) (z:Option (List Deferred)),W1.heap[b]? =some (.deferred z)->(w2.putObj (w.heap.size+1) (.loop {l with state:= .exhausted})).heap[b]? =some (.deferred z):=fun b z hz=>by
    have h1:=(hg.step.kept b (TI.1 hz).1 (BV r1 hz)).trans hz
    have hne:b≠w.heap.size+1:=fun e=>by rw[e,e2] at h1;cases h1
    exact(World.putObj_heap_other ii).trans h1
   have hmk:JC B (ra w.heap.size::D) (w2.putObj (w.heap.size+1) (.loop {l with state:= .exhausted})):=by
    obtain⟨bs,b1,b2,b3⟩:=he.Ep
    refine⟨w.heap.size::bs,by rw[b1];rfl,Vr.2 ⟨fun hmem=> ?_,b2⟩,fun b hb=> ?_⟩
    ·have:=(TI.1 (b3 _ hmem).2).1
     omega
    ·rcases Tv.1 hb with rfl|hb
     ·exact⟨he.base,stay _ _ hD⟩
     ·exact⟨(b3 b hb).1,stay _ _ ((hS.old b (TI.1 (b3 b hb).2).1).trans (b3 b hb).2)⟩
   have sta3:=((dw st (.loop ⟨fr1,ps.toList,x,y,0,none⟩)).trans hcall.eP).trans (L2 hk)
   have hent:Qi lo (ra w.heap.size::D) B c2 fr (st2.drop st.next) {a with defers:=[ra w.heap.size]++a.defers} (w2.putObj (w.heap.size+1) (.loop {l with state:= .exhausted})):=
    ⟨r3,he.wf.eP sta3,fun n hn=>t3.off n (.inr hn) (hg.step.off n (.inr hn) (dom1 n (TR hcall.eP.next hn))),⟨he.fr.size,fun t s hs=>by
     obtain⟨v,q1,q2⟩:=he.fr.get t s hs
     exact⟨v,q1,Den.le (hle.trans hg.step.le) _ _ q2⟩,by rw[he.fr.defers];rfl⟩,hmk,TR he.base cs.size,TR he.low sta3.next,by rw[sta3.mark];exact he.mark⟩
   have hend2:=hq ex fr (st2.drop st.next) _ _ _ _ h hent cs (sta3.c he.low) rfl
   generalize w2.putObj (w.heap.size+1) (.loop {l with state:= .exhausted})=W3 at hend hend2
   refine⟨l.pending,_,hend,?_⟩
   rw[e3.lM]
   cases hp:rc.lM with
   |none=>
    rw[hp] at hj
    cases hj
    exact hend2
   |some cc=>
    rw[hp] at hj
    cases cc with
    |ret=>cases hj;exact wpIn_ret hend2
    |exit id=>cases hj;exact wpIn_exit hend2
    |_=>cases hj
end
section
variable {P:Program} {E:Env} {o:Oper} {ev:jA} {st:St}
theorem Kj (hE:bt P E) {d:Go.Call} {t tx e e' sz k s:Nat} {x:SVal} {rows new:List (List SVal)} (ho:o.op= .call d) (hb:d.callee= .builtin .copy) (hev:lZ ev d.args.toList=some [.own k s,x]) (ht:d.argTypes= #[t,tx]) (hel:dr E t=some e) (hex:dr E tx=some e') (hsz:cQ E e=some sz)
  (hk:st.look k=some (.row sz rows s false)) (hx:dm st x new) (hl:∀r∈new,r.length=sz) (hn:new.length=rows.length):bD P o ev st (.int .i64 rows.length) (st.put k (.row sz new s false)):=
 cU (S:=fun us=>Builtin.copy_ d.argTypes o.type us.toArray) ho hb hev (dt _ hk) (fun us consts=>rfl) fun{c w} hr hwf hf us hd=>by
  obtain⟨u,v,hu,hv,rfl⟩:=two hd
  have hu1:=ck hE hel
  obtain⟨ie,hie,rfl,hs⟩:=bU hE hsz
  obtain⟨news,h1,h2,h3⟩:=hx.src (P:=P) hr hv hl (ck hE hex)
  obtain⟨_,ob,st0,sz0,u0,g1,g2,g3⟩:=hu
  obtain⟨l',g4,g5⟩:=hr.dF _ _ hk
  rw[g1] at g4
  cases g4
  obtain⟨rfl,rfl,g5⟩:=g5
  have:=g3 rfl
  subst this
  rw[ht]
  cases ob with
  |none=>
   obtain⟨rfl,a,rfl⟩:=g5
   have h0:=TH.1 hn
   subst h0
   have hn0:news=[]:=TH.1 (by rw[h2];simp)
   subst hn0
   obtain⟨r1,r2⟩:=eE (o':= .row ie.size [] st0 false) hr hk g1 g1 (dz.refl _) (fun _ _=>rfl) (fun _ _ _ h=>h) (fun _ _ _ h=> .inl h) (fun r hr=> .inl hr) ((df.refl w).but _) (fun b i v hb=>by cases hb) ⟨rfl,rfl,rfl,a,rfl⟩
   refine⟨c,.int .i64 0,w,?_,rfl,r1,r2⟩
   have hc:=h3.cells
   simp only[T0] at hc
   cases a with
   |none=>simp[Builtin.copy_,run_underlying hu1,hs,h3.len w,hc,goInt]
   |some a=>simp[Builtin.copy_,run_underlying hu1,hs,h3.len w,hc,goInt,storeCells]
  |some b=>
   obtain⟨arr,el,cap,g6⟩:=g5
   have hval:=g6.val
   have hle:rows.length*ie.size<=cap*ie.size:=UA _ g6.fits
   have hsize:=g6.size
   have hnl:news.length=rows.length*ie.size:=by rw[h2,hn]
   obtain⟨k1,k2,k3⟩:=kR (off:=0) g6.cells ii h3.one
   have hobj:eK c (.row ie.size new st0 false) (.row (some b) st0 ie.size u) (stored w b 0 arr news):=by
    refine⟨rfl,rfl,_,el,cap,⟨by rw[hval,hn],k3,by simp;omega,by rw[hn];exact g6.fits,?_,fun j y hy=> ?_⟩⟩
    ·refine ef.of hl fun q s hq=> ?_
     obtain⟨y,hy,hd⟩:=h1.get hq
     have hlt:q<news.length:=(Tk.1 hy).1
     refine⟨y,?_,h3.one y (Ts hy),hd⟩
     simp only[UY,List.take_zero,UC]
     rw[TE hlt]
     exact hy
    ·have:=(g6.fz j y hy).1
     cases this
   obtain⟨r1,r2⟩:=eE hr hk g1 g1 (dz.refl _) (fun _ _=>rfl) (fun _ _ _ h=>h) (fun _ _ _ h=> .inl h) (fun r hr=> .inl hr) k2
    (fun b' j y hb hy=>by cases hb;have:=(g6.fz j y hy).1;cases this) hobj
   refine⟨c,.int .i64 rows.length,_,?_,rfl,r1,r2⟩
   have hc:=h3.cells
   rw[hval]
   simp[Builtin.copy_,run_underlying hu1,hs,h3.len w,hn,goInt]
   rw[hn] at hc
   simp[hc,k1 P]
theorem qT (hE:bt P E) {d:Go.Call} {t tn e size:Nat} {kn kq:IntKind} {n:Int} {k:Nat} {z:SVal} {by4:Nat} (ho:o.op= .call d) (hb:d.callee= .builtin .append) (hev:lZ ev d.args.toList=some [.ax,.int kq n]) (ht:d.argTypes= #[t,tn]) (hel:dr E t=some e) (htn:under E tn=some (.int kn))
  (hsz:cQ E e=some size) (hby:mL E e=some by4) (hb4:Nat.ble by4 4096=true) (hz:iH E e=some z) (hzl:Nat.beq (bT z).length size=true) (hs0:Nat.ble 1 size=true) (hf:gb (bT z)=true) (hn:n=(k:Int)) (h0:0<k) (h1:k<=1000000000):
  bD P o ev st (.own st.next 0) (st.fresh (.row size (List.replicate k (bT z)) 0 false)):=
 cU (S:=fun us=>Builtin.append_ d.argTypes o.type us.toArray) ho hb hev (dw _ _) (fun us consts=>rfl) fun{c w} hr hwf hf0 us hd=>by
  obtain⟨u,v,hu,hv,rfl⟩:=two hd
  cases hu
  cases hv
  have hk:c.ρ st.next=none:=hf0 _ (Tp _) (Ug _)
  have hu1:=ck hE hel
  obtain⟨ie,hie,rfl,_⟩:=bU hE hsz
  obtain⟨ib,hib,rfl⟩:=ik hE hby
  rw[hie] at hib
  cases hib
  obtain⟨iz,zv,hiz,hzv,hdz,_⟩:=ey hE hz
  rw[hie] at hiz
  cases hiz
  have hdc:=dR (hdz c)
  have hzs:zv.cells.size=ie.size:=by
   have:=hdc.length
   have h5:=UN hzl
   simp at this
   omega
  have hb5:=cT hb4
  subst hn
  rw[ht]
  have hge:=grownCap_ge w (0+k) 0 e
  have hrun:=Go.Lib.run_append_grow_zeros w t tn o.type e ie zv kq kn hu1 (bO hE htn) hie hzv none 0 0 [] (run_firstCells_none w.drew ie.size 0 0 0) k h0 (cT hs0) ii ii (by
   have:k*ie.bytes<=1000000000*4096:=UI h1 hb5
   omega) (nG ii ii hb5)
  have hzc:∀m:Nat,(Builtin.zeroCells zv.cells m).size=m*ie.size:=fun m=>by
   have:=jQ (zc:=zv.cells) (size:=ie.size) (need:=0) (cap:=m) (xs:=[]) hzs (by simp) (TC _)
   simpa using this
  have hzd:aJ c (List.replicate k (bT z)).flatten (Builtin.zeroCells zv.cells k).toList:=by
   have:=qI hdc k
   rw[dP] at this
   simp only[Array.toArray_toList,Vz] at this
   exact this
  have hone:∀y∈(Builtin.zeroCells zv.cells k).toList,y.oneCell'=true:=kG (fun s h=>by
   obtain⟨r,hr,hs⟩:=List.mem_flatten.1 h
   rw[(UR.1 hr).2] at hs
   exact hZ hf s hs) hzd
  have hlr:∀r∈List.replicate k (bT z),r.length=ie.size:=fun r hr=>by rw[(UR.1 hr).2];exact UN hzl
  have hel2:=jS (c:=c) (rows:=[]) (olds:=[]) (tail:=Builtin.zeroCells zv.cells (grownCap w (0+k) 0 e-(0+k))) rfl hzd (fun v hv=>by cases hv) hone (fun r hr=>by cases hr) hlr
  have hsz2:(([]:List Value).toArray++Builtin.zeroCells zv.cells k++Builtin.zeroCells zv.cells (grownCap w (0+k) 0 e-(0+k))).size=grownCap w (0+k) 0 e*ie.size:=by
   rw[VQ,VQ,hzc,hzc,Vo,T0,Ue,<-Um]
   congr 1
   omega
  obtain⟨g1,g2⟩:=newRow (w':=w.drew.alloc (.cells (([]:List Value).toArray++Builtin.zeroCells zv.cells k++Builtin.zeroCells zv.cells (grownCap w (0+k) 0 e-(0+k))) e)) (cap:=grownCap w (0+k) 0 e) (b:=w.heap.size) hr hk hwf
   ((df.drew w _).trans (df.alloc _ _)) (fK w.drew _) (Tp _) hsz2 (rows:=List.replicate k (bT z)) (by rw[Ty];omega) (by simpa using hel2)
  refine⟨_,_,_,hrun,?_,g1,g2⟩
  have:=gU (c:=iq c st.next (.row (some w.heap.size) 0 ie.size (.slice (some ⟨w.heap.size,0,none⟩) (List.replicate k (bT z)).length (grownCap w (0+k) 0 e)))) (cI _ _ _) ⟨_,_,_,rfl⟩
  rw[Ty] at this⊢
  rw[Ue] at this⊢
  exact this
theorem FV (hE:bt P E) {d:Go.Call} {t e:TypeId} {x:SVal} {n:Nat} (ho:o.op= .call d) (hb:d.callee= .builtin .cap) (hev:lZ ev d.args.toList=some [x]) (ht:d.argTypes[0]? =some t) (hu:dr E t=some e) (hx:(x= .ax/\n=0)\/∃rows,x= .aE true rows/\n=rows.length):bD P o ev st (.int .i64 n) st:=
 cU (S:=fun us=>Builtin.cap_ d.argTypes o.type us.toArray) ho hb hev (eJ.refl _) (fun us consts=>rfl) fun{c w} hr hwf hf us hd=>by
  obtain⟨u,hu1,rfl⟩:=one hd
  have h1:=ck hE hu
  have:∃a l,u= .slice a l n:=by
   rcases hx with⟨rfl,rfl⟩|⟨rows,rfl,rfl⟩
   ·cases hu1;exact⟨none,0,rfl⟩
   ·rcases hu1 with⟨h,a0,cap,rfl,hc⟩|⟨b,base,size,cap,rfl,_,hc,_⟩
    ·subst h;rw[hc rfl];exact⟨a0,0,rfl⟩
    ·rw[hc rfl];exact⟨_,_,rfl⟩
  obtain⟨a,l,rfl⟩:=this
  refine mP.same (v:= .int .i64 n) hr ?_ rfl
  simp[Builtin.cap_,ht,run_underlying h1,goInt]
end
noncomputable def Bf:Nat->List SVal->Option (List SVal)
 |0,_=>some []
 |_+1,[]=>none
 |n+1,a::l=>match Bf n l with
  |some r=>some (a::r)
  |none=>none
theorem tD:∀{n:Nat} {l r:List SVal},Bf n l=some r->r=l.take n/\n<=l.length
 |0,l,r,h=>by cases h;exact⟨rfl,TC _⟩
 |n+1,[],r,h=>by cases h
 |n+1,a::l,r,h=>by
  unfold Bf at h
  split at h
  ·rename_i r' h'
   cases h
   obtain⟨h1,h2⟩:=tD h'
   exact⟨by rw[h1];rfl,by simp;omega⟩
  ·cases h
noncomputable def Cd:List SVal->List SVal->Option (List SVal)
 |l,[]=>some l
 |[],_::_=>none
 |_::l,b::v=>match Cd l v with
  |some r=>some (b::r)
  |none=>none
theorem Gw:∀{l v r:List SVal},Cd l v=some r->v.length<=l.length/\r=v++l.drop v.length
 |l,[],r,h=>by
  have h:some l=some r:=by cases l<;>exact h
  cases h;simp
 |[],b::v,r,h=>by cases h
 |a::l,b::v,r,h=>by
  unfold Cd at h
  split at h
  ·rename_i r' h'
   cases h
   obtain⟨h1,h2⟩:=Gw h'
   subst h2
   simp at h1⊢
   exact h1
  ·cases h
noncomputable def ky:List SVal->Nat->List SVal->Option (List SVal)
 |l,0,v=>Cd l v
 |[],_+1,_=>none
 |a::l,n+1,v=>match ky l n v with
  |some r=>some (a::r)
  |none=>none
theorem BR:∀{l:List SVal} {n:Nat} {v r:List SVal},ky l n v=some r->n+v.length<=l.length/\r=l.take n++(v++l.drop (n+v.length))
 |l,0,v,r,h=>by
  have h:Cd l v=some r:=by cases l<;>exact h
  obtain⟨h1,h2⟩:=Gw h
  subst h2
  exact⟨by omega,by simp⟩
 |[],n+1,v,r,h=>by cases h
 |a::l,n+1,v,r,h=>by
  unfold ky at h
  split at h
  ·rename_i r' h'
   cases h
   obtain⟨h1,h2⟩:=BR h'
   subst h2
   simp
   refine⟨by omega,?_⟩
   rw[show n+1+v.length=(n+v.length)+1 from by omega,List.drop_succ_cons]
  ·cases h
theorem oQ {l:List SVal} {n:Nat} {v r:List SVal} (h:ky l n v=some r):n+v.length<=l.length/\r=over l n v:=by
 obtain⟨h1,h2⟩:=BR h
 exact⟨h1,by rw[pU l n v h1,h2]⟩
noncomputable def MQ:List SVal->List SVal->Option (List SVal)
 |[],r=>some r
 |a::l,r=>match MQ l r with
  |some x=>some (a::x)
  |none=>none
theorem AA:∀{l r x:List SVal},MQ l r=some x->x=l++r
 |[],r,x,h=>by cases h;rfl
 |a::l,r,x,h=>by
  unfold MQ at h
  split at h
  ·rename_i y h'
   cases h
   rw[AA h'];rfl
  ·cases h
section
variable {α:Type}
noncomputable def He (k:Nat) (o:α):List (Nat×α)->Option (List (Nat×α))
 |[]=>some [(k,o)]
 |p::r=>match Nat.beq p.1 k with
  |true=>some ((k,o)::r)
  |false=>match He k o r with
   |some x=>some (p::x)
   |none=>none
theorem Dk {k:Nat} {o:α}:∀{l r:List (Nat×α)},He k o l=some r->r=iW l k o
 |[],r,h=>by cases h;rfl
 |p::l,r,h=>by
  unfold He at h
  split at h
  ·rename_i hb
   cases h
   show _= @Bool.rec (fun _=>List (Nat×α)) _ _ (Nat.beq p.1 k)
   rw[hb]
  ·rename_i hb
   split at h
   ·rename_i x hx
    cases h
    rw[Dk hx]
    show _= @Bool.rec (fun _=>List (Nat×α)) _ _ (Nat.beq p.1 k)
    rw[hb]
    rfl
   ·cases h
end
def cC {α:Type} (x:Option α) (K:α->Prop):Prop:=match x with
 |some a=>K a
 |none=>False
theorem aD {α:Type} {x:Option α} {K:α->Prop} (h:cC x K):∃a,x=some a/\K a:=by
 cases x with
 |none=>exact h.elim
 |some a=>exact⟨a,rfl,h⟩
def yes (b:Bool) (K:Prop):Prop:=match b with
 |true=>K
 |false=>False
theorem bY {b:Bool} {K:Prop} (h:yes b K):b=true/\K:=by
 cases b with
 |true=>exact⟨rfl,h⟩
 |false=>exact h.elim
noncomputable def way (b:Bool) (p q:Prop):Prop:= @Bool.rec (fun _=>Prop) q p b
theorem cX {b:Bool} {p q:Prop} (h1:b=true->p) (h2:b=false->q): @Bool.rec (fun _=>Prop) q p b:=by
 cases b with
 |true=>exact h1 rfl
 |false=>exact h2 rfl
theorem DS {b:Bool} {p q:Prop} (h:way b p q):(b=true/\p)\/(b=false/\q):=by
 cases b with
 |true=>exact .inl ⟨rfl,h⟩
 |false=>exact .inr ⟨rfl,h⟩
def asB (v:SVal) (K:Bool->Prop):Prop:=match v with
 | .bool b=>K b
 |_=>False
theorem Fj {v:SVal} {K:Bool->Prop} (h:asB v K):∃b,v= .bool b/\K b:=by
 cases v<;>first|exact⟨_,rfl,h⟩|exact h.elim
def Jy (v:SVal) (K:IntKind->Int->Prop):Prop:=match v with
 | .int k n=>K k n
 |_=>False
theorem jy {v:SVal} {K:IntKind->Int->Prop} (h:Jy v K):∃k n,v= .int k n/\K k n:=by
 cases v<;>first|exact⟨_,_,rfl,h⟩|exact h.elim
def lq (v:SVal) (K:List SVal->Prop):Prop:=match v with
 | .agg l=>K l
 |v=>K [v]
theorem fH {v:SVal} {K:List SVal->Prop} (h:lq v K):K (bT v):=by
 cases v<;>exact h
noncomputable def uI (E:Env) (t:TypeId) (l:List SVal):Option SVal:=match MV E t with
 |some false=>match l with
  |s::_=>some s
  |[]=>none
 |some true=>match cQ E t with
  |some n=>match Bf n l with
   |some r=>some (.agg r)
   |none=>none
  |none=>none
 |none=>none
theorem uH {E:Env} {t:TypeId} {l:List SVal} {s:SVal} (h:uI E t l=some s):r7 E t l=some s:=by
 unfold uI at h
 unfold r7
 split at h
 ·rename_i h1
  rw[h1]
  split at h
  ·cases h;rfl
  ·cases h
 ·rename_i h1
  rw[h1]
  split at h
  ·rename_i n h2
   split at h
   ·rename_i r h3
    obtain⟨h4,h5⟩:=tD h3
    cases h
    rw[h2,h4]
    show yZ (Nat.ble n l.length) _=_
    rw[show Nat.ble n l.length=true from UX h5]
    rfl
   ·cases h
  ·cases h
 ·cases h
structure S4 (rows:List (List SVal)) (i:Nat) (K:List SVal->Prop):Prop where
 out:∃row,rows[i]? =some row/\K row
structure WrR (rows:List (List SVal)) (i off:Nat) (v:List SVal) (K:List (List SVal)->Prop):Prop where
 out:∃row r,rows[i]? =some row/\ky row off v=some r/\K (rows.set i r)
theorem cq {α:Type} {f:α->List SVal} {l:List α} {i off:Nat} {v:List SVal} {K:List (List SVal)->Prop} (x y:α) (h:l[i]? =some x) (hr:ky (f x) off v=some (f y)) (k:K ((l.set i y).map f)):WrR (l.map f) i off v K:=
 ⟨f x,f y,by rw[TO,h];rfl,hr,by rw[<-List.map_set];exact k⟩
structure wm (rows:List (List SVal)) (K:List (List SVal)->Prop):Prop where
 out:K rows
theorem Di {rows:List (List SVal)} {K:List (List SVal)->Prop} (k:K rows):wm rows K:=⟨k⟩
theorem MN {rows:List (List SVal)} {K:List (List SVal)->Prop} (rows':List (List SVal)) (h:rows=rows') (k:K rows'):wm rows K:=by
 subst h;exact⟨k⟩
theorem lu {α:Type} {f:α->List SVal} {l r:List α} {K:List (List SVal)->Prop} (k:K ((l++r).map f)):wm (l.map f++r.map f) K:=⟨by rw[<-Un];exact k⟩
theorem aH {α:Type} {f:α->List SVal} {l:List α} {row:List SVal} {K:List (List SVal)->Prop} (x:α) (h:f x=row) (k:K ((l++[x]).map f)):wm (l.map f++[row]) K:=⟨by
 rw[Un] at k
 subst h
 exact k⟩
theorem Az {α:Type} (f:α->List SVal) {row:List SVal} {K:List (List SVal)->Prop} (x:α) (h:f x=row) (k:K ([x].map f)):wm [row] K:=⟨by
 subst h
 exact k⟩
theorem Fh {α:Type} (f:α->List SVal) {n:Nat} {row:List SVal} {K:List (List SVal)->Prop} (x:α) (h:f x=row) (k:K ((List.replicate n x).map f)):wm (List.replicate n row) K:=⟨by
 subst h
 rw[List.map_replicate] at k
 exact k⟩
theorem MO {α:Type} {f:α->List SVal} {l:List α} {a b:Nat} {K:List (List SVal)->Prop} (k:K (((l.take a).drop b).map f)):wm (((l.map f).take a).drop b) K:=⟨by rw[List.map_drop,List.map_take] at k;exact k⟩
theorem P5 {α:Type} {f:α->List SVal} {l:List α} {a:Nat} {K:List (List SVal)->Prop} (k:K ((l.take a).map f)):wm ((l.map f).take a) K:=⟨by rw[List.map_take] at k;exact k⟩
theorem lens1 {row:List SVal} {n:Nat} (h:row.length=n):∀r∈[row],r.length=n:=fun r hr=>by
 rw[To] at hr
 rw[hr];exact h
structure Jr {α:Type} (l:List α) (K:Nat->Prop):Prop where
 out:K l.length
theorem RS {α β:Type} {f:α->β} {l:List α} {K:Nat->Prop} (k:K l.length):Jr (l.map f) K:=⟨by rw[Tr];exact k⟩
theorem gL {α:Type} {l:List α} {K:Nat->Prop} (k:K l.length):Jr l K:=⟨k⟩
theorem OL {α β:Type} {f:α->β} {n:Nat} {x:α} {K:Nat->Prop} (k:K n):Jr ((List.replicate n x).map f) K:=⟨by rw[Tr,Ty];exact k⟩
theorem OK {α β:Type} {f:α->β} {l:List α} {i:Nat} {x:α} {K:Nat->Prop} (k:K l.length):Jr ((l.set i x).map f) K:=⟨by rw[Tr,Tx];exact k⟩
def F8 (st:St) (p:SVal) (K:List SVal->Prop):Prop:=match p with
 | .ptr k off=>match st.look k with
  |some (.cells l)=>K (l.drop off)
  |some (.still l)=>K (l.drop off)
  |_=>False
 | .fq k s i off=>match st.look k with
  |some (.row _ rows s' _)=>yes (Nat.beq s' s) (S4 rows i fun row=>K (row.drop off))
  |_=>False
 | .bN row off=>K (row.drop off)
 |_=>False
theorem BM {st:St} {p:SVal} {K:List SVal->Prop} (h:F8 st p K):∃l,lA st p l/\K l:=by
 unfold F8 at h
 split at h
 ·split at h
  ·rename_i h1
   exact⟨_,.box h1,h⟩
  ·rename_i h1
   exact⟨_,.still h1,h⟩
  ·exact h.elim
 ·split at h
  ·rename_i h1
   obtain⟨h2,⟨row,h3,h4⟩⟩:=bY h
   have:=T3 h2
   subst this
   exact⟨_,.row h1 h3,h4⟩
  ·exact h.elim
 ·exact⟨_,.elem,h⟩
 ·exact h.elim
noncomputable def hJ (st:St) (k:Nat) (o:bm) (K:St->Prop):Prop:=match st with
 |⟨heap,next,mark,log,cB⟩=>match He k o heap with
  |some h'=>match Nat.ble (Nat.succ k) mark with
   |true=>K ⟨h',next,mark,k::log,cB⟩
   |false=>K ⟨h',next,mark,log,cB⟩
  |none=>False
theorem du {st:St} {k:Nat} {o:bm} {K:St->Prop} (h:hJ st k o K):K (st.put k o):=by
 obtain⟨heap,next,mark,log,cB⟩:=st
 unfold hJ at h
 simp only[] at h
 split at h
 ·rename_i h' he
  have:=Dk he
  subst this
  split at h
  ·rename_i hb
   have:St.put ⟨heap,next,mark,log,cB⟩ k o=⟨iW heap k o,next,mark,k::log,cB⟩:=by
    show St.mk _ _ _ (@Bool.rec (fun _=>List Nat) _ _ (Nat.ble (Nat.succ k) mark)) _=_
    rw[hb]
   rw[this];exact h
  ·rename_i hb
   have:St.put ⟨heap,next,mark,log,cB⟩ k o=⟨iW heap k o,next,mark,log,cB⟩:=by
    show St.mk _ _ _ (@Bool.rec (fun _=>List Nat) _ _ (Nat.ble (Nat.succ k) mark)) _=_
    rw[hb]
   rw[this];exact h
 ·exact h.elim
noncomputable def j0 (st:St) (o:bm) (K:Nat->St->Prop):Prop:=match st with
 |⟨heap,next,mark,log,cB⟩=>K next ⟨(next,o)::heap,next+1,mark,log,cB⟩
theorem fb {st:St} {o:bm} {K:Nat->St->Prop} (h:j0 st o K):K st.next (st.fresh o):=by
 cases st;exact h
noncomputable def DN (st:St) (p:SVal) (v:List SVal) (K:St->Prop):Prop:=match p with
 | .ptr k off=>match st.look k with
  |some (.cells l)=>match ky l off v with
   |some r=>hJ st k (.cells r) K
   |none=>False
  |_=>False
 | .fq k s i off=>match st.look k with
  |some (.row m rows s' false)=>yes (Nat.beq s' s) (WrR rows i off v fun rows'=>hJ st k (.row m rows' s false) K)
  |_=>False
 |_=>False
theorem Hv {st:St} {p:SVal} {v:List SVal} {K:St->Prop} (h:DN st p v K):∃st',Ns st p v st'/\K st':=by
 unfold DN at h
 split at h
 ·split at h
  ·rename_i h1
   split at h
   ·rename_i r h2
    obtain⟨h3,h4⟩:=oQ h2
    subst h4
    exact⟨_,.box h1 h3,du h⟩
   ·exact h.elim
  ·exact h.elim
 ·split at h
  ·rename_i h1
   obtain⟨h2,⟨row,r,h3,h4,h5⟩⟩:=bY h
   have:=T3 h2
   subst this
   obtain⟨h6,h7⟩:=oQ h4
   subst h7
   exact⟨_,.row h1 h3 h6,du h5⟩
  ·exact h.elim
 ·exact h.elim
noncomputable def fzB (l:List SVal):St->(List SVal->St->Prop)->Prop:=
 List.rec (motive:=fun _=>St->(List SVal->St->Prop)->Prop) (fun st K=>K [] st)
  (fun s _ ih st K=>match s with
   | .ax=>ih st fun r st'=>K (.aE false []::r) st'
   | .aE _ rows=>ih st fun r st'=>K (.aE false rows::r) st'
   | .own k s=>match st.look k with
    |some (.row m rows s' _)=>yes (Nat.beq s' s) (hJ st k (.row m rows s true) fun st'=>ih st' fun r st''=>K (.aE false rows::r) st'')
    |_=>False
   |s=>ih st fun r st'=>K (s::r) st') l
theorem u6:∀{l:List SVal} {st:St} {K:List SVal->St->Prop},fzB l st K->∃l' st',iN st l l' st'/\K l' st'
 |[],st,K,h=>⟨_,_,.nil,h⟩
 |s::r,st,K,h=>by
  have h:match(generalizing:=false) s with
   | .ax=>fzB r st fun r st'=>K (.aE false []::r) st'
   | .aE _ rows=>fzB r st fun r st'=>K (.aE false rows::r) st'
   | .own k s=>match st.look k with
    |some (.row m rows s' _)=>yes (Nat.beq s' s) (hJ st k (.row m rows s true) fun st'=>fzB r st' fun r st''=>K (.aE false rows::r) st'')
    |_=>False
   |s=>fzB r st fun r st'=>K (s::r) st':=h
  split at h
  ·obtain⟨l',st',h1,h3⟩:=u6 h
   exact⟨_,_,.ax h1,h3⟩
  ·obtain⟨l',st',h1,h3⟩:=u6 h
   exact⟨_,_,.aE h1,h3⟩
  ·split at h
   ·rename_i hk
    obtain⟨e,h4⟩:=bY h
    cases T3 e
    obtain⟨l',st',h1,h3⟩:=u6 (du h4)
    exact⟨_,_,.own hk h1,h3⟩
   ·exact h.elim
  ·obtain⟨l',st',h1,h3⟩:=u6 h
   exact⟨_,_,.same h1,h3⟩
theorem iN.length {st st':St} {l l':List SVal} (h:iN st l l' st'):l'.length=l.length:=by
 induction h<;>simp_all
section
variable {P:Program} {E:Env} {o:Oper} {ev:jA} {st st':St}
theorem oL (hE:bt P E) {t elem:TypeId} {len size:Nat} {parts:Array (Nat×Operand)} {z:SVal} {ps:List (Nat×SVal)} {l l':List SVal} (ho:o.op= .buildSlice t len parts) (ht:dr E t=some elem) (hsz:cQ E elem=some size) (hz:iH E elem=some z) (hps:CD ev parts.toList=some ps)
    (hn:Nat.ble (len*size) 1000000=true) (hzs:Nat.beq (bT z).length size=true) (hfl:se (fun i=>some (i*size,size)) (n5 (bT z) len) ps=some l) (ha:iN st l l' st') (hf:gb l'=true):bD P o ev st (.own st'.next 0) (st'.fresh (.row size (chunks size len l') 0 false)):=
  ⟨by simp[ho],ha.eP.1.trans (dw _ _),fun{c w} hr hwf hf' {e} he=>by
    have hk:c.ρ st'.next=none:=by rw[ha.eP.2];exact hf' _ (Tp _) (by show st.next<st'.next+1;rw[ha.eP.2];exact Ug _)
    have hp:=vg (e:=e) (c:=c) (fun p hp=>he p.2 (by rw[ho];simp only[Op.operands,T4];exact⟨p,hp,rfl⟩)) hps
    have hu:=ck hE ht
    obtain⟨ie,hie,rfl,hsr⟩:=bU hE hsz
    obtain⟨ie',zv,hie',hzv,hdz,hzr⟩:=ey hE hz
    rw[hie] at hie'
    cases hie'
    have hs:=dR (hdz c)
    have hl:=hs.length
    have hzs:(bT z).length=ie.size:=UN hzs
    have hl:zv.cells.size=ie.size:=by simpa[hzs] using hl
    obtain⟨rs,h3,h4⟩:=ta _ hfl hp (qI hs len)
    have hlen:∀{ps:List (Nat×SVal)} {cells r:List SVal},se (fun i=>some (i*ie.size,ie.size)) cells ps=some r->r.length=cells.length:=by
      intro ps
      induction ps with
      |nil=>intro cells r h;cases h;rfl
      |cons p ps ih=>
        intro cells r h
        have h:eH (some (p.1*ie.size,ie.size)) (fun q=>yZ (Nat.beq (bT p.2).length q.2) (yZ (Nat.ble (q.1+(bT p.2).length) cells.length) (se (fun i=>some (i*ie.size,ie.size)) (over cells q.1 (bT p.2)) ps)))=some r:=h
        rw[bf] at h
        obtain⟨q,_,h⟩:=h
        rw[eM,eM] at h
        rw[ih h.2.2,rW _ _ _ (cT h.2.1)]
    have hll:l.length=len*ie.size:=by rw[hlen hfl,iO,hzs]
    have hll':l'.length=len*ie.size:=ha.length.trans hll
    obtain⟨c1,c2,c3⟩:=sq ie.size len l' hll'
    obtain⟨d,e1,r1,s1,d1⟩:=ha.ok hr h4
    have hrl:=d1.length
    have hel:ef d (chunks ie.size len l') ie.size rs.toArray:=ot c2 (by rw[c3];exact d1) (by rw[c3];exact hZ hf)
    obtain⟨g1,g2⟩:=newRow (cap:=len) (b:=w.heap.size) r1 (by rw[e1];exact hk) (hwf.eP ha.eP.1) (df.alloc w (.cells rs.toArray elem)) (fK w _) (Tp _) (by simp;omega) ii hel
    refine dG.val (S:=Instr.buildSlice t len (parts.map fun p=>(p.1,e p.2))) (by simp only[execOp,ho]) ⟨_,.slice (some ⟨w.heap.size,0,none⟩) len len,_,?_,gU (by rw[cI,c1]) ⟨_,_,_,rfl⟩,g1,s1.trans g2 ha.eP.1.next (U1 _)⟩
    rw[<-nz]
    have hn:len*ie.size<=1000000:=cT hn
    have hsmall : ¬ len * ie.size > 2 ^ 24 := by have : (2 : Nat) ^ 24 = 16777216 := by decide
                                                 omega
    have h3':Instr.fill (fun i=>some (i*ie.size,ie.size)) (madeCells zv.cells (len*ie.size)) (parts.toList.map fun p=>(p.1,e p.2))=some rs.toArray:=by
      simpa[hl] using h3
    by_cases hpos:len*ie.size=0
    · have e0:madeCells zv.cells (len*ie.size)= #[]:=by simp[madeCells,hpos]
      rw[e0] at h3'
      have e1:Array.map (fun _=>(default:Value)) (Array.range 0)= #[]:=by simp
      simp[Instr.buildSlice,run_underlying hu,hsr,hpos,Go.newRow,e1,h3']
    · exact run_buildSlice w t elem len _ rs.toArray ie zv hu hie hzv hsmall hpos (by simpa[madeCells] using h3')⟩
end
def Du (P:Program) (op:Op) (ev:jA) (st:St) (K:SVal->St->Prop):Prop:=∃s st',(∀o:Oper,o.op=op->bD P o ev st s st')/\K s st'
def Te (P:Program) (f:FuncId) (args:List SVal) (st:St) (s:SVal) (st':St):Prop:=
 ∀(o:Oper) (d:Go.Call) (fop:Operand) (first cap ss:List SVal) (ev:jA),o.op= .call d->d.callee= .value fop->ev fop=some (.func (.func f) first cap)->lZ ev d.args.toList=some ss->first++(ss++cap)=args->bD P o ev st s st'
structure eL (P:Program) (f:FuncId) (args:List SVal) (st:St) (K:SVal->St->Prop):Prop where
 out:∃s st',Te P f args st s st'/\K s st'
def Qe (P:Program) (k:Nat) (args:List SVal) (st:St) (s:SVal) (st':St):Prop:=
 ∀(o:Oper) (d:Go.Call) (fop:Operand) (first cap:List SVal) (ev:jA),o.op= .call d->d.callee= .value fop->ev fop=some (.func (.yield k) first cap)->lZ ev d.args.toList=some args->bD P o ev st s st'
structure M0 (P:Program) (k:Nat) (args:List SVal) (st:St) (K:SVal->St->Prop):Prop where
 out:∃s st',Qe P k args st s st'/\K s st'
structure AtR (rows:List (List SVal)) (n:Int) (sz:Nat) (K:List SVal->Prop):Prop where
 out:∃(j:Nat) (row:List SVal),n=(j:Int)/\rows[j]? =some row/\row.length=sz/\K row
structure M7 (n:Int) (m:Nat) (K:Nat->Prop):Prop where
 out:∃j:Nat,n=(j:Int)/\j<m/\K j
noncomputable def KK (E:Env) (t:TypeId) (l:List SVal) (off:Nat):Option SVal:=uI E t (l.drop off)
theorem BO {E:Env} {t:TypeId} {l:List SVal} {off:Nat} {s:SVal} (h:KK E t l off=some s):uq E t l off=some s:=uH h
noncomputable def yl (place:Nat->Option (Nat×Nat)):List (Nat×SVal)->List SVal->Option (List SVal)
 |[],cells=>some cells
 |p::ps,cells=>match place p.1 with
  |some q=>match Nat.beq (bT p.2).length q.2 with
   |true=>match ky cells q.1 (bT p.2) with
    |some c=>yl place ps c
    |none=>none
   |false=>none
  |none=>none
theorem ql {place:Nat->Option (Nat×Nat)}:∀{ps:List (Nat×SVal)} {cells r:List SVal},yl place ps cells=some r->se place cells ps=some r
 |[],cells,r,h=>h
 |p::ps,cells,r,h=>by
  unfold yl at h
  split at h
  ·rename_i q hq
   split at h
   ·rename_i hb
    split at h
    ·rename_i c hc
     obtain⟨h1,h2⟩:=oQ hc
     subst h2
     show eH (place p.1) _=_
     rw[hq]
     show yZ _ (yZ _ _)=_
     rw[hb,UX h1]
     exact ql h
    ·cases h
   ·cases h
  ·cases h
noncomputable def Ar (sz:Nat):Nat->List SVal->Option (List (List SVal))
 |0,_=>some []
 |n+1,l=>match Bf sz l with
  |some r=>match Ar sz n (l.drop sz) with
   |some rs=>some (r::rs)
   |none=>none
  |none=>none
theorem yG {sz:Nat}:∀{n:Nat} {l:List SVal} {r:List (List SVal)},Ar sz n l=some r->r=chunks sz n l
 |0,l,r,h=>by cases h;rfl
 |n+1,l,r,h=>by
  unfold Ar at h
  split at h
  ·rename_i a h1
   split at h
   ·rename_i b h2
    cases h
    rw[yG h2,(tD h1).1]
    rfl
   ·cases h
  ·cases h
def J9 (st:St) (x:SVal) (K:List (List SVal)->Prop):Prop:=match x with
 | .ax=>K []
 | .aE _ rows=>K rows
 | .own k s=>match st.look k with
  |some (.row _ rows s' _)=>yes (Nat.beq s' s) (K rows)
  |_=>False
 |_=>False
theorem zg {st:St} {x:SVal} {K:List (List SVal)->Prop} (h:J9 st x K):∃rows,dm st x rows/\K rows:=by
 unfold J9 at h
 split at h
 ·exact⟨_,.nil,h⟩
 ·exact⟨_,.aE,h⟩
 ·split at h
  ·rename_i h1
   obtain⟨h2,h3⟩:=bY h
   have:=T3 h2
   subst this
   exact⟨_,.own h1,h3⟩
  ·exact h.elim
 ·exact h.elim
section
variable (P:Program) (E:Env)
noncomputable def QU (op:BinOp) (t:TypeId) (a b:SVal) (K:SVal->Prop):Prop:=match a with
 | .int k n=>Jy b fun k' m=>yes (decide (k'=k)) (match op with
  | .add=>xd k (n+m)/\K (.int k (n+m))
  | .sub=>xd k (n-m)/\K (.int k (n-m))
  | .mul=>xd k (n*m)/\K (.int k (n*m))
  | .quo=>m≠0/\xd k (n.tdiv m)/\K (.int k (n.tdiv m))
  | .rem=>m≠0/\K (.int k (n.tmod m))
  | .eql=>K (.bool (decide (n=m)))
  | .neq=>K (.bool (!decide (n=m)))
  | .lss=>K (.bool (decide (n<m)))
  | .leq=>K (.bool (decide (n<=m)))
  | .gtr=>K (.bool (decide (m<n)))
  | .geq=>K (.bool (decide (m<=n)))
  |_=>False)
 | .str l=>match b with
  | .str r=>match op with
   | .add=>l.length+r.length<=1000000/\K (.str (l++r))
   |op=>cC (Ak op l r) fun c=>K (.bool c)
  |_=>False
 |a=>yes (um a) (match op with
  | .eql=>cC (Nq E 100 t a b) fun c=>K (.bool c)
  | .neq=>cC (Nq E 100 t a b) fun c=>K (.bool (!c))
  |_=>False)
theorem Nw (hE:bt P E) {op:BinOp} {t ty:TypeId} {x y:Operand} {ev:jA} {st:St} {a b:SVal} {K:SVal->St->Prop} (hx:ev x=some a) (hy:ev y=some b) (h:QU E op t a b fun s=>K s st):Du P (.binOp op t x y ty) ev st K:=by
 unfold QU at h
 split at h
 ·rename_i k n
  obtain⟨k',m,rfl,h⟩:=jy h
  obtain⟨hk,h⟩:=bY h
  have:=TF hk
  subst this
  split at h
  ·exact⟨_,_,fun o ho=>qS ho hx hy rfl h.1,h.2⟩
  ·exact⟨_,_,fun o ho=>qS ho hx hy rfl h.1,h.2⟩
  ·exact⟨_,_,fun o ho=>qS ho hx hy rfl h.1,h.2⟩
  ·exact⟨_,_,fun o ho=>N8 ho hx hy h.1 h.2.1,h.2.2⟩
  ·exact⟨_,_,fun o ho=>N7 ho hx hy h.1,h.2⟩
  ·exact⟨_,_,fun o ho=>mW ho hx hy rfl,h⟩
  ·exact⟨_,_,fun o ho=>mW ho hx hy rfl,h⟩
  ·exact⟨_,_,fun o ho=>mW ho hx hy rfl,h⟩
  ·exact⟨_,_,fun o ho=>mW ho hx hy rfl,h⟩
  ·exact⟨_,_,fun o ho=>mW ho hx hy rfl,h⟩
  ·exact⟨_,_,fun o ho=>mW ho hx hy rfl,h⟩
  ·exact h.elim
 ·split at h
  ·split at h
   ·exact⟨_,_,fun o ho=>Kl ho hx hy h.1,h.2⟩
   ·obtain⟨c,h1,h2⟩:=aD h
    exact⟨_,_,fun o ho=>Kk ho hx hy h1,h2⟩
  ·exact h.elim
 ·obtain⟨hp,h⟩:=bY h
  split at h
  ·obtain⟨c,h1,h2⟩:=aD h
   exact⟨_,_,fun o ho=>Rj hE ho hx hy hp h1,h2⟩
  ·obtain⟨c,h1,h2⟩:=aD h
   exact⟨_,_,fun o ho=>Ri hE ho hx hy hp h1,h2⟩
  ·exact h.elim
noncomputable def oD (t:TypeId) (a i:SVal) (st:St) (K:SVal->St->Prop):Prop:=Jy i fun _ n=>match a with
 | .aE _ rows=>cC (dr E t) fun el=>cC (cQ E el) fun sz=>AtR rows n sz fun row=>K (.bN row 0) st
 | .own r s=>match st.look r with
  |some (.row m rows s' _)=>cC (dr E t) fun el=>cC (cQ E el) fun sz=>yes (Nat.beq m sz) (yes (Nat.beq s' s) (M7 n rows.length fun j=>K (.fq r s j 0) st))
  |_=>False
 |p=>cC (under E t) fun d=>match d with
  | .array m el=>cC (cQ E el) fun sz=>M7 n m fun j=>cC (Il p (j*sz)) fun q=>K q st
  |_=>False
theorem wq (hE:bt P E) {t:TypeId} {x ix:Operand} {ev:jA} {st:St} {a i:SVal} {K:SVal->St->Prop} (hx:ev x=some a) (hy:ev ix=some i) (h:oD E t a i st K):Du P (.indexAddr t x ix) ev st K:=by
 unfold oD at h
 obtain⟨k,n,rfl,h⟩:=jy h
 split at h
 ·obtain⟨el,h1,h⟩:=aD h
  obtain⟨sz,h2,⟨j,row,h3,h4,h5,h⟩⟩:=aD h
  exact⟨_,_,fun o ho=>wK hE ho hy hx h1 h2 h3 h4 h5,h⟩
 ·split at h
  ·rename_i hk
   obtain⟨el,h1,h⟩:=aD h
   obtain⟨sz,h2,h⟩:=aD h
   obtain⟨h3,g1⟩:=bY h
   obtain⟨h4,⟨j,h5,h6,g2⟩⟩:=bY g1
   cases T3 h3
   cases T3 h4
   exact⟨_,_,fun o ho=>wJ hE ho hy hx hk h1 h2 h5 h6,g2⟩
  ·exact h.elim
 ·obtain⟨d,h1,h⟩:=aD h
  split at h
  ·obtain⟨sz,h2,⟨j,h3,h4,h⟩⟩:=aD h
   obtain⟨q,h5,h⟩:=aD h
   exact⟨_,_,fun o ho=>tO hE ho hy hx h1 h2 h3 h4 h5,h⟩
  ·exact h.elim
noncomputable def DI (t:TypeId) (a i:SVal) (st:St) (K:SVal->St->Prop):Prop:=Jy i fun _ n=>cC (under E t) fun d=>match d with
 | .string=>match a with
  | .str l=>∃(j:Nat) (b:UInt8),n=(j:Int)/\l[j]? =some b/\K (.int .u8 b.toNat) st
  |_=>False
 | .array m el=>match a with
  | .agg l=>cC (cQ E el) fun sz=>M7 n m fun j=>cC (KK E el l (j*sz)) fun q=>K q st
  |_=>False
 |_=>False
theorem Ht (hE:bt P E) {t:TypeId} {x ix:Operand} {ev:jA} {st:St} {a i:SVal} {K:SVal->St->Prop} (hx:ev x=some a) (hy:ev ix=some i) (h:DI E t a i st K):Du P (.index t x ix) ev st K:=by
 unfold DI at h
 obtain⟨k,n,rfl,h⟩:=jy h
 obtain⟨d,h1,h⟩:=aD h
 split at h
 ·split at h
  ·obtain⟨j,b,h2,h3,h⟩:=h
   exact⟨_,_,fun o ho=>wI hE ho hy hx h1 h2 h3,h⟩
  ·exact h.elim
 ·split at h
  ·obtain⟨sz,h2,⟨j,h3,h4,h⟩⟩:=aD h
   obtain⟨q,h5,h⟩:=aD h
   exact⟨_,_,fun o ho=>wL hE ho hy hx h1 h2 h3 h4 (BO h5),h⟩
  ·exact h.elim
 ·exact h.elim
end
section
variable (P:Program) (E:Env)
noncomputable def Sg (ev:jA) (k s:Nat) (rows:List (List SVal)) (x:Operand):Option SVal:=match ev x with
 |some (.own k' s')=>if k'=k/\s'=s then some (.aE false rows) else none
 |v=>v
theorem Ac {ev:jA} {k s:Nat} {rows:List (List SVal)} {x:Operand} {kk:IntKind} {n:Int} (h:ev x=some (.int kk n)):Sg ev k s rows x=some (.int kk n):=by unfold Sg;rw[h]
theorem Pe {ev:jA} {k s:Nat} {rows:List (List SVal)} {lo:Option Operand} {bl:Option Int} (h:ym ev lo=some bl):ym (Sg ev k s rows) lo=some bl:=by
 cases lo with
 |none=>exact h
 |some x=>
  have h:eH (ev x) (fun v=>match v with| .int _ n=>some (some n)|_=>none)=some bl:=h
  rw[bf] at h
  obtain⟨v,h1,h2⟩:=h
  show eH (Sg ev k s rows x) _=_
  split at h2
  ·rw[Ac h1];exact h2
  ·cases h2
theorem tL {P:Program} {E:Env} {o:Oper} {ev:jA} {st:St} (hE:bt P E) {t el sz m:Nat} {x hi mx:Operand} {lo:Option Operand} {k s:Nat} {rows:List (List SVal)} {z:Bool} {bl:Option Int} {k1 k2:IntKind} {nh nm:Int} {l h:Nat} (ho:o.op= .slice t x lo (some hi) (some mx)) (hx:ev x=some (.own k s)) (ht:dr E t=some el) (hsz:cQ E el=some sz)
  (hk:st.look k=some (.row m rows s z)) (hlr:∀r∈rows,r.length=sz) (hl:ym ev lo=some bl) (hh:ev hi=some (.int k1 nh)) (hm:ev mx=some (.int k2 nm)) (hbl:iv bl 0 l) (hnh:nh=(h:Int)) (hnm:nm=(h:Int)) (h1:l<=h) (h2:h<=rows.length):
  bD P o ev st (.aE true ((rows.take h).drop l)) (st.put k (.row m rows s true)) where
 nd:=by simp[ho]
 eP:=dt _ hk
 ok:=fun{c w} hr hwf hfr {e} he a next Q hn=>by
  obtain⟨c1,e1,r1,s1,d1⟩:=oX hk hr
  have g:=ma (P:=P) (st:=st.put k (.row m rows s true)) hE (ev:=Sg ev k s rows) ho (by unfold Sg;rw[hx];exact Th ⟨rfl,rfl⟩) ht hsz hlr (Pe hl) (Ac hh) (Ac hm) hbl hnh hnm h1 h2
  refine g.ok r1 (hwf.eP (dt _ hk)) (fun j g1 g2=>by omega) (fun y hy v hv=> ?_) a next Q fun c' v w' gd=>hn c' v w' ⟨gd.val,gd.rep,s1.trans gd.step (Tp _) (Tp _)⟩
  unfold Sg at hv
  split at hv
  ·rename_i k' s' hy'
   split at hv
   ·rename_i hks
    obtain⟨rfl,rfl⟩:=hks
    cases hv
    exact d1 _ (he y hy _ hy')
   ·cases hv
  ·exact Den.le s1.le _ _ (he y hy v hv)
noncomputable def DG (ev:jA) (t:TypeId) (a:SVal) (lo hi mx:Option Operand) (st:St) (K:SVal->St->Prop):Prop:=match a with
 | .str s=>match mx with
  |none=>cC (under E t) fun d=>match d with
   | .string=>cC (ym ev lo) fun bl=>cC (ym ev hi) fun bh=>∃l h:Nat,iv bl 0 l/\iv bh s.length h/\l<=h/\h<=s.length/\K (.str ((s.take h).drop l)) st
   |_=>False
  |some _=>False
 | .aE _ rows=>cC (dr E t) fun el=>cC (cQ E el) fun sz=>match mx with
  |none=>cC (ym ev lo) fun bl=>cC (ym ev hi) fun bh=>(∀r∈rows,r.length=sz)/\∃l h:Nat,iv bl 0 l/\iv bh rows.length h/\l<=h/\h<=rows.length/\wm ((rows.take h).drop l) fun r=>K (.aE false r) st
  |some mx=>match hi with
   |some hi=>cC (ym ev lo) fun bl=>cC (ev hi) fun vh=>cC (ev mx) fun vm=>Jy vh fun _ nh=>Jy vm fun _ nm=>(∀r∈rows,r.length=sz)/\∃l h:Nat,iv bl 0 l/\nh=(h:Int)/\nm=(h:Int)/\l<=h/\h<=rows.length/\wm ((rows.take h).drop l) fun r=>K (.aE true r) st
   |none=>False
 | .own k s=>match st.look k with
  |some (.row m rows s' z)=>cC (dr E t) fun el=>cC (cQ E el) fun sz=>yes (Nat.beq m sz) (yes (Nat.beq s' s) (match lo,hi,mx,z with
   |none,some hi,none,false=>cC (ev hi) fun vh=>Jy vh fun _ n=>∃h:Nat,n=(h:Int)/\h<=rows.length/\wm (rows.take h) fun r=>hJ st k (.row m r (s+1) false) fun st'=>K (.own k (s+1)) st'
   |lo,some hi,some mx,z=>cC (ym ev lo) fun bl=>cC (ev hi) fun vh=>cC (ev mx) fun vm=>Jy vh fun _ nh=>Jy vm fun _ nm=>(∀r∈rows,r.length=sz)/\∃l h:Nat,iv bl 0 l/\nh=(h:Int)/\nm=(h:Int)/\l<=h/\h<=rows.length/\wm ((rows.take h).drop l) fun r=>hJ st k (.row m rows s true) fun st'=>K (.aE true r) st'
   |_,_,_,_=>False))
  |_=>False
 | .ax=>match mx with
  |none=>cC (dr E t) fun el=>cC (cQ E el) fun _=>cC (ym ev lo) fun bl=>cC (ym ev hi) fun bh=>iv bl 0 0/\iv bh 0 0/\K .ax st
  |some _=>False
 |_=>False
theorem Hr (hE:bt P E) {t:TypeId} {x:Operand} {lo hi mx:Option Operand} {ev:jA} {st:St} {a:SVal} {K:SVal->St->Prop} (hx:ev x=some a) (h:DG E ev t a lo hi mx st K):Du P (.slice t x lo hi mx) ev st K:=by
 unfold DG at h
 split at h
 ·split at h
  ·obtain⟨d,h1,h⟩:=aD h
   split at h
   ·obtain⟨bl,h2,g⟩:=aD h
    obtain⟨bh,h3,l,h',h4,h5,h6,h7,g⟩:=aD g
    exact⟨_,_,fun o ho=>wB hE ho hx h1 h2 h3 h4 h5 h6 h7,g⟩
   ·exact h.elim
  ·exact h.elim
 ·obtain⟨el,h1,g⟩:=aD h
  obtain⟨sz,h2,g⟩:=aD g
  split at g
  ·obtain⟨bl,h3,g⟩:=aD g
   obtain⟨bh,h4,h5,l,h',h6,h7,h8,h9,⟨g⟩⟩:=aD g
   exact⟨_,_,fun o ho=>wD hE ho hx h1 h2 h5 h3 h4 h6 h7 h8 h9,g⟩
  ·split at g
   ·obtain⟨bl,h3,g⟩:=aD g
    obtain⟨vh,h4,g⟩:=aD g
    obtain⟨vm,h5,g⟩:=aD g
    obtain⟨k1,nh,e1,g1⟩:=jy g
    obtain⟨k2,nm,e2,h6,l,h',h7,h8,h9,h10,h11,⟨g2⟩⟩:=jy g1
    subst e1
    subst e2
    exact⟨_,_,fun o ho=>ma hE ho hx h1 h2 h6 h3 h4 h5 h7 h8 h9 h10 h11,g2⟩
   ·exact g.elim
 ·split at h
  ·rename_i hk
   obtain⟨el,h1,g1⟩:=aD h
   obtain⟨sz,h2,g2⟩:=aD g1
   obtain⟨h3,g3⟩:=bY g2
   obtain⟨h4,g4⟩:=bY g3
   cases T3 h3
   cases T3 h4
   clear h g1 g2 g3
   split at g4
   ·obtain⟨vh,h5,g5⟩:=aD g4
    obtain⟨k1,n,e1,h',h6,h7,⟨g6⟩⟩:=jy g5
    subst e1
    exact⟨_,_,fun o ho=>wE hE ho hx h1 h2 hk h5 h6 h7,du g6⟩
   ·obtain⟨bl,h3,g⟩:=aD g4
    obtain⟨vh,h4,g⟩:=aD g
    obtain⟨vm,h5,g⟩:=aD g
    obtain⟨k1,nh,e1,g1⟩:=jy g
    obtain⟨k2,nm,e2,h6,l,h',h7,h8,h9,h10,h11,⟨g2⟩⟩:=jy g1
    subst e1
    subst e2
    exact⟨_,_,fun o ho=>tL hE ho hx h1 h2 hk h6 h3 h4 h5 h7 h8 h9 h10 h11,du g2⟩
   ·exact g4.elim
  ·exact h.elim
 ·split at h
  ·obtain⟨el,h1,g⟩:=aD h
   obtain⟨sz,h2,g⟩:=aD g
   obtain⟨bl,h3,g⟩:=aD g
   obtain⟨bh,h4,h5,h6,g⟩:=aD g
   exact⟨_,_,fun o ho=>wC hE ho hx h1 h2 h3 h4 h5 h6,g⟩
  ·exact h.elim
 ·exact h.elim
noncomputable def QS (t:TypeId) (a:SVal) (st:St) (K:SVal->Prop):Prop:=match a with
 | .str l=>cC (under E t) fun d=>match d with
  | .string=>K (.int .i64 l.length)
  |_=>False
 | .map k=>match st.look k with
  |some (.map es)=>cC (under E t) fun d=>match d with
   | .map _ _=>Jr es fun n=>K (.int .i64 n)
   |_=>False
  |_=>False
 |a=>cC (under E t) fun d=>match d with
  | .slice _=>J9 st a fun rows=>Jr rows fun n=>K (.int .i64 n)
  | .array n _=>K (.int .i64 n)
  |_=>False
theorem L0 {t e:TypeId} (h:under E t=some (.slice e)):dr E t=some e:=by
 unfold dr
 rw[h]
 rfl
theorem Nu (hE:bt P E) {d:Go.Call} {ev:jA} {st:St} {t:TypeId} {a:SVal} {K:SVal->St->Prop} (hb:d.callee= .builtin .len) (hev:lZ ev d.args.toList=some [a]) (ht:d.argTypes[0]? =some t) (h:QS E t a st fun s=>K s st):Du P (.call d) ev st K:=by
 unfold QS at h
 split at h
 ·obtain⟨u,h1,g⟩:=aD h
  split at g
  ·exact⟨_,_,fun o ho=>Br hE ho hb hev ht h1,g⟩
  ·exact g.elim
 ·split at h
  ·rename_i hk
   obtain⟨u,h1,g⟩:=aD h
   split at g
   ·exact⟨_,_,fun o ho=>Bs hE ho hb hev ht h1 hk,g.out⟩
   ·exact g.elim
  ·exact h.elim
 ·obtain⟨u,h1,g⟩:=aD h
  split at g
  ·obtain⟨rows,h2,g⟩:=zg g
   exact⟨_,_,fun o ho=>zo hE ho hb hev ht (L0 E h1) h2,g.out⟩
  ·exact⟨_,_,fun o ho=>Bt hE ho hb hev ht h1,g⟩
  ·exact g.elim
noncomputable def yX (t tx:TypeId) (a x:SVal) (st:St) (K:SVal->St->Prop):Prop:=
 cC (dr E t) fun e=>cC (dr E tx) fun _=>cC (cQ E e) fun size=>cC (mL E e) fun b=>yes (Nat.ble b 4096)<|cC (iH E e) fun z=>yes (Nat.beq (bT z).length size)<|J9 st x fun new=>
  (∀r∈new,r.length=size)/\match a with
   | .ax=>new.length<=1000000000/\wm new fun r=>j0 st (.row size r 0 false) fun n st'=>K (.own n 0) st'
   | .aE true []=>new.length<=1000000000/\wm new fun r=>j0 st (.row size r 0 false) fun n st'=>K (.own n 0) st'
   | .aE true rows=>(∀r∈rows,r.length=size)/\1<=new.length/\rows.length+new.length<=1000000000/\wm (rows++new) fun r=>j0 st (.row size r 0 false) fun n st'=>K (.own n 0) st'
   | .own k s=>match st.look k with
    |some (.row m rows s' z)=>yes (Nat.beq m size) (yes (Nat.beq s' s) (rows.length+new.length<=1000000000/\wm (rows++new) fun r=>hJ st k (.row m r (s+1) z) fun st'=>K (.own k (s+1)) st'))
    |_=>False
   |_=>False
theorem DK (hE:bt P E) {d:Go.Call} {ev:jA} {st:St} {t tx:TypeId} {a x:SVal} {K:SVal->St->Prop} (hb:d.callee= .builtin .append) (hev:lZ ev d.args.toList=some [a,x]) (ht:d.argTypes= #[t,tx]) (h:yX E t tx a x st K):Du P (.call d) ev st K:=by
 unfold yX at h
 obtain⟨e,h1,g⟩:=aD h
 obtain⟨e',h2,g⟩:=aD g
 obtain⟨size,h3,g⟩:=aD g
 obtain⟨b,h4,g⟩:=aD g
 obtain⟨h5,g⟩:=bY g
 obtain⟨z,h6,g⟩:=aD g
 obtain⟨h7,g⟩:=bY g
 obtain⟨new,h8,h9,g⟩:=zg g
 have hT:Qn P E d t tx e size:=⟨ht,h1,⟨_,h2⟩,h3,⟨b,h4,h5⟩,⟨z,h6,h7⟩⟩
 split at g
 ·exact⟨_,_,fun o ho=>mb hE ho hb hev hT (.inl rfl) h8 h9 g.1,fb g.2.out⟩
 ·exact⟨_,_,fun o ho=>mb hE ho hb hev hT (.inr rfl) h8 h9 g.1,fb g.2.out⟩
 ·exact⟨_,_,fun o ho=>sE hE ho hb hev hT h8 h9 g.1 g.2.1 g.2.2.1,fb g.2.2.2.out⟩
 ·split at g
  ·rename_i hk
   obtain⟨e1,g1⟩:=bY g
   obtain⟨e2,g2⟩:=bY g1
   cases T3 e1
   cases T3 e2
   exact⟨_,_,fun o ho=>tQ hE ho hb hev hT hk h8 h9 g2.1,du g2.2.out⟩
  ·exact g.elim
 ·exact g.elim
noncomputable def JI (t tx:TypeId) (a x:SVal) (st:St) (K:SVal->St->Prop):Prop:=match a with
 | .own k s=>match st.look k with
  |some (.row m rows s' false)=>cC (dr E t) fun e=>cC (dr E tx) fun _=>cC (cQ E e) fun size=>yes (Nat.beq m size)<|yes (Nat.beq s' s)<|J9 st x fun new=>
    (∀r∈new,r.length=size)/\new.length=rows.length/\wm new fun r=>hJ st k (.row m r s false) fun st'=>K (.int .i64 rows.length) st'
  |_=>False
 |_=>False
theorem JH (hE:bt P E) {d:Go.Call} {ev:jA} {st:St} {t tx:TypeId} {a x:SVal} {K:SVal->St->Prop} (hb:d.callee= .builtin .copy) (hev:lZ ev d.args.toList=some [a,x]) (ht:d.argTypes= #[t,tx]) (h:JI E t tx a x st K):Du P (.call d) ev st K:=by
 unfold JI at h
 split at h
 ·split at h
  ·rename_i hk
   obtain⟨e,h1,g⟩:=aD h
   obtain⟨e',h2,g⟩:=aD g
   obtain⟨size,h3,g⟩:=aD g
   obtain⟨e1,g1⟩:=bY g
   obtain⟨e2,g2⟩:=bY g1
   obtain⟨new,h4,h5,h6,⟨g3⟩⟩:=zg g2
   cases T3 e1
   cases T3 e2
   exact⟨_,_,fun o ho=>Kj hE ho hb hev ht h1 h2 h3 hk h4 h5 h6,du g3⟩
  ·exact h.elim
 ·exact h.elim
noncomputable def DF (t tn:TypeId) (a:SVal) (n:Int) (st:St) (K:SVal->St->Prop):Prop:=match a with
 | .ax=>cC (dr E t) fun e=>cC (under E tn) fun dn=>match dn with
  | .int _=>cC (cQ E e) fun size=>cC (mL E e) fun b=>yes (Nat.ble b 4096)<|cC (iH E e) fun z=>lq z fun cs=>yes (Nat.beq cs.length size)<|yes (Nat.ble 1 size)<|yes (gb cs)<|
    ∃k:Nat,n=(k:Int)/\0<k/\k<=1000000000/\wm (List.replicate k cs) fun r=>j0 st (.row size r 0 false) fun n st'=>K (.own n 0) st'
  |_=>False
 |_=>False
theorem Hq (hE:bt P E) {d:Go.Call} {ev:jA} {st:St} {t tn:TypeId} {a:SVal} {kq:IntKind} {n:Int} {K:SVal->St->Prop} (hb:d.callee= .builtin .append) (hev:lZ ev d.args.toList=some [a,.int kq n]) (ht:d.argTypes= #[t,tn]) (h:DF E t tn a n st K):Du P (.call d) ev st K:=by
 unfold DF at h
 split at h
 ·obtain⟨e,h1,g⟩:=aD h
  obtain⟨dn,h2,g⟩:=aD g
  split at g
  ·obtain⟨size,h3,g⟩:=aD g
   obtain⟨b,h4,g⟩:=aD g
   obtain⟨h5,g⟩:=bY g
   obtain⟨z,h6,g⟩:=aD g
   have g:=fH g
   obtain⟨h7,g⟩:=bY g
   obtain⟨h8,g⟩:=bY g
   obtain⟨h9,k,h10,h11,h12,⟨g⟩⟩:=bY g
   exact⟨_,_,fun o ho=>qT hE ho hb hev ht h1 h2 h3 h4 h5 h6 h7 h8 h9 h10 h11 h12,fb g⟩
  ·exact g.elim
 ·exact h.elim
noncomputable def QT (t:TypeId) (a:SVal) (K:SVal->Prop):Prop:=cC (dr E t) fun _=>match a with
 | .ax=>K (.int .i64 (0:Nat))
 | .aE true rows=>K (.int .i64 rows.length)
 |_=>False
theorem Nv (hE:bt P E) {d:Go.Call} {ev:jA} {st:St} {t:TypeId} {a:SVal} {K:SVal->St->Prop} (hb:d.callee= .builtin .cap) (hev:lZ ev d.args.toList=some [a]) (ht:d.argTypes[0]? =some t) (h:QT E t a fun s=>K s st):Du P (.call d) ev st K:=by
 unfold QT at h
 obtain⟨e,h1,g⟩:=aD h
 split at g
 ·exact⟨_,_,fun o ho=>FV hE ho hb hev ht h1 (.inl ⟨rfl,rfl⟩),g⟩
 ·exact⟨_,_,fun o ho=>FV hE ho hb hev ht h1 (.inr ⟨_,rfl,rfl⟩),g⟩
 ·exact g.elim
noncomputable def JK (d:Go.Call) (ev:jA) (st:St) (K:SVal->St->Prop):Prop:=match d with
 |⟨.value fop,args,_⟩=>cC (ev fop) fun f=>cC (lZ ev args.toList) fun ss=>match f with
  | .func (.func f) first cap=>cC (MQ ss cap) fun r=>cC (MQ first r) fun all=>eL P f all st K
  | .func (.yield k) _ _=>M0 P k ss st K
  |_=>False
 |⟨.builtin b,args,⟨ts⟩⟩=>cC (lZ ev args.toList) fun ss=>match b with
  | .len=>match ts,ss with
   |t::_,[a]=>QS E t a st fun s=>K s st
   |_,_=>False
  | .append=>match ts,ss with
   |[t,tx],[a,.int _ n]=>DF E t tx a n st K
   |[t,tx],[a,x]=>yX E t tx a x st K
   |_,_=>False
  | .copy=>match ts,ss with
   |[t,tx],[a,x]=>JI E t tx a x st K
   |_,_=>False
  | .cap=>match ts,ss with
   |t::_,[a]=>QT E t a fun s=>K s st
   |_,_=>False
  | .max=>match ss with
   |[.int k a,.int k' b]=>yes (decide (k'=k)) (K (.int k (if b>a then b else a)) st)
   |_=>False
  | .min=>match ss with
   |[.int k a,.int k' b]=>yes (decide (k'=k)) (K (.int k (if b<a then b else a)) st)
   |_=>False
  |_=>False
 |_=>False
theorem JJ (hE:bt P E) {d:Go.Call} {ev:jA} {st:St} {K:SVal->St->Prop} (h:JK P E d ev st K):Du P (.call d) ev st K:=by
 unfold JK at h
 split at h
 ·obtain⟨f,h1,g⟩:=aD h
  obtain⟨ss,h2,g⟩:=aD g
  split at g
  ·obtain⟨r,h3,g⟩:=aD g
   obtain⟨all,h4,g⟩:=aD g
   obtain⟨s,st',h5,g⟩:=g.out
   exact⟨s,st',fun o ho=>h5 o _ _ _ _ _ ev ho rfl h1 h2 (by rw[AA h4,AA h3]),g⟩
  ·obtain⟨s,st',h5,g⟩:=g.out
   exact⟨s,st',fun o ho=>h5 o _ _ _ _ ev ho rfl h1 h2,g⟩
  ·exact g.elim
 ·obtain⟨ss,h2,g⟩:=aD h
  split at g
  ·split at g
   ·exact Nu P E hE (d:=⟨.builtin .len,_,_⟩) rfl h2 rfl g
   ·exact g.elim
  ·split at g
   ·exact Hq P E hE (d:=⟨.builtin .append,_,_⟩) rfl h2 rfl g
   ·exact DK P E hE (d:=⟨.builtin .append,_,_⟩) rfl h2 rfl g
   ·exact g.elim
  ·split at g
   ·exact JH P E hE (d:=⟨.builtin .copy,_,_⟩) rfl h2 rfl g
   ·exact g.elim
  ·split at g
   ·exact Nv P E hE (d:=⟨.builtin .cap,_,_⟩) rfl h2 rfl g
   ·exact g.elim
  ·split at g
   ·obtain⟨hk,g1⟩:=bY g
    cases TF hk
    exact⟨_,_,fun o ho=>Kh ho rfl h2,g1⟩
   ·exact g.elim
  ·split at g
   ·obtain⟨hk,g1⟩:=bY g
    cases TF hk
    exact⟨_,_,fun o ho=>Kg ho rfl h2,g1⟩
   ·exact g.elim
  ·exact g.elim
 ·exact h.elim
end
section
variable (P:Program) (E:Env)
noncomputable def DJ (t:TypeId) (ps:List (Nat×SVal)) (K:SVal->Prop):Prop:=cC (iH E t) fun z=>cC (under E t) fun d=>match d with
 | .struct fs=>cC (places E fs.toList) fun pl=>lq z fun cs=>cC (yl (fun i=>pl[i]?) ps cs) fun l=>K (.agg l)
 | .array _ el=>cC (cQ E el) fun size=>lq z fun cs=>cC (yl (fun i=>some (i*size,size)) ps cs) fun l=>K (.agg l)
 |_=>False
theorem Hu (hE:bt P E) {t:TypeId} {parts:Array (Nat×Operand)} {ev:jA} {st:St} {ps:List (Nat×SVal)} {K:SVal->St->Prop} (hps:CD ev parts.toList=some ps) (h:DJ E t ps fun s=>K s st):Du P (.build t parts) ev st K:=by
 unfold DJ at h
 obtain⟨z,h1,g⟩:=aD h
 obtain⟨d,h2,g⟩:=aD g
 split at g
 ·obtain⟨pl,h3,g⟩:=aD g
  have g:=fH g
  obtain⟨l,h4,g⟩:=aD g
  refine⟨_,_,fun o ho=>xq hE ho h1 h2 hps ?_,g⟩
  have h5:=ql h4
  unfold tg
  simp only[h3,eH,h5]
 ·obtain⟨size,h3,g⟩:=aD g
  have g:=fH g
  obtain⟨l,h4,g⟩:=aD g
  refine⟨_,_,fun o ho=>xq hE ho h1 h2 hps ?_,g⟩
  have h5:=ql h4
  unfold tg
  simp only[h3,eH,h5]
 ·exact g.elim
noncomputable def l5 (t:TypeId) (len:Nat) (ps:List (Nat×SVal)) (st:St) (K:SVal->St->Prop):Prop:=
 cC (dr E t) fun el=>cC (cQ E el) fun size=>cC (iH E el) fun z=>yes (Nat.ble (len*size) 1000000)<|lq z fun cs=>yes (Nat.beq cs.length size)<|
  cC (yl (fun i=>some (i*size,size)) ps (n5 cs len)) fun l=>fzB l st fun l st=>yes (gb l)<|cC (Ar size len l) fun rows=>j0 st (.row size rows 0 false) fun n st'=>K (.own n 0) st'
theorem tv (hE:bt P E) {t:TypeId} {len:Nat} {parts:Array (Nat×Operand)} {ev:jA} {st:St} {ps:List (Nat×SVal)} {K:SVal->St->Prop} (hps:CD ev parts.toList=some ps) (h:l5 E t len ps st K):Du P (.buildSlice t len parts) ev st K:=by
 unfold l5 at h
 obtain⟨el,h1,g⟩:=aD h
 obtain⟨size,h2,g⟩:=aD g
 obtain⟨z,h3,g⟩:=aD g
 obtain⟨h4,g⟩:=bY g
 have g:=fH g
 obtain⟨h5,g⟩:=bY g
 obtain⟨l,h6,g⟩:=aD g
 obtain⟨l',st',ha,g⟩:=u6 g
 obtain⟨h7,g⟩:=bY g
 obtain⟨rows,h8,g⟩:=aD g
 cases yG h8
 exact⟨_,_,fun o ho=>oL hE ho h1 h2 h3 hps h4 h5 (ql h6) ha h7,fb g⟩
noncomputable def tu (a b:TypeId) (v:SVal) (st:St) (K:SVal->Prop):Prop:=cC (under E a) fun da=>cC (under E b) fun db=>match v with
 | .int _ n=>match da,db with
  | .int _,.int k'=>xd k' n/\K (.int k' n)
  |_,_=>False
 | .str l=>match da,db with
  | .string,.string=>K (.str l)
  |_,_=>False
 |s=>match da,db with
  | .slice e8,.string=>cC (under E e8) fun d8=>match d8 with
   | .int .u8=>∃l,dm st s (im l)/\K (.str l)
   |_=>False
  |_,_=>False
theorem AU (hE:bt P E) {a b:TypeId} {x:Operand} {ev:jA} {st:St} {v:SVal} {K:SVal->St->Prop} (hx:ev x=some v) (h:tu E a b v st fun s=>K s st):Du P (.convert a b x) ev st K:=by
 unfold tu at h
 obtain⟨da,h1,g⟩:=aD h
 obtain⟨db,h2,g⟩:=aD g
 split at g
 ·split at g
  ·exact⟨_,_,fun o ho=>zq hE ho hx h1 h2 g.1,g.2⟩
  ·exact g.elim
 ·split at g
  ·exact⟨_,_,fun o ho=>zp hE ho hx h1 h2,g⟩
  ·exact g.elim
 ·split at g
  ·obtain⟨d8,h3,g⟩:=aD g
   split at g
   ·obtain⟨l,h4,g⟩:=g
    exact⟨_,_,fun o ho=>tP hE ho hx h1 h2 h3 h4,g⟩
   ·exact g.elim
  ·exact g.elim
def K3:SVal->Bool
 | .ptr _ _=>true
 | .fq _ _ _ _=>true
 | .bN _ _=>true
 | .func (.func _) _ _=>true
 |_=>false
theorem K2 {s:SVal} (h:K3 s=true):(∃k off,s= .ptr k off)\/(∃k t i off,s= .fq k t i off)\/(∃r off,s= .bN r off)\/(∃f a b,s= .func (.func f) a b):=by
 unfold K3 at h
 split at h
 ·exact .inl ⟨_,_,rfl⟩
 ·exact .inr (.inl ⟨_,_,_,_,rfl⟩)
 ·exact .inr (.inr (.inl ⟨_,_,rfl⟩))
 ·exact .inr (.inr (.inr ⟨_,_,_,rfl⟩))
 ·cases h
noncomputable def yW (t:TypeId) (m key:SVal) (ok:Bool) (st:St) (K:SVal->Prop):Prop:=match m with
 | .map k=>match st.look k with
  |some (.map es)=>cC (eH (under E t) IB) fun ke=>cC (under E ke.1) fun d=>cC (iH E ke.2) fun z=>fL d key/\(∀p∈es,fL d p.1)/\∃r,iu es key r/\match r with
   |none=>K (Gs ok z false)
   |some p=>K (Gs ok p.2 true)
  |_=>False
 |_=>False
theorem DH (hE:bt P E) {t:TypeId} {x ix:Operand} {ok:Bool} {ev:jA} {st:St} {m key:SVal} {K:SVal->St->Prop} (hx:ev x=some m) (hy:ev ix=some key) (h:yW E t m key ok st fun s=>K s st):Du P (.lookup t x ix ok) ev st K:=by
 unfold yW at h
 split at h
 ·split at h
  ·rename_i hk
   obtain⟨ke,h1,g⟩:=aD h
   obtain⟨d,h2,g⟩:=aD g
   obtain⟨z,h3,h4,h5,r,h6,g⟩:=aD g
   split at g
   ·exact⟨_,_,fun o ho=>tN hE ho h1 h2 hx hy hk h4 h5 h6 (.inl ⟨rfl,z,h3,rfl⟩),g⟩
   ·exact⟨_,_,fun o ho=>tN hE ho h1 h2 hx hy hk h4 h5 h6 (.inr ⟨_,_,rfl,rfl⟩),g⟩
  ·exact h.elim
 ·exact h.elim
noncomputable def sM (t:TypeId) (m key v:SVal) (st:St) (K:SVal->St->Prop):Prop:=match m with
 | .map k=>match st.look k with
  |some (.map es)=>cC (eH (under E t) IB) fun ke=>cC (under E ke.1) fun d=>fL d key/\(∀p∈es,fL d p.1)/\iu es key none/\hJ st k (.map (es++[(key,v)])) fun st'=>K (.dT []) st'
  |_=>False
 |_=>False
theorem tq (hE:bt P E) {op:Op} {t:TypeId} {x ix y:Operand} {ev:jA} {st:St} {m key v:SVal} {K:SVal->St->Prop} (hop:op= .mapUpdate t x ix y\/op= .insert t x ix y) (hx:ev x=some m) (hy:ev ix=some key) (hv:ev y=some v) (h:sM E t m key v st K):Du P op ev st K:=by
 unfold sM at h
 split at h
 ·split at h
  ·rename_i hk
   obtain⟨ke,h1,g⟩:=aD h
   obtain⟨d,h2,h4,h5,h6,g⟩:=aD g
   exact⟨_,_,fun o ho=>wG hE (ho▸hop) h1 h2 hx hy hv hk h4 h5 h6,du g⟩
  ·exact h.elim
 ·exact h.elim
noncomputable def oC (t:TypeId) (a b:SVal) (st:St) (K:SVal->St->Prop):Prop:=Jy a fun _ li=>Jy b fun _ ci=>
 cC (dr E t) fun el=>cC (mL E el) fun bytes=>cC (cQ E el) fun size=>cC (iH E el) fun z=>yes (Nat.ble bytes 4096)<|lq z fun cs=>yes (Nat.beq cs.length size)<|yes (gb cs)<|
  ∃l cp:Nat,li=(l:Int)/\ci=(cp:Int)/\l<=cp/\cp<1000000000/\wm (List.replicate l cs) fun r=>j0 st (.row size r 0 false) fun n st'=>K (.own n 0) st'
theorem wo (hE:bt P E) {t:TypeId} {x y:Operand} {ev:jA} {st:St} {a b:SVal} {K:SVal->St->Prop} (hx:ev x=some a) (hy:ev y=some b) (h:oC E t a b st K):Du P (.makeSlice t x y) ev st K:=by
 unfold oC at h
 obtain⟨k1,li,e1,g1⟩:=jy h
 obtain⟨k2,ci,e2,g⟩:=jy g1
 subst e1
 subst e2
 obtain⟨el,h1,g⟩:=aD g
 obtain⟨bytes,h2,g⟩:=aD g
 obtain⟨size,h3,g⟩:=aD g
 obtain⟨z,h4,g⟩:=aD g
 obtain⟨h5,g⟩:=bY g
 have g:=fH g
 obtain⟨h6,g⟩:=bY g
 obtain⟨h7,l,cp,h8,h9,h10,h11,⟨g⟩⟩:=bY g
 exact⟨_,_,fun o ho=>wH hE ho hx hy h8 h9 h10 h11 h1 h2 h3 h4 h5 h6 h7,fb g⟩
noncomputable def xOp (op:Op) (ev:jA) (st:St) (K:SVal->St->Prop):Prop:=match op with
 | .move x=>cC (ev x) fun s=>K s st
 | .assign x=>cC (ev x) fun s=>K s st
 | .pick c a b=>cC (ev c) fun v=>asB v fun t=>way t (cC (ev a) fun s=>K s st) (cC (ev b) fun s=>K s st)
 | .alloc t=>cC (iH E t) fun z=>lq z fun l=>j0 st (.cells l) fun n st'=>K (.ptr n 0) st'
 | .box _ x=>cC (ev x) fun v=>lq v fun l=>j0 st (.cells l) fun n st'=>K (.ptr n 0) st'
 | .build t ps=>cC (CD ev ps.toList) fun ps=>DJ E t ps fun s=>K s st
 | .buildSlice t n ps=>cC (CD ev ps.toList) fun ps=>l5 E t n ps st K
 | .insert t m k v=>cC (ev m) fun m=>cC (ev k) fun k=>cC (ev v) fun v=>sM E t m k v st K
 | .mapUpdate t m k v=>cC (ev m) fun m=>cC (ev k) fun k=>cC (ev v) fun v=>sM E t m k v st K
 | .load t x=>cC (ev x) fun p=>F8 st p fun l=>cC (uI E t l) fun s=>K s st
 | .store t x y=>cC (ev x) fun p=>cC (ev y) fun s=>cC (cQ E t) fun n=>lq s fun cs=>yes (Nat.beq cs.length n)<|yes (gb cs)<|DN st p cs fun st'=>K (.dT []) st'
 | .nilCheck x=>cC (ev x) fun s=>yes (K3 s) (K s st)
 | .binOp op t x y _=>cC (ev x) fun a=>cC (ev y) fun b=>QU E op t a b fun s=>K s st
 | .unOp .not _ x=>cC (ev x) fun v=>asB v fun b=>K (.bool (!b)) st
 | .unOp .neg _ x=>cC (ev x) fun v=>Jy v fun k n=>xd k (0-n)/\K (.int k (0-n)) st
 | .convert a b x=>cC (ev x) fun v=>tu E a b v st fun s=>K s st
 | .makeFunc fn a b=>yes (dx fn)<|cC (lZ ev a.toList) fun a=>cC (lZ ev b.toList) fun b=>K (.func fn a b) st
 | .makeMap _ none=>j0 st (.map []) fun n st'=>K (.map n) st'
 | .makeSlice t a b=>cC (ev a) fun a=>cC (ev b) fun b=>oC E t a b st K
 | .slice t x lo hi mx=>cC (ev x) fun a=>DG E ev t a lo hi mx st K
 | .fieldAddr t x f=>cC (ev x) fun p=>cC (rr E t f) fun fd=>cC (cQ E fd.type) fun n=>yes (Nat.ble 1 n)<|cC (Il p fd.offset) fun s=>K s st
 | .field t x f=>cC (ev x) fun v=>match v with
  | .agg l=>cC (rr E t f) fun fd=>cC (KK E fd.type l fd.offset) fun s=>K s st
  |_=>False
 | .indexAddr t x i=>cC (ev x) fun a=>cC (ev i) fun i=>oD E t a i st K
 | .index t x i=>cC (ev x) fun a=>cC (ev i) fun i=>DI E t a i st K
 | .lookup t x i ok=>cC (ev x) fun m=>cC (ev i) fun k=>yW E t m k ok st fun s=>K s st
 | .extract x i=>cC (ev x) fun v=>match v with
  | .dT l=>cC (l[i]?) fun s=>K s st
  |_=>False
 | .call d=>JK P E d ev st K
 |_=>False
theorem JG (hE:bt P E) {op:Op} {ev:jA} {st:St} {K:SVal->St->Prop} (h:xOp P E op ev st K):Du P op ev st K:=by
 unfold xOp at h
 split at h
 ·obtain⟨s,h1,g⟩:=aD h
  exact⟨_,_,fun o ho=>Kf ho h1,g⟩
 ·obtain⟨s,h1,g⟩:=aD h
  exact⟨_,_,fun o ho=>Eb ho h1,g⟩
 ·obtain⟨v,h1,g⟩:=aD h
  obtain⟨t,e1,g1⟩:=Fj g
  subst e1
  rcases DS g1 with⟨rfl,g2⟩|⟨rfl,g2⟩
  ·obtain⟨s,h2,g3⟩:=aD g2
   exact⟨_,_,fun o ho=>Bp ho h1 h2,g3⟩
  ·obtain⟨s,h2,g3⟩:=aD g2
   exact⟨_,_,fun o ho=>Bp ho h1 h2,g3⟩
 ·obtain⟨z,h1,g⟩:=aD h
  exact⟨_,_,fun o ho=>H4 hE ho h1,fb (fH g)⟩
 ·obtain⟨z,h1,g⟩:=aD h
  exact⟨_,_,fun o ho=>Ob ho h1,fb (fH g)⟩
 ·obtain⟨ps,h1,g⟩:=aD h
  exact Hu P E hE h1 g
 ·obtain⟨ps,h1,g⟩:=aD h
  exact tv P E hE h1 g
 ·obtain⟨m,h1,g⟩:=aD h
  obtain⟨k,h2,g⟩:=aD g
  obtain⟨v,h3,g⟩:=aD g
  exact tq P E hE (.inr rfl) h1 h2 h3 g
 ·obtain⟨m,h1,g⟩:=aD h
  obtain⟨k,h2,g⟩:=aD g
  obtain⟨v,h3,g⟩:=aD g
  exact tq P E hE (.inl rfl) h1 h2 h3 g
 ·obtain⟨p,h1,g⟩:=aD h
  obtain⟨l,h2,g⟩:=BM g
  obtain⟨s,h3,g⟩:=aD g
  exact⟨_,_,fun o ho=>Ki hE ho h1 h2 (uH h3),g⟩
 ·obtain⟨p,h1,g⟩:=aD h
  obtain⟨s,h2,g⟩:=aD g
  obtain⟨n,h3,g⟩:=aD g
  have g:=fH g
  obtain⟨h4,g⟩:=bY g
  obtain⟨h5,g⟩:=bY g
  obtain⟨st',h6,g⟩:=Hv g
  exact⟨_,_,fun o ho=>HY hE ho h1 h2 h3 h4 (hZ h5) h6,g⟩
 ·obtain⟨s,h1,g⟩:=aD h
  obtain⟨h2,g⟩:=bY g
  exact⟨_,_,fun o ho=>zk ho h1 (K2 h2),g⟩
 ·obtain⟨a,h1,g⟩:=aD h
  obtain⟨b,h2,g⟩:=aD g
  exact Nw P E hE h1 h2 g
 ·obtain⟨v,h1,g⟩:=aD h
  obtain⟨b,e1,g1⟩:=Fj g
  subst e1
  exact⟨_,_,fun o ho=>N9 ho h1,g1⟩
 ·obtain⟨v,h1,g⟩:=aD h
  obtain⟨k,n,e1,g1⟩:=jy g
  subst e1
  exact⟨_,_,fun o ho=>Oa ho h1 g1.1,g1.2⟩
 ·obtain⟨v,h1,g⟩:=aD h
  exact AU P E hE h1 g
 ·obtain⟨h1,g⟩:=bY h
  obtain⟨a,h2,g⟩:=aD g
  obtain⟨b,h3,g⟩:=aD g
  exact⟨_,_,fun o ho=>zl ho h1 h2 h3,g⟩
 ·exact⟨_,_,fun o ho=>Bq ho,fb h⟩
 ·obtain⟨a,h1,g⟩:=aD h
  obtain⟨b,h2,g⟩:=aD g
  exact wo P E hE h1 h2 g
 ·obtain⟨a,h1,g⟩:=aD h
  exact Hr P E hE h1 g
 ·obtain⟨p,h1,g⟩:=aD h
  obtain⟨fd,h2,g⟩:=aD g
  obtain⟨n,h3,g⟩:=aD g
  obtain⟨h4,g⟩:=bY g
  obtain⟨s,h5,g⟩:=aD g
  exact⟨_,_,fun o ho=>wM hE ho h2 h1 h3 h4 h5,g⟩
 ·obtain⟨v,h1,g⟩:=aD h
  split at g
  ·obtain⟨fd,h2,g⟩:=aD g
   obtain⟨s,h3,g⟩:=aD g
   exact⟨_,_,fun o ho=>HZ hE ho h2 h1 (BO h3),g⟩
  ·exact g.elim
 ·obtain⟨a,h1,g⟩:=aD h
  obtain⟨i,h2,g⟩:=aD g
  exact wq P E hE h1 h2 g
 ·obtain⟨a,h1,g⟩:=aD h
  obtain⟨i,h2,g⟩:=aD g
  exact Ht P E hE h1 h2 g
 ·obtain⟨a,h1,g⟩:=aD h
  obtain⟨i,h2,g⟩:=aD g
  exact DH P E hE h1 h2 g
 ·obtain⟨v,h1,g⟩:=aD h
  split at g
  ·obtain⟨s,h2,g⟩:=aD g
   exact⟨_,_,fun o ho=>Bu ho h1 h2,g⟩
  ·exact g.elim
 ·exact JJ P E hE h
 ·exact h.elim
end
section
variable (P:Program) (E:Env)
noncomputable def og (fr:Fr) (d:Option Nat) (v:SVal) (K:Fr->Prop):Prop:=match d with
 |none=>K fr
 |some d=>match fr with
  |⟨n,t⟩=>yes (Nat.ble (Nat.succ d) n) (K ⟨n,(d,v)::t⟩)
theorem pK {fr:Fr} {d:Option Nat} {v:SVal} {K:Fr->Prop} (h:og fr d v K):∃fr',qV fr d v=some fr'/\K fr':=by
 unfold og at h
 split at h
 ·exact⟨_,rfl,h⟩
 ·obtain⟨n,t⟩:=fr
  obtain⟨h1,g⟩:=bY h
  refine⟨_,?_,g⟩
  show yZ (Nat.ble _ n) _=_
  rw[h1]
  rfl
noncomputable def xj (all:List Oper) (fr:Fr) (g:Option (Nat×Bool)) (K:Bool->Fr->Prop):Prop:=match g with
 |none=>K true fr
 |some (j,b)=>cC (all[j]?) fun q=>cC q.dst fun d=>cC (fr.get d) fun v=>match v with
  | .bool c=>match fr with
   |⟨n,t⟩=>way c (K b ⟨n,(d,.bool true)::t⟩) (K (!b) ⟨n,(d,.bool false)::t⟩)
  | .dT []=>K false fr
  |_=>False
structure gz (fr1 fr:Fr):Prop where
 n:fr1.n=fr.n
 get:∀t,fr1.get t=fr.get t
theorem gz.refl (fr:Fr):gz fr fr:=⟨rfl,fun _=>rfl⟩
theorem AM.eqv {P:Program} {ops:Array Oper} {l:List Oper} {fr fr1 fr':Fr} {st st':St} (hf:gz fr1 fr) (h:AM P ops l fr1 st fr' st'):AM P ops l fr st fr' st':=by
 obtain⟨h1,h2,h3⟩:=h
 refine⟨h1,h2.trans hf.n,fun hr hwf hfree hfr=> ?_⟩
 exact h3 hr hwf hfree ⟨hfr.size.trans hf.n.symm,fun t s hs=>hfr.get t s (hf.get t▸hs),hfr.defers⟩
theorem wg.eqv {P:Program} {ops:Array Oper} {l:List Oper} {fr fr1:Fr} {st:St} {Φ:Fr->St->Prop} (hf:gz fr1 fr) (h:wg P ops l fr1 st Φ):wg P ops l fr st Φ:=by
 obtain⟨fr',st',h1,h2⟩:=h
 exact⟨fr',st',h1.eqv hf,h2⟩
theorem u7 {n:Nat} {t:List (Nat×SVal)} {d:Nat} {v:SVal} (h:Fr.get ⟨n,t⟩ d=some v):gz ⟨n,(d,v)::t⟩ ⟨n,t⟩:=by
 refine⟨rfl,fun k=> ?_⟩
 show bx ((d,v)::t) k=bx t k
 rw[bZ]
 split
 ·rename_i e
  subst e
  exact h.symm
 ·rfl
theorem A1 {all:List Oper} {fr:Fr} {g:Option (Nat×Bool)} {K:Bool->Fr->Prop} (h:xj all fr g K):∃b fr1,gz fr1 fr/\l6 all fr1 g=some b/\K b fr1:=by
 unfold xj at h
 split at h
 ·exact⟨true,fr,gz.refl fr,rfl,h⟩
 ·rename_i j b
  obtain⟨q,h1,g⟩:=aD h
  obtain⟨d,h2,g⟩:=aD g
  obtain⟨v,h3,g⟩:=aD g
  have hw:∀(fr1:Fr) (v:SVal),fr1.get d=some v->l6 all fr1 (some (j,b))=gV b v:=by
   intro fr1 v hv
   show eH (all[j]?) _=_
   rw[h1]
   show eH q.dst _=_
   rw[h2]
   show eH (fr1.get d) _=_
   rw[hv]
   rfl
  split at g
  ·obtain⟨n,t⟩:=fr
   simp only[] at g
   rcases DS g with⟨rfl,g⟩|⟨rfl,g⟩
   ·have e:=u7 h3
    refine⟨_,_,e,(hw _ _ ((e.get d).trans h3)).trans ?_,g⟩
    cases b<;>rfl
   ·have e:=u7 h3
    refine⟨_,_,e,(hw _ _ ((e.get d).trans h3)).trans ?_,g⟩
    cases b<;>rfl
  ·exact⟨false,fr,gz.refl fr,(hw fr _ h3).trans rfl,g⟩
  ·exact g.elim
noncomputable def JF (all:List Oper) (l:List Oper):Fr->St->(Fr->St->Prop)->Prop:=
 List.rec (motive:=fun _=>Fr->St->(Fr->St->Prop)->Prop) (fun fr st K=>K fr st)
  (fun o _ ih fr st K=>xj all fr o.guard fun b fr=>match b with
   |true=>xOp P E o.op (DE fr) st fun s st=>og fr o.dst s fun fr=>ih fr st K
   |false=>og fr o.dst (.dT []) fun fr=>ih fr st K) l
theorem yV (hE:bt P E) {ops:Array Oper}:∀{l:List Oper} {fr:Fr} {st:St} {K:Fr->St->Prop},JF P E ops.toList l fr st K->wg P ops l fr st K
 |[],fr,st,K,h=>Ot h
 |o::l,fr,st,K,h=>by
  have h:xj ops.toList fr o.guard fun b fr=>match b with
   |true=>xOp P E o.op (DE fr) st fun s st=>og fr o.dst s fun fr=>JF P E ops.toList l fr st K
   |false=>og fr o.dst (.dT []) fun fr=>JF P E ops.toList l fr st K:=h
  obtain⟨b,fr1,h1,h2,g⟩:=A1 h
  refine wg.eqv h1 ?_
  cases b with
  |true=>
   obtain⟨s,st',h3,g⟩:=JG P E hE g
   obtain⟨fr',h4,g⟩:=pK g
   exact KS h2 (h3 o rfl) h4 (yV hE g)
  |false=>
   obtain⟨fr',h4,g⟩:=pK g
   exact KR h2 h4 (yV hE g)
end
attribute [local irreducible] W
def R (P:Program) (lo:Nat) (z:Code) (fr:Fr) (st:St) (K:Ex->Fr->St->Prop):Prop:=
 ∃x fr' st',(∀Φ:Ex->Fr->St->Prop,Φ x fr' st'->W P lo z fr st Φ)/\K x fr' st'
structure eX (P:Program) (lo:Nat) (z:Code) (fr:Fr) (st:St) (K:Ex->Fr->St->Prop):Prop where
 out:R P lo (.loop z) fr st K
structure wc (P:Program) (lo:Nat) (z:Code) (fr:Fr) (st:St) (K:Ex->Fr->St->Prop):Prop where
 out:R P lo z fr st K
structure Ho (P:Program) (lo:Nat) (id:Nat) (ops:Array Oper) (fr:Fr) (st:St) (K:Fr->St->Prop):Prop where
 out:R P lo (.region id ops true) fr st fun x fr st=>x= .normal/\K fr st
def Bd (k:Fr->St->Prop) (K:Ex->Fr->St->Prop) (x:Ex) (fr:Fr) (st:St):Prop:=match x with
 | .normal=>k fr st
 | .exit j=>K (.exit j) fr st
 | .ret=>K .ret fr st
def zW (id:Nat) (K:Ex->Fr->St->Prop) (x:Ex) (fr:Fr) (st:St):Prop:=match x with
 | .normal=>K .normal fr st
 | .exit j=>match Nat.beq j id with
  |true=>K .normal fr st
  |false=>K (.exit j) fr st
 | .ret=>K .ret fr st
section
variable {P:Program} {lo:Nat} {fr:Fr} {st:St} {K L:Ex->Fr->St->Prop}
theorem R.w {z:Code} (h:R P lo z fr st K):W P lo z fr st K:=by
 obtain⟨x,fr',st',h1,h2⟩:=h
 exact h1 K h2
theorem R.mono {z:Code} (h:R P lo z fr st L) (hk:∀x fr' st',L x fr' st'->K x fr' st'):R P lo z fr st K:=by
 obtain⟨x,fr',st',h1,h2⟩:=h
 exact⟨x,fr',st',h1,hk _ _ _ h2⟩
theorem R.seq {x y:Code} {k:Fr->St->Prop} (h:R P lo x fr st (Bd k K)) (hk:∀fr st,k fr st->R P lo y fr st K):R P lo (.seq x y) fr st K:=by
 obtain⟨e,fr1,st1,h1,h2⟩:=h
 cases e with
 |normal=>
  obtain⟨e2,fr2,st2,h3,h4⟩:=hk _ _ h2
  exact⟨e2,fr2,st2,fun Φ hΦ=>W.seq (h1 _ (h3 Φ hΦ)),h4⟩
 |exit j=>exact⟨_,fr1,st1,fun Φ hΦ=>W.seq (h1 _ hΦ),h2⟩
 |ret=>exact⟨_,fr1,st1,fun Φ hΦ=>W.seq (h1 _ hΦ),h2⟩
theorem R.block {id:Nat} {x:Code} (h:R P lo x fr st (zW id K)):R P lo (.block id x) fr st K:=by
 obtain⟨e,fr1,st1,h1,h2⟩:=h
 cases e with
 |normal=>exact⟨.normal,fr1,st1,fun Φ hΦ=>W.block (h1 _ hΦ),h2⟩
 |ret=>exact⟨.ret,fr1,st1,fun Φ hΦ=>W.block (h1 _ hΦ),h2⟩
 |exit j=>
  unfold zW at h2
  simp only[] at h2
  split at h2
  ·rename_i hb
   have:=T3 hb
   exact⟨.normal,fr1,st1,fun Φ hΦ=>W.block (h1 _ (by show(if j=id then _ else _);rw[Th this];exact hΦ)),h2⟩
  ·rename_i hb
   have:¬j=id:=fun e=>by rw[e,VM] at hb;cases hb
   exact⟨.exit j,fr1,st1,fun Φ hΦ=>W.block (h1 _ (by show(if j=id then _ else _);rw[Ti this];exact hΦ)),h2⟩
theorem R.scope {x:Code} (h:R P lo x fr st K):R P lo (.scope x) fr st K:=by
 obtain⟨e,fr1,st1,h1,h2⟩:=h
 exact⟨e,fr1,st1,fun Φ hΦ=>W.scope (h1 _ hΦ),h2⟩
theorem R.loop {x:Code} (h:R P lo x fr st (Bd (fun fr st=>eX P lo x fr st K) K)):R P lo (.loop x) fr st K:=by
 obtain⟨e,fr1,st1,h1,h2⟩:=h
 cases e with
 |normal=>
  obtain⟨e2,fr2,st2,h3,h4⟩:=h2.out
  exact⟨e2,fr2,st2,fun Φ hΦ=>W.loop (h1 _ (h3 Φ hΦ)),h4⟩
 |exit j=>exact⟨_,fr1,st1,fun Φ hΦ=>W.loop (h1 _ hΦ),h2⟩
 |ret=>exact⟨_,fr1,st1,fun Φ hΦ=>W.loop (h1 _ hΦ),h2⟩
theorem R.less {z:Code} {fr1:Fr} {st1:St} (hf:Fs st1.next fr1 fr) (hs:kO lo st1 st) (h:R P lo z fr1 st1 K):R P lo z fr st K:=by
 obtain⟨x,fr',st',h1,h2⟩:=h
 exact⟨x,fr',st',fun Φ hΦ=>W.less hf hs (h1 Φ hΦ),h2⟩
theorem R.kp {z:Code} {fr1:Fr} (hn:fr1.n=fr.n) (hf:∀t s,fr1.get t=some s->∃s',fr.get t=some s'/\∀c v,Den c s' v->Den c s v) (h:R P lo z fr1 st K):R P lo z fr st K:=by
 obtain⟨x,fr',st',h1,h2⟩:=h
 exact⟨x,fr',st',fun Φ hΦ=>W.kp hn hf (h1 Φ hΦ),h2⟩
end
section
variable (P:Program) (E:Env) (lo:Nat)
noncomputable def xC (z:Code):Fr->St->(Ex->Fr->St->Prop)->Prop:=
 Code.rec (motive:=fun _=>Fr->St->(Ex->Fr->St->Prop)->Prop) (fun fr st K=>K .normal fr st)
  (fun id ops d fr st K=>match d with
   |true=>Ho P lo id ops fr st (K .normal)
   |false=>JF P E ops.toList ops.toList fr st (K .normal))
  (fun _ _ a b fr st K=>a fr st (Bd (fun fr st=>b fr st K) K))
  (fun x _ _ a b fr st K=>cC (DE fr x) fun v=>asB v fun t=>way t (a fr st K) (b fr st K))
  (fun id _ a fr st K=>a fr st (zW id K))
  (fun z _ fr st K=>eX P lo z fr st K)
  (fun f ps x y _ _ fr st K=>wc P lo (.rangeFunc f ps x y) fr st K)
  (fun id fr st K=>K (.exit id) fr st)
  (fun _ a fr st K=>a fr st K)
  (fun _ fr st K=>K .normal fr st)
  (fun _ _ _ _=>False)
  (fun fr st K=>K .ret fr st)
  (fun _ _ _ _=>False) z
theorem jG (hE:bt P E):∀{z:Code} {fr:Fr} {st:St} {K:Ex->Fr->St->Prop},xC P E lo z fr st K->R P lo z fr st K
 | .skip,fr,st,K,h=>⟨_,_,_,fun _=>W.skip,h⟩
 | .label _,fr,st,K,h=>⟨_,_,_,fun _=>W.label,h⟩
 | .exit id,fr,st,K,h=>⟨_,_,_,fun _=>W.exit,h⟩
 | .ret,fr,st,K,h=>⟨_,_,_,fun _=>W.ret,h⟩
 | .region id ops true,fr,st,K,h=>by
  have h:Ho P lo id ops fr st (K .normal):=h
  obtain⟨x,fr',st',h1,h2,h3⟩:=h.out
  subst h2
  exact⟨_,_,_,h1,h3⟩
 | .region id ops false,fr,st,K,h=>by
  have h:JF P E ops.toList ops.toList fr st (K .normal):=h
  obtain⟨fr',st',h1,h2⟩:=yV P E hE h
  exact⟨.normal,fr',st',fun Φ hΦ=>W.ops ⟨fr',st',h1,hΦ⟩,h2⟩
 | .seq a b,fr,st,K,h=>by
  have h:xC P E lo a fr st (Bd (fun fr st=>xC P E lo b fr st K) K):=h
  exact R.seq (jG hE h) fun _ _ h=>jG hE h
 | .cond x a b,fr,st,K,h=>by
  have h:cC (DE fr x) fun v=>asB v fun t=>way t (xC P E lo a fr st K) (xC P E lo b fr st K):=h
  obtain⟨v,h1,g⟩:=aD h
  obtain⟨t,e,g1⟩:=Fj g
  subst e
  rcases DS g1 with⟨rfl,g2⟩|⟨rfl,g2⟩
  ·obtain⟨x,fr',st',h2,h3⟩:=jG hE g2
   exact⟨x,fr',st',fun Φ hΦ=>W.cond h1 (fun _=>h2 Φ hΦ) (fun e=>by cases e),h3⟩
  ·obtain⟨x,fr',st',h2,h3⟩:=jG hE g2
   exact⟨x,fr',st',fun Φ hΦ=>W.cond h1 (fun e=>by cases e) (fun _=>h2 Φ hΦ),h3⟩
 | .block id a,fr,st,K,h=>by
  have h:xC P E lo a fr st (zW id K):=h
  exact R.block (jG hE h)
 | .scope a,fr,st,K,h=>by
  have h:xC P E lo a fr st K:=h
  exact R.scope (jG hE h)
 | .loop a,fr,st,K,h=>eX.out h
 | .rangeFunc f ps a b,fr,st,K,h=>wc.out h
 | .goto _,_,_,_,h=>h.elim
 | .refuse _,_,_,_,h=>h.elim
end
end Sv
namespace Sv
open Go Go.RowKit
noncomputable def oW (l:List SVal):St->(List SVal->St->Prop)->Prop:=
 List.rec (motive:=fun _=>St->(List SVal->St->Prop)->Prop) (fun st K=>K [] st)
  (fun s _ ih st K=>match s with
   | .ax=>ih st fun r st'=>K (.aE false []::r) st'
   | .aE _ rows=>ih st fun r st'=>K (.aE false rows::r) st'
   | .own k s=>match st.look k with
    |some (.row m rows s' _)=>yes (Nat.beq s' s) (hJ st k (.row m rows s true) fun st'=>ih st' fun r st''=>K (.aE false rows::r) st'')
    |_=>False
   | .ptr k off=>match st.look k with
    |some (.still l)=>yes (gb l) (ih st fun r st'=>K (.bN l off::r) st')
    |_=>False
   |s=>ih st fun r st'=>K (s::r) st') l
def Boxed (st st':St):Prop:=∀k l,st.look k=some (.cells l)->st'.look k=some (.cells l)
theorem Jf {st:St} {k m s:Nat} {rows:List (List SVal)} {z y:Bool} (hk:st.look k=some (.row m rows s z)):Boxed st (st.put k (.row m rows s y)):=by
 intro n l hn
 have hne:n≠k:=fun e=>by
  subst e
  rw[hk] at hn
  cases hn
 rw[look_eq] at hn⊢
 show(if b8 n st.cB=true then none else bx (st.put k _).heap n)=_
 rw[np,Ti hne]
 exact hn
theorem ja:∀{l:List SVal} {st:St} {K:List SVal->St->Prop},oW l st K->∃l' st',iN st l l' st'/\Boxed st st'/\K l' st'
 |[],st,K,h=>⟨_,_,.nil,fun _ _ h=>h,h⟩
 |s::r,st,K,h=>by
  have h:match(generalizing:=false) s with
   | .ax=>oW r st fun r st'=>K (.aE false []::r) st'
   | .aE _ rows=>oW r st fun r st'=>K (.aE false rows::r) st'
   | .own k s=>match st.look k with
    |some (.row m rows s' _)=>yes (Nat.beq s' s) (hJ st k (.row m rows s true) fun st'=>oW r st' fun r st''=>K (.aE false rows::r) st'')
    |_=>False
   | .ptr k off=>match st.look k with
    |some (.still l)=>yes (gb l) (oW r st fun r st'=>K (.bN l off::r) st')
    |_=>False
   |s=>oW r st fun r st'=>K (s::r) st':=h
  split at h
  ·obtain⟨l',st',h1,h2,h3⟩:=ja h
   exact⟨_,_,.ax h1,h2,h3⟩
  ·obtain⟨l',st',h1,h2,h3⟩:=ja h
   exact⟨_,_,.aE h1,h2,h3⟩
  ·split at h
   ·rename_i hk
    obtain⟨e,h4⟩:=bY h
    cases T3 e
    obtain⟨l',st',h1,h2,h3⟩:=ja (du h4)
    exact⟨_,_,.own hk h1,fun k l hl=>h2 k l (Jf hk k l hl),h3⟩
   ·exact h.elim
  ·split at h
   ·rename_i hk
    obtain⟨e,h4⟩:=bY h
    obtain⟨l',st',h1,h2,h3⟩:=ja h4
    exact⟨_,_,.still hk e h1,h2,h3⟩
   ·exact h.elim
  ·obtain⟨l',st',h1,h2,h3⟩:=ja h
   exact⟨_,_,.same h1,h2,h3⟩
mutual
noncomputable def wV:SVal->St->(SVal->St->Prop)->Prop
 | .ax,st,K=>K (.aE false []) st
 | .aE _ rows,st,K=>K (.aE false rows) st
 | .own k s,st,K=>match st.look k with
  |some (.row m rows s' _)=>yes (Nat.beq s' s) (hJ st k (.row m rows s true) fun st'=>K (.aE false rows) st')
  |_=>False
 | .agg l,st,K=>EF l st fun l' st'=>K (.agg l') st'
 | .bool b,st,K=>K (.bool b) st
 | .int k n,st,K=>K (.int k n) st
 | .str s,st,K=>K (.str s) st
 | .nilPtr,st,K=>K .nilPtr st
 | .fT,st,K=>K .fT st
 | .eA,st,K=>K .eA st
 | .nilIface,st,K=>K .nilIface st
 | .ptr k off,st,K=>match st.look k with
  |some (.cells l)=>oW l st fun l' st1=>yes (gb l') (hJ st1 k (.still l') fun st2=>K (.bN l' off) st2)
  |some (.still l)=>yes (gb l) (K (.bN l off) st)
  |_=>False
 | .fq _ _ _ _,_,_=>False
 | .map _,_,_=>False
 | .bN row off,st,K=>K (.bN row off) st
 | .func (.func f) x y,st,K=>EF x st fun x' st1=>EF y st1 fun y' st2=>K (.func (.func f) x' y') st2
 | .func _ _ _,_,_=>False
 | .iface t v,st,K=>K (.iface t v) st
 | .dT l,st,K=>K (.dT l) st
noncomputable def EF:List SVal->St->(List SVal->St->Prop)->Prop
 |[],st,K=>K [] st
 |s::r,st,K=>wV s st fun s' st'=>EF r st' fun r' st''=>K (s'::r') st''
end
theorem iN.app {st st1 st2:St} {a a' r r':List SVal} (h:iN st a a' st1) (k:iN st1 r r' st2):iN st (a++r) (a'++r') st2:=by
 induction h with
 |nil=>exact k
 |same _ ih=>exact .same (ih k)
 |ax _ ih=>exact .ax (ih k)
 |aE _ ih=>exact .aE (ih k)
 |own h1 _ ih=>exact .own h1 (ih k)
 |agg h1 _ _ ih=>exact .agg h1 (ih k)
 |ptr h1 h2 h3 h4 _ _ ih=>exact .ptr h1 h2 h3 h4 (ih k)
 |still h1 h2 _ ih=>exact .still h1 h2 (ih k)
 |func h1 h2 _ _ _ ih=>exact .func h1 h2 (ih k)
mutual
theorem LO:∀{s:SVal} {st:St} {K:SVal->St->Prop},wV s st K->∃s' st',iN st [s] [s'] st'/\K s' st'
 | .ax,st,K,h=>by
  unfold wV at h
  exact⟨_,_,.ax .nil,h⟩
 | .aE f rows,st,K,h=>by
  unfold wV at h
  exact⟨_,_,.aE .nil,h⟩
 | .own k s,st,K,h=>by
  unfold wV at h
  split at h
  ·rename_i hk
   obtain⟨h1,h3⟩:=bY h
   cases T3 h1
   exact⟨_,_,.own hk .nil,du h3⟩
  ·exact h.elim
 | .agg l,st,K,h=>by
  unfold wV at h
  obtain⟨l',st',h1,h2⟩:=jq h
  exact⟨_,_,.agg h1 .nil,h2⟩
 | .ptr k off,st,K,h=>by
  unfold wV at h
  split at h
  ·rename_i hk
   obtain⟨l',st1,h1,h2,h3⟩:=ja h
   obtain⟨h4,h5⟩:=bY h3
   exact⟨_,_,.ptr hk h1 (h2 _ _ hk) h4 .nil,du h5⟩
  ·rename_i hk
   obtain⟨h4,h5⟩:=bY h
   exact⟨_,_,.still hk h4 .nil,h5⟩
  ·exact h.elim
 | .func fn x y,st,K,h=>by
  cases fn<;>unfold wV at h
  case func f=>
   obtain⟨x',st1,h1,h2⟩:=jq h
   obtain⟨y',st2,h3,h4⟩:=jq h2
   exact⟨_,_,.func h1 h3 .nil,h4⟩
  all_goals exact h.elim
 | .bool b,st,K,h=>by
  unfold wV at h
  exact⟨_,_,.same .nil,h⟩
 | .int k n,st,K,h=>by
  unfold wV at h
  exact⟨_,_,.same .nil,h⟩
 | .str s,st,K,h=>by
  unfold wV at h
  exact⟨_,_,.same .nil,h⟩
 | .nilPtr,st,K,h=>by
  unfold wV at h
  exact⟨_,_,.same .nil,h⟩
 | .fT,st,K,h=>by
  unfold wV at h
  exact⟨_,_,.same .nil,h⟩
 | .eA,st,K,h=>by
  unfold wV at h
  exact⟨_,_,.same .nil,h⟩
 | .nilIface,st,K,h=>by
  unfold wV at h
  exact⟨_,_,.same .nil,h⟩
 | .bN row off,st,K,h=>by
  unfold wV at h
  exact⟨_,_,.same .nil,h⟩
 | .iface t v,st,K,h=>by
  unfold wV at h
  exact⟨_,_,.same .nil,h⟩
 | .dT l,st,K,h=>by
  unfold wV at h
  exact⟨_,_,.same .nil,h⟩
 | .fq _ _ _ _,_,_,h=>by
  unfold wV at h
  exact h.elim
 | .map _,_,_,h=>by
  unfold wV at h
  exact h.elim
theorem jq:∀{l:List SVal} {st:St} {K:List SVal->St->Prop},EF l st K->∃l' st',iN st l l' st'/\K l' st'
 |[],st,K,h=>by
  unfold EF at h
  exact⟨_,_,.nil,h⟩
 |s::r,st,K,h=>by
  unfold EF at h
  obtain⟨s',st1,h1,h2⟩:=LO h
  obtain⟨r',st2,h3,h4⟩:=jq h2
  exact⟨_,_,h1.app h3,h4⟩
end
section
variable (P:Program) (E:Env)
noncomputable def Eh (fr:Fr) (st:St):List ResultVar->(List SVal->Prop)->Prop
 |[],K=>K []
 | .tmp t::l,K=>cC (fr.get t) fun s=>Eh fr st l fun ss=>K (s::ss)
 | .cell b t::l,K=>cC (fr.get b) fun p=>F8 st p fun cs=>cC (uI E t cs) fun s=>Eh fr st l fun ss=>K (s::ss)
theorem mZ {fr:Fr} {st:St}:∀{l:List ResultVar} {K:List SVal->Prop},Eh E fr st l K->∃ss,pj E fr st l ss/\K ss
 |[],K,h=>⟨_,.nil,h⟩
 | .tmp t::l,K,h=>by
  obtain⟨s,h1,g⟩:=aD h
  obtain⟨ss,h2,g⟩:=mZ g
  exact⟨_,.tmp h1 h2,g⟩
 | .cell b t::l,K,h=>by
  obtain⟨p,h1,g⟩:=aD h
  obtain⟨cs,h2,g⟩:=BM g
  obtain⟨s,h3,g⟩:=aD g
  obtain⟨ss,h4,g⟩:=mZ g
  exact⟨_,.cell h1 h2 (uH h3) h4,g⟩
structure FzR (l:List SVal) (st:St) (K:List SVal->Prop):Prop where
 out:∃l' st',iN st l l' st'/\aw l'=true/\K l'
theorem dy {l:List SVal} {st:St} {K:List SVal->Prop} (h:EF l st fun l' _=>aw l'=true/\K l'):FzR l st K:=
 ⟨jq h⟩
theorem qj {st:St}:∀l:List SVal,iN st l l st
 |[]=> .nil
 |_::r=> .same (qj r)
theorem nI {l:List SVal} {st:St} {K:List SVal->Prop} (h:aw l=true) (k:K l):FzR l st K:=
 ⟨l,st,qj l,h,k⟩
noncomputable def R9 (rs:List ResultVar) (Ψ:SVal->Prop) (x:Ex) (fr:Fr) (st:St):Prop:=match x with
 | .exit _=>False
 |_=>Eh E fr st rs fun ss=>FzR ss st fun ss'=>match ss' with
  |[v]=>Ψ v
  |vs=>Ψ (.dT vs)
noncomputable def vV:Nat->List SVal->Option (List (Nat×SVal))
 |_,[]=>some []
 |i,s::r=>match vV (i+1) r with
  |some t=>some ((i,s)::t)
  |none=>none
theorem qC:∀{l:List SVal} {i:Nat} {t:List (Nat×SVal)},vV i l=some t->t=Jm i l
 |[],i,t,h=>by cases h;rfl
 |s::r,i,t,h=>by
  unfold vV at h
  split at h
  ·rename_i t' h'
   cases h
   rw[qC h']
   rfl
  ·cases h
noncomputable def xF (fn:Func) (args:List SVal) (Ψ:SVal->Prop):Prop:=match fn with
 |{ntmps:=n,results:=rs,body:=some b,.. }=>yes (Nat.ble args.length n)<|cC (vV 0 args) fun t=>xC P E 0 b ⟨n,t⟩ ⟨[],0,0,[],[]⟩ (R9 E rs.toList Ψ)
 |_=>False
def Has (f:FuncId) (args:List SVal) (Ψ:SVal->Prop):Prop:=∃s,lz P f args s/\Ψ s
theorem Ao {ss:List SVal} (h:aw ss=true):closed (oN ss)=true:=by
 match ss,h with
 |[],_=>rfl
 |[v],h=>exact(Tw .. ▸h:_/\_).1
 |a::b::r,h=>exact h
theorem Pb {rs:List ResultVar} {Ψ:SVal->Prop} {x:Ex} {fr:Fr} {st:St} (h:R9 E rs Ψ x fr st):sk x=true/\∃ss,pj E fr st rs ss/\∃ss' st2,iN st ss ss' st2/\aw ss'=true/\Ψ (oN ss'):=by
 unfold R9 at h
 split at h
 ·exact h.elim
 ·rename_i hx
  obtain⟨ss,h1,g⟩:=mZ E h
  obtain⟨ss',st2,h2,hcl,g⟩:=g.out
  refine⟨?_,ss,h1,ss',st2,h2,hcl,?_⟩
  ·cases x with
   |exit j=>exact(hx j rfl).elim
   |normal=>rfl
   |ret=>rfl
  ·split at g
   ·exact g
   ·rename_i hv
    match ss',hv,g with
    |[],_,g=>exact g
    |[v],hv,_=>exact(hv v rfl).elim
    |a::b::r,_,g=>exact g
theorem R3 (hE:bt P E) {f:FuncId} {fn:Func} (hf:E.funcs.get f=some fn) {args:List SVal} {Ψ:SVal->Prop} (hc:aw args=true) (h:xF P E fn args Ψ):Has P f args Ψ:=by
 unfold xF at h
 split at h
 ·obtain⟨h1,g⟩:=bY h
  obtain⟨t,h2,g⟩:=aD g
  cases qC h2
  obtain⟨x,fr',st',h3,h4⟩:=jG P E 0 hE g
  obtain⟨h5,ss,h6,ss',st2,h7,hcl,h8⟩:=Pb E h4
  refine⟨oN ss',Om hE hf rfl hc ?_ ?_,h8⟩
  ·unfold entry
   rw[show args.length+(_-args.length)=_ from Vn (TS h1)]
   exact h3 _ ⟨h5,ss,h6,ss',st2,h7,rfl⟩
  ·exact Ao hcl
 ·exact h.elim
theorem Ja {f:FuncId} {args args':List SVal} {s:SVal} {st:St} {K:SVal->St->Prop} (h:lz P f args' s) (ha:cG args=args') (k:K s st):eL P f args st K:=
 ⟨s,st,fun _ _ _ _ _ _ _ ho hc hf hev he=>Ke ho hc hf hev (he▸ha) h,k⟩
theorem MD {f:FuncId} {args args':List SVal} {s:SVal} {st:St} {K:SVal->St->Prop} (h:lz P f args' s) (k:EF args st fun l st'=>l=args'/\K s st'):eL P f args st K:=by
 obtain⟨l',st',h1,h2,h3⟩:=jq k
 subst h2
 exact⟨s,st',fun _ _ _ _ _ _ _ ho hc hf hev he=>zj ho hc hf hev (he▸h1) h,h3⟩
end
structure Span where
 lo:Int
 hi:Int
structure Edge where
 lo:Int
 hi:Int
 to:Int
structure ba where
 acc:Bool
 aF:List Edge
structure bX where
 null:Bool
 py:Bool
 px:Bool
 ints:List Span
 bz:List Span
 strs:List ba
structure bg (V:Type) where
 items:List V
 rest:List V
structure dO (V:Type) where
 label:List UInt8
 fj:Int
 val:V
structure dH (V:Type) where
 set:List ba
 val:V
structure aM (V:Type) where
 fields:List (dO V)
 az:List (dH V)
structure bG (V:Type) where
 any:Bool
 sc:bX
 lists:List (bg V)
 structs:List (aM V)
structure Vl (V:Type) where
 v:bG V
 d:bG V
def VT:Nat->Type
 |0=>Empty
 |n+1=>Vl (VT n)
def cD (s:Span):List SVal:=[.int .i64 s.lo,.int .i64 s.hi]
def cS (e:Edge):List SVal:=[.int .u8 e.lo,.int .u8 e.hi,.int .i64 e.to]
def ic (s:ba):List SVal:=[.bool s.acc,.aE false (s.aF.map cS)]
def aA (l:List ba):SVal:= .aE false (l.map ic)
def aW (l:List Span):SVal:= .aE false (l.map cD)
def cr (s:bX):List SVal:=[.bool s.null,.bool s.py,.bool s.px,aW s.ints,aW s.bz,aA s.strs]
section
variable {V:Type} (e:V->List SVal)
def aQ (c:bg V):List SVal:=[.aE false (c.items.map e),.aE false (c.rest.map e)]
def di (f:dO V):List SVal:= .str f.label:: .int .i64 f.fj::e f.val
def dN (k:dH V):List SVal:=aA k.set::e k.val
def aC (c:aM V):List SVal:=[.aE false (c.fields.map (di e)),.aE false (c.az.map (dN e))]
def cj (v:bG V):List SVal:=[.bool v.any,.bool v.sc.null,.bool v.sc.py,.bool v.sc.px,aW v.sc.ints,aW v.sc.bz,aA v.sc.strs,.aE false (v.lists.map (aQ e)),.aE false (v.structs.map (aC e))]
def tc (v:Vl V):List SVal:=[.bool v.v.any,.bool v.v.sc.null,.bool v.v.sc.py,.bool v.v.sc.px,aW v.v.sc.ints,aW v.v.sc.bz,aA v.v.sc.strs,.aE false (v.v.lists.map (aQ e)),.aE false (v.v.structs.map (aC e)),
 .bool v.d.any,.bool v.d.sc.null,.bool v.d.sc.py,.bool v.d.sc.px,aW v.d.sc.ints,aW v.d.sc.bz,aA v.d.sc.strs,.aE false (v.d.lists.map (aQ e)),.aE false (v.d.structs.map (aC e))]
end
def eVT:(n:Nat)->VT n->List SVal
 |0,v=>Empty.elim v
 |n+1,v=>tc (eVT n) v
theorem EY {rows:List (List SVal)} (h:∀r∈rows,aw r=true):aG rows=true:=by
 induction rows with
 |nil=>rfl
 |cons r rows ih=>
  rw[aG,h r (.head _),ih fun x hx=>h x (.tail _ hx)]
  rfl
class Cl {α:Type} (f:α->List SVal):Prop where
 cl:∀x,aw (f x)=true
section
variable {α:Type} (f:α->List SVal) [h:Cl f]
theorem cl (x:α):aw (f x)=true:=h.cl x
theorem eC (l:List α):aG (l.map f)=true:=
 EY fun r hr=>by
  obtain⟨x,_,rfl⟩:=T4.1 hr
  exact h.cl x
theorem clS (b:Bool) (l:List α):closed (.aE b (l.map f))=true:=eC f l
theorem clA (x:α):closed (.agg (f x))=true:=h.cl x
theorem clA1 (x:α):aw [.agg (f x)]=true:=by rw[aw,clA f x];rfl
theorem clA2 {β:Type} (g:β->List SVal) [k:Cl g] (x:α) (y:β):aw [.agg (f x),.agg (g y)]=true:=by rw[aw,clA f x,clA1 g y];rfl
theorem cE (m:Nat) (l:List α):jC m (l.map f)=true:=gJ m _ (eC f l)
theorem c7 (m:Nat) (x:α):cY m (f x)=true:=bo m _ (h.cl x)
end
instance :Cl cD:=⟨fun _=>rfl⟩
instance :Cl cS:=⟨fun _=>rfl⟩
instance :Cl ic:=⟨fun s=>by simp only[ic,aw,closed,eC cS,Tq]⟩
theorem bK (l:List Span):closed (aW l)=true:=eC cD l
theorem b6 (l:List ba):closed (aA l)=true:=eC ic l
instance :Cl cr:=⟨fun s=>by simp only[cr,aw,closed,bK,b6,Tq]⟩
section
variable {V:Type} {e:V->List SVal} [h:Cl e]
instance :Cl (aQ e):=⟨fun c=>by simp only[aQ,aw,closed,eC e,Tq]⟩
instance :Cl (di e):=⟨fun f=>by simp only[di,aw,closed,cl e,Tq]⟩
instance :Cl (dN e):=⟨fun f=>by simp only[dN,aw,b6,cl e,Tq]⟩
instance :Cl (aC e):=⟨fun c=>by simp only[aC,aw,closed,eC (di e),eC (dN e),Tq]⟩
instance :Cl (cj e):=⟨fun v=>by simp only[cj,aw,closed,bK,b6,eC (aQ e),eC (aC e),Tq]⟩
instance :Cl (tc e):=⟨fun v=>by simp only[tc,aw,closed,bK,b6,eC (aQ e),eC (aC e),Tq]⟩
end
theorem QJ:∀(n:Nat) (v:VT n),aw (eVT n v)=true
 |0,v=>Empty.elim v
 |n+1,v=>haveI:Cl (eVT n):=⟨QJ n⟩;cl (tc (eVT n)) v
instance (n:Nat):Cl (eVT n):=⟨QJ n⟩
def bw:bX:=⟨false,false,false,[],[],[]⟩
def QQ (V:Type):bG V:=⟨false,bw,[],[]⟩
theorem brt {b:Bool} {p q:Prop} (h:b=true) (h1:p): @Bool.rec (fun _=>Prop) q p b:=by
 subst h;exact h1
theorem brf {b:Bool} {p q:Prop} (h:b=false) (h2:q): @Bool.rec (fun _=>Prop) q p b:=by
 subst h;exact h2
section
variable {c:Prop} [Decidable c] {p q:Prop}
theorem aI (h1:c->p) (h2:¬c->q): @Bool.rec (fun _=>Prop) q p (decide c):=cX (fun h=>h1 (TF h)) fun h=>h2 (of_decide_eq_false h)
theorem Jk (h:c) (h1:p): @Bool.rec (fun _=>Prop) q p (decide c):=brt (Uc h) h1
theorem Ax (h:¬c) (h2:q): @Bool.rec (fun _=>Prop) q p (decide c):=brf (Uf h) h2
theorem dU (h1:¬c->p) (h2:c->q): @Bool.rec (fun _=>Prop) q p (!decide c):=by
 by_cases h:c
 ·exact brf (by rw[Uc h];rfl) (h2 h)
 ·exact brt (by rw[Uf h];rfl) (h1 h)
theorem bnt (h:¬c) (h1:p): @Bool.rec (fun _=>Prop) q p (!decide c):=dU (fun _=>h1) fun h'=>(h h').elim
theorem bnf (h:c) (h2:q): @Bool.rec (fun _=>Prop) q p (!decide c):=dU (fun h'=>(h' h).elim) fun _=>h2
end
section
variable {b:Bool} {p q:Prop}
theorem dk (h1:b=false->p) (h2:b=true->q): @Bool.rec (fun _=>Prop) q p (!b):=by
 cases b with
 |true=>exact h2 rfl
 |false=>exact h1 rfl
theorem bmt (h:b=false) (h1:p): @Bool.rec (fun _=>Prop) q p (!b):=by subst h;exact h1
theorem bmf (h:b=true) (h2:q): @Bool.rec (fun _=>Prop) q p (!b):=by subst h;exact h2
end
structure Fits (lo:Nat) (fr:Fr) (st:St) (fr1:Fr) (st1:St):Prop where
 fr:Fs st1.next fr1 fr
 st:kO lo st1 st
structure qH {ι:Type} (P:Program) (lo:Nat) (F:ι->Fr) (S:ι->St) (m:ι->Nat) (i:ι) (fr:Fr) (st:St):Prop where
 out:∃j,m j<m i/\∀z K,R P lo z (F j) (S j) K->R P lo z fr st K
theorem P2 {ι:Type} {P:Program} {lo:Nat} {F:ι->Fr} {S:ι->St} {m:ι->Nat} {i:ι} {fr:Fr} {st:St} (j:ι) (h:m j<m i) (k:Fits lo fr st (F j) (S j)):qH P lo F S m i fr st:=⟨j,h,fun _ _ g=>R.less k.fr k.st g⟩
theorem MK {ι:Type} {P:Program} {lo:Nat} {F:ι->Fr} {S:ι->St} {m:ι->Nat} {i:ι} {fr fr':Fr} {st st':St} (g:∀z K,R P lo z fr' st' K->R P lo z fr st K) (h:qH P lo F S m i fr' st'):qH P lo F S m i fr st:=by
 obtain⟨j,h1,h2⟩:=h.out
 exact⟨j,h1,fun z K r=>g z K (h2 z K r)⟩
def Lb {ι:Type} (P:Program) (lo:Nat) (F:ι->Fr) (S:ι->St) (m:ι->Nat) (i:ι) (K:Ex->Fr->St->Prop) (x:Ex) (fr:Fr) (st:St):Prop:=match x with
 | .normal=>qH P lo F S m i fr st
 | .exit id=>K (.exit id) fr st
 | .ret=>K .ret fr st
theorem B6 {ι:Type} {P:Program} {lo:Nat} {z:Code} {K:Ex->Fr->St->Prop} (F:ι->Fr) (S:ι->St) (m:ι->Nat) (h:∀i,R P lo z (F i) (S i) (Lb P lo F S m i K)):∀(n:Nat) (i:ι),m i<n->R P lo (.loop z) (F i) (S i) K
 |0,i,hi=>by omega
 |n+1,i,hi=>by
  refine R.loop (R.mono (h i) fun x fr st hx=> ?_)
  cases x with
  |normal=>
   obtain⟨j,h1,h2⟩:=hx.out
   exact⟨h2 _ _ (B6 F S m h n j ii)⟩
  |exit id=>exact hx
  |ret=>exact hx
theorem OI {ι:Type} {P:Program} {E:Env} (hE:bt P E) {lo:Nat} {z:Code} {fr:Fr} {st:St} {K:Ex->Fr->St->Prop} (F:ι->Fr) (S:ι->St) (m:ι->Nat) (i:ι) (h0:Fits lo fr st (F i) (S i)) (h:∀i,xC P E lo z (F i) (S i) (Lb P lo F S m i K)):eX P lo z fr st K:=
 ⟨R.less h0.fr h0.st (B6 F S m (fun i=>jG P E lo hE (h i)) _ i (Ug _))⟩
def J3 (m:Nat) (t:List (Nat×SVal)):List (Nat×SVal)->Prop
 |[]=>True
 |p::r=>bx t p.1=some p.2/\nb m p.2=true/\J3 m t r
theorem sP {m:Nat} {t:List (Nat×SVal)}:∀{t1:List (Nat×SVal)},J3 m t t1->∀k s,bx t1 k=some s->bx t k=some s/\nb m s=true
 |[],_,k,s,h=>by cases h
 |p::r,⟨h1,h2,h3⟩,k,s,h=>by
  rw[bZ] at h
  split at h
  ·rename_i e
   cases h
   subst e
   exact⟨h1,h2⟩
  ·exact sP h3 k s h
def l9 (m:Nat) (t:Hp):Hp->Prop
 |[]=>True
 |p::r=>bx t p.1=some p.2/\gK m p.2=true/\p.1<m/\l9 m t r
theorem fx {m:Nat} {t:Hp}:∀{t1:Hp},l9 m t t1->∀k o,bx t1 k=some o->bx t k=some o/\gK m o=true/\k<m
 |[],_,k,s,h=>by cases h
 |p::r,⟨h1,h2,h3,h4⟩,k,s,h=>by
  rw[bZ] at h
  split at h
  ·rename_i e
   cases h
   subst e
   exact⟨h1,h2,h3⟩
  ·exact fx h4 k s h
theorem fits0 {n next next1:Nat} {t t1:List (Nat×SVal)} {h h1:Hp} (hf:J3 next1 t t1) (hh:l9 next1 h h1) (hn:next1<=next):Fits 0 ⟨n,t⟩ ⟨h,next,0,[],[]⟩ ⟨n,t1⟩ ⟨h1,next1,0,[],[]⟩ where
 fr:=⟨rfl,sP hf⟩
 st:={
  next:=hn
  low:=TC _
  cB:=rfl
  mark:=rfl
  log:=rfl
  SU:=fun k hk=>by cases hk
  heap:=fx hh
  same:=fun k hk=>by omega}
theorem gz.symm {a b:Fr} (h:gz a b):gz b a:=⟨h.n.symm,fun t=>(h.get t).symm⟩
theorem gz.trans {a b c:Fr} (h:gz a b) (k:gz b c):gz a c:=⟨h.n.trans k.n,fun t=>(h.get t).trans (k.get t)⟩
theorem gz.ev {a b:Fr} (h:gz a b):DE a=DE b:=by
 funext x
 cases x with
 |tmp t=>exact h.get t
 |const v=>rfl
 |global g=>rfl
 |func f=>rfl
theorem gz.want {a b:Fr} (h:gz a b) (all:List Oper) (g:Option (Nat×Bool)):l6 all a g=l6 all b g:=by
 cases g with
 |none=>rfl
 |some p=>
  show eH (all[p.1]?) (fun q=>eH q.dst fun d=>eH (a.get d) fun v=>gV p.2 v)=eH (all[p.1]?) (fun q=>eH q.dst fun d=>eH (b.get d) fun v=>gV p.2 v)
  have:(fun d=>eH (a.get d) fun v=>gV p.2 v)=fun d=>eH (b.get d) fun v=>gV p.2 v:=by
   funext d
   rw[h.get d]
  rw[this]
theorem gz.put {a b a':Fr} (h:gz a b) {d:Option Nat} {s:SVal} (hp:qV a d s=some a'):∃b',qV b d s=some b'/\gz a' b':=by
 cases d with
 |none=>
  cases iY hp
  exact⟨b,rfl,h⟩
 |some d=>
  have h1:=fm (gG hp)
  have hb:qV b (some d) s=some ⟨b.n,(d,s)::b.t⟩:=by
   show yZ (Nat.ble (Nat.succ d) b.n) _=_
   rw[show Nat.ble (Nat.succ d) b.n=true from UX (h.n▸h1.1)]
   rfl
  refine⟨_,hb,?_⟩
  have h2:=fm (gG hb)
  exact⟨h1.2.1.trans (h.n.trans h2.2.1.symm),fun t=>by rw[h1.2.2 t,h2.2.2 t,h.get t]⟩
theorem gy.eqv {P:Program} {ops:Array Oper} {before:List Nat} {sup:List fk} {l:List Oper} {k:Nat} {a a':Fr} {st st':St} {acc acc':List fk} (h:gy P ops before sup l k a st acc a' st' acc'):∀{b:Fr},gz a b->∃b',gz a' b'/\gy P ops before sup l k b st acc b' st' acc':=by
 induction h with
 |nil=>exact fun h=>⟨_,h,.nil⟩
 |skip h1 h2 _ ih=>
  intro b hb
  obtain⟨b1,h3,h4⟩:=hb.put h2
  obtain⟨b',h5,h6⟩:=ih h4
  exact⟨b',h5,.skip ((hb.want _ _).symm.trans h1) h3 h6⟩
 |cons h1 h2 h3 _ ih=>
  intro b hb
  obtain⟨b1,h4,h5⟩:=hb.put h3
  obtain⟨b',h6,h7⟩:=ih h5
  exact⟨b',h6,.cons ((hb.want _ _).symm.trans h1) (hb.ev▸h2) h4 h7⟩
theorem Qi.eqv {lo:Nat} {D:List Deferred} {B:Nat} {c:Ctx} {a b:Fr} {st:St} {x:Act} {w:World} (h:Qi lo D B c a st x w) (e:gz b a):Qi lo D B c b st x w:=
 ⟨h.rep,h.wf,h.wW,⟨h.fr.size.trans e.n.symm,fun t s hs=>h.fr.get t s (e.get t▸hs),h.fr.defers⟩,h.Ep,h.base,h.low,h.mark⟩
theorem W.outEq {P:Program} {lo:Nat} {z:Code} {fr a a':Fr} {st st':St} {x:Ex} (h:∀Φ:Ex->Fr->St->Prop,Φ x a st'->W P lo z fr st Φ) (e:gz a' a):∀Φ:Ex->Fr->St->Prop,Φ x a' st'->W P lo z fr st Φ:=by
 intro Φ hΦ ro B D c w y he hro Q hq
 refine h (fun x' f s=>x'=x/\f=a/\s=st') ⟨rfl,rfl,rfl⟩ he hro fun x' f s D' c' y' w' hx he' hs ht hn=> ?_
 obtain⟨rfl,rfl,rfl⟩:=hx
 exact hq x' a' s D' c' y' w' hΦ (he'.eqv e) hs ht (e.n.trans hn)
noncomputable def AT (P:Program) (E:Env) (before:List Nat) (sup:List fk) (all:List Oper) (l:List Oper):Nat->Fr->St->List fk->(Fr->St->List fk->Prop)->Prop:=
 List.rec (motive:=fun _=>Nat->Fr->St->List fk->(Fr->St->List fk->Prop)->Prop) (fun _ fr st acc K=>K fr st acc)
  (fun o _ ih k fr st acc K=>xj all fr o.guard fun b fr=>match b with
   |true=>match st with
    |⟨heap,next,mark,log,cB⟩=>xOp P E o.op (DE fr) ⟨heap,next,next,[],kj before k acc (eF before k next sup cB)⟩ fun s st1=>match st1 with
     |⟨heap1,next1,_,log1,_⟩=>og fr o.dst s fun fr=>ih (Nat.succ k) fr ⟨heap1,next1,mark,below mark log1++log,cB⟩ (mU k next next1 log1 acc) K
   |false=>og fr o.dst (.dT []) fun fr=>ih (Nat.succ k) fr st acc K) l
theorem tr {P:Program} {E:Env} (hE:bt P E) {before:List Nat} {sup:List fk} {ops:Array Oper}:∀{l:List Oper} {k:Nat} {fr:Fr} {st:St} {acc:List fk} {K:Fr->St->List fk->Prop},AT P E before sup ops.toList l k fr st acc K->
  ∃a a' st' acc',gy P ops before sup l k fr st acc a st' acc'/\gz a' a/\K a' st' acc'
 |[],k,fr,st,acc,K,h=>⟨_,_,_,_,.nil,gz.refl _,h⟩
 |o::l,k,fr,st,acc,K,h=>by
  have h:xj ops.toList fr o.guard fun b fr=>match b with
   |true=>match st with
    |⟨heap,next,mark,log,cB⟩=>xOp P E o.op (DE fr) ⟨heap,next,next,[],kj before k acc (eF before k next sup cB)⟩ fun s st1=>match st1 with
     |⟨heap1,next1,_,log1,_⟩=>og fr o.dst s fun fr=>AT P E before sup ops.toList l (Nat.succ k) fr ⟨heap1,next1,mark,below mark log1++log,cB⟩ (mU k next next1 log1 acc) K
   |false=>og fr o.dst (.dT []) fun fr=>AT P E before sup ops.toList l (Nat.succ k) fr st acc K:=h
  obtain⟨b,fr1,h1,h2,g⟩:=A1 h
  cases b with
  |true=>
   obtain⟨heap,next,mark,log,cB⟩:=st
   obtain⟨s,st1,h3,g⟩:=JG P E hE g
   obtain⟨heap1,next1,mark1,log1,ban1⟩:=st1
   obtain⟨fr',h4,g⟩:=pK g
   obtain⟨a,a',st',acc',h5,h6,h7⟩:=tr hE g
   have h8:gy P ops before sup (o::l) k fr1 ⟨heap,next,mark,log,cB⟩ acc a st' acc':= .cons h2 (h3 o rfl) h4 h5
   obtain⟨b',h9,h10⟩:=h8.eqv h1
   exact⟨b',a',st',acc',h10,h6.trans h9,h7⟩
  |false=>
   obtain⟨fr',h4,g⟩:=pK g
   obtain⟨a,a',st',acc',h5,h6,h7⟩:=tr hE g
   have h8:gy P ops before sup (o::l) k fr1 st acc a st' acc':= .skip h2 h4 h5
   obtain⟨b',h9,h10⟩:=h8.eqv h1
   exact⟨b',a',st',acc',h10,h6.trans h9,h7⟩
theorem Pk {P:Program} {E:Env} (hE:bt P E) {lo id:Nat} {ops:Array Oper} {fr:Fr} {st:St} {K:Fr->St->Prop} (before:List Nat) (sup:List fk) (hb:(Region.before ops).toList=before) (hrel:Ia ops.toList fr.n=true)
  (h:AT P E before sup ops.toList ops.toList 0 fr st [] fun fr st acc=>gM before sup acc=true/\K fr st):Ho P lo id ops fr st K:=by
 subst hb
 obtain⟨a,a',st',acc',h1,h2,h3,h4⟩:=tr hE h
 exact⟨.normal,a',st',W.outEq (fun Φ hΦ=>W.draw' hE.mixed sup hrel ⟨a,st',acc',h1,h3,hΦ⟩) h2,rfl,h4⟩
def wP (σ:Nat->Nat):Fn->Fn
 | .yield k=> .yield (σ k)
 |f=>f
mutual
def dp (σ:Nat->Nat):SVal->SVal
 | .ptr k off=> .ptr (σ k) off
 | .fq k s i off=> .fq (σ k) s i off
 | .own k s=> .own (σ k) s
 | .map k=> .map (σ k)
 | .bN row off=> .bN (cx σ row) off
 | .aE f rows=> .aE f (lL σ rows)
 | .func fn x y=> .func (wP σ fn) (cx σ x) (cx σ y)
 | .iface t v=> .iface t (dp σ v)
 | .agg l=> .agg (cx σ l)
 | .dT l=> .dT (cx σ l)
 | .bool b=> .bool b
 | .int k n=> .int k n
 | .str s=> .str s
 | .nilPtr=> .nilPtr
 | .ax=> .ax
 | .eA=> .eA
 | .fT=> .fT
 | .nilIface=> .nilIface
def cx (σ:Nat->Nat):List SVal->List SVal
 |[]=>[]
 |s::r=>dp σ s::cx σ r
def lL (σ:Nat->Nat):List (List SVal)->List (List SVal)
 |[]=>[]
 |row::r=>cx σ row::lL σ r
end
theorem jJ (σ:Nat->Nat):∀l:List SVal,(cx σ l).length=l.length
 |[]=>rfl
 |_::r=>Ub (· +1) (jJ σ r)
theorem et (σ:Nat->Nat):∀l:List (List SVal),(lL σ l).length=l.length
 |[]=>rfl
 |_::r=>Ub (· +1) (et σ r)
theorem BG {σ:Nat->Nat} {l:List (List SVal)}:lL σ l=[]↔l=[]:=by
 cases l with
 |nil=>exact⟨fun _=>rfl,fun _=>rfl⟩
 |cons a r=>exact⟨(fun h=>by cases h),(fun h=>by cases h)⟩
section
variable {c d:Ctx} {σ:Nat->Nat} {m:Nat} (hρ:∀k,k<m->c.ρ (σ k)=d.ρ k) (hfz:c.fz=d.fz)
include hρ hfz
mutual
theorem Den.dp:∀(s:SVal) (v:Value),nb m s=true->(Den c (dp σ s) v↔Den d s v)
 | .bool _,_,_=>UF
 | .int _ _,_,_=>UF
 | .str _,_,_=>UF
 | .nilPtr,_,_=>UF
 | .ax,_,_=>UF
 | .eA,_,_=>UF
 | .fT,_,_=>UF
 | .nilIface,_,_=>UF
 | .ptr k off,v,h=>by
  unfold Sv.dp Den
  rw[hρ k (TF h)]
 | .fq k s i off,v,h=>by
  unfold Sv.dp Den
  rw[hρ k (TF h)]
 | .own k s,v,h=>by
  unfold Sv.dp Den
  rw[hρ k (TF h)]
 | .map k,v,h=>by
  unfold Sv.dp Den
  rw[hρ k (TF h)]
 | .bN row off,v,h=>by
  unfold Sv.dp Den
  exact⟨fun⟨b,base,h1,h2⟩=>⟨b,base,h1,(bW.dp b row base h).1 h2⟩,fun⟨b,base,h1,h2⟩=>⟨b,base,h1,(bW.dp b row base h).2 h2⟩⟩
 | .aE full rows,v,h=>by
  unfold Sv.dp Den
  rw[BG,et]
  constructor
  ·rintro(h1|⟨b,base,size,cap,h1,h2,h3,h4⟩)
   ·exact .inl h1
   ·exact .inr ⟨b,base,size,cap,h1,h2,h3,(bL.dp b size rows base h).1 h4⟩
  ·rintro(h1|⟨b,base,size,cap,h1,h2,h3,h4⟩)
   ·exact .inl h1
   ·exact .inr ⟨b,base,size,cap,h1,h2,h3,(bL.dp b size rows base h).2 h4⟩
 | .func fn x y,v,h=>by
  rw[nb,Tw,Tw] at h
  have h1:=fun vs=>aJ.dp x vs h.1.2
  have h2:=fun vs=>aJ.dp y vs h.2
  cases fn
  case yield k=>
   unfold Sv.dp wP Den
   show(∃b,c.ρ (σ k)=some (Loc.box b)/\_)↔∃b,d.ρ k=some (Loc.box b)/\_
   rw[hρ k (TF h.1.1)]
  all_goals
   unfold Sv.dp wP Den
   exact⟨fun⟨xs,ys,g1,g2,g3⟩=>⟨xs,ys,(h1 xs).1 g1,(h2 ys).1 g2,g3⟩,fun⟨xs,ys,g1,g2,g3⟩=>⟨xs,ys,(h1 xs).2 g1,(h2 ys).2 g2,g3⟩⟩
 | .iface t s,v,h=>by
  unfold Sv.dp Den
  exact⟨fun⟨u,h1,h2⟩=>⟨u,(Den.dp s u h).1 h1,h2⟩,fun⟨u,h1,h2⟩=>⟨u,(Den.dp s u h).2 h1,h2⟩⟩
 | .agg l,v,h=>by
  unfold Sv.dp Den
  exact⟨fun⟨u,h1,h2⟩=>⟨u,(aJ.dp l u h).1 h1,h2⟩,fun⟨u,h1,h2⟩=>⟨u,(aJ.dp l u h).2 h1,h2⟩⟩
 | .dT l,v,h=>by
  unfold Sv.dp Den
  exact⟨fun⟨u,h1,h2⟩=>⟨u,(aJ.dp l u h).1 h1,h2⟩,fun⟨u,h1,h2⟩=>⟨u,(aJ.dp l u h).2 h1,h2⟩⟩
theorem aJ.dp:∀(l:List SVal) (vs:List Value),cY m l=true->(aJ c (cx σ l) vs↔aJ d l vs)
 |[],vs,_=>UF
 |s::r,vs,h=>by
  rw[cY,Tw] at h
  unfold cx aJ
  exact⟨fun⟨v,l,h1,h2,h3⟩=>⟨v,l,(Den.dp s v h.1).1 h1,(aJ.dp r l h.2).1 h2,h3⟩,fun⟨v,l,h1,h2,h3⟩=>⟨v,l,(Den.dp s v h.1).2 h1,(aJ.dp r l h.2).2 h2,h3⟩⟩
theorem bW.dp (b:Nat):∀(row:List SVal) (i:Nat),cY m row=true->(bW c b (cx σ row) i↔bW d b row i)
 |[],_,_=>UF
 |s::r,i,h=>by
  rw[cY,Tw] at h
  unfold cx bW
  rw[hfz]
  exact⟨fun⟨⟨u,h1,h0,h2⟩,h3⟩=>⟨⟨u,h1,h0,(Den.dp s u h.1).1 h2⟩,(bW.dp b r (i+1) h.2).1 h3⟩,fun⟨⟨u,h1,h0,h2⟩,h3⟩=>⟨⟨u,h1,h0,(Den.dp s u h.1).2 h2⟩,(bW.dp b r (i+1) h.2).2 h3⟩⟩
theorem bL.dp (b size:Nat):∀(rows:List (List SVal)) (i:Nat),jC m rows=true->(bL c b size (lL σ rows) i↔bL d b size rows i)
 |[],_,_=>UF
 |row::r,i,h=>by
  rw[jC,Tw] at h
  unfold lL bL
  rw[jJ]
  exact⟨fun⟨h1,h2,h3⟩=>⟨h1,(bW.dp b row i h.1).1 h2,(bL.dp b size r (i+size) h.2).1 h3⟩,fun⟨h1,h2,h3⟩=>⟨h1,(bW.dp b row i h.1).2 h2,(bL.dp b size r (i+size) h.2).2 h3⟩⟩
end
end
end Sv
namespace Sv
open Go Go.RowKit
def ue (σ:Nat->Nat):List (SVal×SVal)->List (SVal×SVal)
 |[]=>[]
 |p::r=>(dp σ p.1,dp σ p.2)::ue σ r
theorem rS (σ:Nat->Nat):∀l:List (SVal×SVal),(ue σ l).length=l.length
 |[]=>rfl
 |_::r=>Ub (· +1) (rS σ r)
theorem ud (σ:Nat->Nat):∀(l:List (SVal×SVal)) (i:Nat),(ue σ l)[i]? =(l[i]?).map fun p=>(dp σ p.1,dp σ p.2)
 |[],_=>by simp[ue]
 |p::r,0=>by simp[ue]
 |p::r,i+1=>by simpa[ue] using ud σ r i
theorem uc (σ:Nat->Nat):∀(l:List SVal) (i:Nat),(cx σ l)[i]? =(l[i]?).map (dp σ)
 |[],_=>by simp[cx]
 |p::r,0=>by simp[cx]
 |p::r,i+1=>by simpa[cx] using uc σ r i
theorem tZ (σ:Nat->Nat):∀(l:List (List SVal)) (i:Nat),(lL σ l)[i]? =(l[i]?).map (cx σ)
 |[],_=>by simp[lL]
 |p::r,0=>by simp[lL]
 |p::r,i+1=>by simpa[lL] using tZ σ r i
def wO (σ:Nat->Nat):List (Nat×SVal)->List (Nat×SVal)
 |[]=>[]
 |p::r=>(p.1,dp σ p.2)::wO σ r
theorem tX (σ:Nat->Nat) (k:Nat):∀t:List (Nat×SVal),bx (wO σ t) k=(bx t k).map (dp σ)
 |[]=>rfl
 |p::r=>by
  show bx ((p.1,dp σ p.2)::wO σ r) k=_
  rw[bZ,bZ,tX σ k r]
  by_cases h:p.1=k
  ·rw[Th h,Th h];rfl
  ·rw[Ti h,Ti h]
def ft (σ:Nat->Nat):bm->bm
 | .cells l=> .cells (cx σ l)
 | .still l=> .still (cx σ l)
 | .row m rows s z=> .row m (lL σ rows) s z
 | .map es=> .map (ue σ es)
 | .loop r=> .loop ⟨⟨r.fr.n,wO σ r.fr.t⟩,r.ps,r.assign,r.body,r.state,r.lM⟩
 | .lR g l=> .lR g (cx σ l)
def plainO:bm->Bool
 | .loop _=>true
 |_=>true
theorem eK.dp {c d:Ctx} {σ:Nat->Nat} {m:Nat} (hρ:∀k,k<m->c.ρ (σ k)=d.ρ k) (hfz:c.fz=d.fz) {o:bm} (hp:plainO o=true) (h:gK m o=true) (l:Loc) (w:World):eK c (ft σ o) l w↔eK d o l w:=by
  cases o with
  |loop r=>
    cases l with
    |row=>exact UF
    |box b=>
      have hs:∀tmps,mO c ⟨r.fr.n,wO σ r.fr.t⟩ tmps↔mO d r.fr tmps:=fun tmps=>by
        constructor
        · rintro⟨h1,h2⟩
          refine⟨h1,fun t s hs=> ?_⟩
          obtain⟨v,h3,h4⟩:=h2 t (Sv.dp σ s) (by
            show bx (wO σ r.fr.t) t=_
            rw[tX,show bx r.fr.t t=some s from hs];rfl)
          exact⟨v,h3,(Den.dp hρ hfz _ _ (sY h hs)).1 h4⟩
        · rintro⟨h1,h2⟩
          refine⟨h1,fun t s hs=> ?_⟩
          have hs:bx (wO σ r.fr.t) t=some s:=hs
          rw[tX] at hs
          cases hq:bx r.fr.t t with
          |none=>rw[hq] at hs;cases hs
          |some q=>
            rw[hq] at hs
            cases hs
            obtain⟨v,h3,h4⟩:=h2 t q hq
            exact⟨v,h3,(Den.dp hρ hfz _ _ (sY h hq)).2 h4⟩
      show(∃x,_/\sy c _ x)↔∃x,_/\sy d r x
      constructor
      · rintro⟨x,h1,h2⟩
        exact⟨x,h1,⟨(hs _).1 h2.rN,h2.ps,h2.assign,h2.body,h2.state,h2.lM,h2.one,h2.two⟩⟩
      · rintro⟨x,h1,h2⟩
        exact⟨x,h1,⟨(hs _).2 h2.rN,h2.ps,h2.assign,h2.body,h2.state,h2.lM,h2.one,h2.two⟩⟩
  |lR g cs=>
    cases l with
    |box=>exact UF
    |row ob st sz u=>
      exact⟨fun⟨h0,h3,a,e,f,h4,h1,h2⟩=>⟨h0,h3,a,e,f,h4,h1,(aJ.dp hρ hfz cs _ h).1 h2⟩,fun⟨h0,h3,a,e,f,h4,h1,h2⟩=>⟨h0,h3,a,e,f,h4,h1,(aJ.dp hρ hfz cs _ h).2 h2⟩⟩
  |cells cs=>
    cases l with
    |row=>exact UF
    |box b=>
      show(∃arr e,_/\aJ c (cx σ cs) _/\∀i v,c.fz b i≠some v)↔∃arr e,_/\aJ d cs _/\∀i v,d.fz b i≠some v
      rw[hfz]
      exact⟨fun⟨a,e,h1,h2,h3⟩=>⟨a,e,h1,(aJ.dp hρ hfz cs _ h).1 h2,h3⟩,fun⟨a,e,h1,h2,h3⟩=>⟨a,e,h1,(aJ.dp hρ hfz cs _ h).2 h2,h3⟩⟩
  |still cs=>
    cases l with
    |row=>exact UF
    |box b=>
      show(∃arr e,_/\aJ c (cx σ cs) _/\∀(i:Nat) (v:Value),arr[i]? =some v->c.fz b i=some v)↔∃arr e,_/\aJ d cs _/\∀(i:Nat) (v:Value),arr[i]? =some v->d.fz b i=some v
      rw[hfz]
      exact⟨fun⟨a,e,h1,h2,h3⟩=>⟨a,e,h1,(aJ.dp hρ hfz cs _ h).1 h2,h3⟩,fun⟨a,e,h1,h2,h3⟩=>⟨a,e,h1,(aJ.dp hρ hfz cs _ h).2 h2,h3⟩⟩
  |map es=>
    cases l with
    |row=>exact UF
    |box b=>
      show(∃a e,_/\mR c (ue σ es) _)↔∃a e,_/\mR d es _
      have:∀l,mR c (ue σ es) l↔mR d es l:=fun l=>by
        unfold mR
        rw[rS]
        constructor
        · rintro⟨h1,h2⟩
          refine⟨h1,fun i p hp=> ?_⟩
          obtain⟨n1,n2⟩:=sZ h (Ts hp)
          obtain⟨e,h3,h4,h5⟩:=h2 i (Sv.dp σ p.1,Sv.dp σ p.2) (by rw[ud,hp];rfl)
          exact⟨e,h3,(Den.dp hρ hfz _ _ n1).1 h4,(Den.dp hρ hfz _ _ n2).1 h5⟩
        · rintro⟨h1,h2⟩
          refine⟨h1,fun i p hp=> ?_⟩
          rw[ud] at hp
          cases hq:es[i]? with
          |none=>rw[hq] at hp;cases hp
          |some q=>
            rw[hq] at hp
            cases hp
            obtain⟨n1,n2⟩:=sZ h (Ts hq)
            obtain⟨e,h3,h4,h5⟩:=h2 i q hq
            exact⟨e,h3,(Den.dp hρ hfz _ _ n1).2 h4,(Den.dp hρ hfz _ _ n2).2 h5⟩
      exact⟨fun⟨a,e,h1,h2⟩=>⟨a,e,h1,(this _).1 h2⟩,fun⟨a,e,h1,h2⟩=>⟨a,e,h1,(this _).2 h2⟩⟩
  |row m' rows s z=>
    cases l with
    |box=>exact UF
    |row ob st sz u=>
      have hel:∀arr,ef c (lL σ rows) sz arr↔ef d rows sz arr:=fun arr=>by
        unfold ef
        constructor
        · intro h1 i row hr
          obtain⟨h2,h3⟩:=h1 i (cx σ row) (by rw[tZ,hr];rfl)
          have hn:=sW h (Ts hr)
          refine⟨by rw[jJ] at h2;exact h2,fun j s hs=> ?_⟩
          obtain⟨v,h4,h5,h6⟩:=h3 j (Sv.dp σ s) (by rw[uc,hs];rfl)
          exact⟨v,h4,h5,(Den.dp hρ hfz _ _ (sX hn (Ts hs))).1 h6⟩
        · intro h1 i row hr
          rw[tZ] at hr
          cases hq:rows[i]? with
          |none=>rw[hq] at hr;cases hr
          |some q=>
            rw[hq] at hr
            cases hr
            obtain⟨h2,h3⟩:=h1 i q hq
            have hn:=sW h (Ts hq)
            refine⟨by rw[jJ];exact h2,fun j s hs=> ?_⟩
            rw[uc] at hs
            cases ht:q[j]? with
            |none=>rw[ht] at hs;cases hs
            |some t=>
              rw[ht] at hs
              cases hs
              obtain⟨v,h4,h5,h6⟩:=h3 j t ht
              exact⟨v,h4,h5,(Den.dp hρ hfz _ _ (sX hn (Ts ht))).2 h6⟩
      have hin:∀b arr e cap,Hl c (lL σ rows) z b sz u w arr e cap↔Hl d rows z b sz u w arr e cap:=fun b arr e cap=>
        ⟨fun h1=>⟨by rw[<-et σ rows];exact h1.val,h1.cells,h1.size,by rw[<-et σ rows];exact h1.fits,(hel arr).1 h1.elems,fun i v hv=>by rw[<-et σ rows];exact h1.fz i v (by rw[hfz];exact hv)⟩,
         fun h1=>⟨by rw[et σ rows];exact h1.val,h1.cells,h1.size,by rw[et σ rows];exact h1.fits,(hel arr).2 h1.elems,fun i v hv=>by rw[et σ rows];exact h1.fz i v (by rw[<-hfz];exact hv)⟩⟩
      cases ob with
      |none=>
        show(st=s/\sz=m'/\lL σ rows=[]/\_)↔(st=s/\sz=m'/\rows=[]/\_)
        rw[BG]
      |some b=>
        exact⟨fun⟨h1,h2,a,e,cap,h3⟩=>⟨h1,h2,a,e,cap,(hin _ _ _ _).1 h3⟩,fun⟨h1,h2,a,e,cap,h3⟩=>⟨h1,h2,a,e,cap,(hin _ _ _ _).2 h3⟩⟩
def sG:Nat->List bm->Hp
 |_,[]=>[]
 |i,o::r=>(i,o)::sG (i+1) r
theorem jo:∀(l:List bm) (i n:Nat),bx (sG i l) n=if i<=n then l[n-i]? else none
 |[],i,n=>by split<;>rfl
 |o::r,i,n=>by
  rw[sG,bZ,jo r (i+1) n]
  by_cases e:i=n
  ·subst e;simp
  ·rw[Ti e]
   by_cases h:i<=n
   ·rw[Th ii,Th h]
    have:n-i=(n-(i+1))+1:=by omega
    rw[this];simp
   ·rw[Ti ii,Ti h]
def gD (objs:List bm):St:=⟨sG 0 objs,objs.length,0,[],[]⟩
theorem ez (objs:List bm) (n:Nat):(gD objs).look n=objs[n]? :=by
 show bx (sG 0 objs) n=_
 rw[jo,Th (TC _)]
 rfl
structure wh (P:Program) (f:FuncId) (objs:List bm) (args:List SVal) (s:SVal) (objs':List bm):Prop where
 sem:gX P f args (gD objs) s (gD objs')
 len:objs'.length=objs.length
 po:∀o∈objs,plainO o=true/\gK objs.length o=true
 po':∀o∈objs',plainO o=true/\gK objs.length o=true
 na:cY objs.length args=true
 ns:nb objs.length s=true
noncomputable def gZ (σ:Nat->Nat):List Nat->List bm->St->St
 |k::ks,o::os,st=>gZ σ ks os (st.put k (ft σ o))
 |_,_,st=>st
theorem nj {st:St} {k:Nat} {o o1:bm} (hk:st.look k=some o1) (n:Nat):(st.put k o).look n=if n=k then some o else st.look n:=by
 have hb:b8 k st.cB=false:=by
  rw[look_eq] at hk
  cases hb:b8 k st.cB with
  |false=>rfl
  |true=>rw[hb] at hk;cases hk
 rw[look_eq,look_eq]
 show(if b8 n st.cB=true then none else bx (st.put k o).heap n)=_
 rw[np]
 by_cases e:n=k
 ·subst e
  rw[hb,Th rfl,Th rfl]
  rfl
 ·rw[Ti e,Ti e]
theorem ni {σ:Nat->Nat}:∀{ks:List Nat} {os:List bm} {st:St},ks.length=os.length->ks.Nodup->(∀k∈ks,∃o,st.look k=some o)->
  eJ st (gZ σ ks os st)/\(gZ σ ks os st).next=st.next/\(∀n,n∉ks->(gZ σ ks os st).look n=st.look n)/\∀(i k:Nat) (o:bm),ks[i]? =some k->os[i]? =some o->(gZ σ ks os st).look k=some (ft σ o)
 |[],[],st,_,_,_=>⟨eJ.refl _,rfl,fun _ _=>rfl,fun i k o h _=>by simp at h⟩
 |[],_::_,st,h,_,_=>by simp at h
 |_::_,[],st,h,_,_=>by simp at h
 |k::ks,o::os,st,hl,hn,hk=>by
  obtain⟨o1,h1⟩:=hk k (.head _)
  rw[Vr] at hn
  have hlk:=nj (o:=ft σ o) h1
  obtain⟨g1,g2,g3,g4⟩:=ni (σ:=σ) (ks:=ks) (os:=os) (st:=st.put k (ft σ o)) (by simpa using hl) hn.2 fun n hmem=>by
   rw[hlk]
   split
   ·exact⟨_,rfl⟩
   ·exact hk n (.tail _ hmem)
  refine⟨(dt _ h1).trans g1,g2,fun n hmem=> ?_,fun i n o' hi ho=> ?_⟩
  ·rw[Tv,not_or] at hmem
   show(gZ σ ks os (st.put k (ft σ o))).look n=_
   rw[g3 n hmem.2,hlk,Ti hmem.1]
  ·show(gZ σ ks os (st.put k (ft σ o))).look n=_
   cases i with
   |zero=>
    simp at hi ho
    subst hi ho
    rw[g3 k hn.1,hlk,Th rfl]
   |succ i=>exact g4 i n o' (by simpa using hi) (by simpa using ho)
end Sv
