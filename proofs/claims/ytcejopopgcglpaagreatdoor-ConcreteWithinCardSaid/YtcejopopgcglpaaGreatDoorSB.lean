/- For ConcreteWithin: calls, ranges over functions, a reckoner. -/
import Derived.Test.YtcejopopgcglpaaGreatDoorSA
import Derived.Lib.AppendZerosOnto
set_option linter.unusedVariables false
set_option linter.unusedSimpArgs false
set_option linter.unusedSectionVars false
namespace Sv
open Go Go.RowKit
def dN (m:Nat):Fn->Bool
 | .yield k=>decide (k<m)
 |_=>true
mutual
def nb (m:Nat):SVal->Bool
 | .ptr k _=>decide (k<m)
 | .fv k _ _ _=>decide (k<m)
 | .own k _=>decide (k<m)
 | .map k=>decide (k<m)
 | .bR row _=>cX m row
 | .aK _ rows=>js m rows
 | .func fn x y=>dN m fn&&cX m x&&cX m y
 | .iface _ v=>nb m v
 | .agg l=>cX m l
 | .dZ l=>cX m l
 |_=>true
def cX (m:Nat):List SVal->Bool
 |[]=>true
 |s::r=>nb m s&&cX m r
def js (m:Nat):List (List SVal)->Bool
 |[]=>true
 |row::r=>cX m row&&js m r
end
mutual
theorem yN (m:Nat):∀s:SVal,closed s=true->nb m s=true
 | .bool _,_=>rfl
 | .int _ _,_=>rfl
 | .str _,_=>rfl
 | .nilPtr,_=>rfl
 | .ptr _ _,h=>by cases h
 | .fv _ _ _ _,h=>by cases h
 | .bR row _,h=>bq m row h
 | .aD,_=>rfl
 | .aK _ rows,h=>gM m rows h
 | .own _ _,h=>by cases h
 | .eJ,_=>rfl
 | .map _,h=>by cases h
 | .func fn x y,h=>by
  rw[closed,Wa,Wa] at h
  rw[nb,Wa,Wa]
  refine⟨⟨?_,bq m x h.1.2⟩,bq m y h.2⟩
  cases fn<;>first|rfl|(simp[dF] at h)
 | .fY,_=>rfl
 | .nilIface,_=>rfl
 | .iface _ v,h=>yN m v h
 | .agg l,h=>bq m l h
 | .dZ l,h=>bq m l h
theorem bq (m:Nat):∀l:List SVal,aB l=true->cX m l=true
 |[],_=>rfl
 |s::r,h=>by
  rw[aB,Wa] at h
  rw[cX,Wa]
  exact⟨yN m s h.1,bq m r h.2⟩
theorem gM (m:Nat):∀l:List (List SVal),aL l=true->js m l=true
 |[],_=>rfl
 |s::r,h=>by
  rw[aL,Wa] at h
  rw[js,Wa]
  exact⟨bq m s h.1,gM m r h.2⟩
end
section
variable {c c':Ctx} {m:Nat} (hρ:∀k,k<m->c'.ρ k=c.ρ k) (hfz:∀b i v,c.fz b i=some v->c'.fz b i=some v)
include hρ hfz
mutual
theorem Den.low:∀(s:SVal) (v:Value),nb m s=true->Den c s v->Den c' s v
 | .bool _,_,_,e=>e
 | .int _ _,_,_,e=>e
 | .str _,_,_,e=>e
 | .nilPtr,_,_,e=>e
 | .ptr k off,v,h,⟨b,h1,h2⟩=>⟨b,(hρ k (Wp h)).trans h1,h2⟩
 | .fv k s i off,v,h,⟨h0,b,st,sz,u,h1,h2⟩=>⟨h0,b,st,sz,u,(hρ k (Wp h)).trans h1,h2⟩
 | .bR row off,v,h,⟨b,base,h1,h2⟩=>⟨b,base,h1,b7.low b row base h h2⟩
 | .aD,_,_,e=>e
 | .aK full rows,v,h,e=>by
  rcases e with e|⟨b,base,size,cap,h1,h2,h3,h4⟩
  ·exact .inl e
  ·exact .inr ⟨b,base,size,cap,h1,h2,h3,bO.low b size rows base h h4⟩
 | .own k s,v,h,⟨h0,b,st,sz,u,h1,h2⟩=>⟨h0,b,st,sz,u,(hρ k (Wp h)).trans h1,h2⟩
 | .eJ,_,_,e=>e
 | .map k,v,h,⟨b,h1,h2⟩=>⟨b,(hρ k (Wp h)).trans h1,h2⟩
 | .func fn x y,v,h,e=>by
  rw[nb,Wa,Wa] at h
  cases fn<;>first
   |(obtain⟨b,h1,h2⟩:=e;exact⟨b,(hρ _ (Wp h.1.1)).trans h1,h2⟩)
   |(obtain⟨xs,ys,h1,h2,h3⟩:=e;exact⟨xs,ys,aQ.low x xs h.1.2 h1,aQ.low y ys h.2 h2,h3⟩)
 | .fY,_,_,e=>e
 | .nilIface,_,_,e=>e
 | .iface t s,v,h,⟨u,h1,h2⟩=>⟨u,Den.low s u h h1,h2⟩
 | .agg l,v,h,⟨vs,h1,h2⟩=>⟨vs,aQ.low l vs h h1,h2⟩
 | .dZ l,v,h,⟨vs,h1,h2⟩=>⟨vs,aQ.low l vs h h1,h2⟩
theorem aQ.low:∀(l:List SVal) (vs:List Value),cX m l=true->aQ c l vs->aQ c' l vs
 |[],_,_,e=>e
 |s::r,vs,h,⟨v,l,h1,h2,h3⟩=>by
  rw[cX,Wa] at h
  exact⟨v,l,Den.low s v h.1 h1,aQ.low r l h.2 h2,h3⟩
theorem b7.low (b:Nat):∀(row:List SVal) (i:Nat),cX m row=true->b7 c b row i->b7 c' b row i
 |[],_,_,_=>trivial
 |s::r,i,h,⟨⟨u,h1,h0,h2⟩,h3⟩=>by
  rw[cX,Wa] at h
  exact⟨⟨u,hfz b i u h1,h0,Den.low s u h.1 h2⟩,b7.low b r (i+1) h.2 h3⟩
theorem bO.low (b size:Nat):∀(rows:List (List SVal)) (i:Nat),js m rows=true->bO c b size rows i->bO c' b size rows i
 |[],_,_,_=>trivial
 |row::r,i,h,⟨h1,h2,h3⟩=>by
  rw[js,Wa] at h
  exact⟨h1,b7.low b row i h.1 h2,bO.low b size r (i+size) h.2 h3⟩
end
end
theorem tG {m:Nat}:∀{l:List SVal} {s:SVal},cX m l=true->s∈l->nb m s=true
 |[],_,_,h=>by cases h
 |t::r,s,h,hs=>by
  rw[cX,Wa] at h
  rcases V9.1 hs with rfl|hs
  ·exact h.1
  ·exact tG h.2 hs
theorem tF {m:Nat}:∀{l:List (List SVal)} {s:List SVal},js m l=true->s∈l->cX m s=true
 |[],_,_,h=>by cases h
 |t::r,s,h,hs=>by
  rw[js,Wa] at h
  rcases V9.1 hs with rfl|hs
  ·exact h.1
  ·exact tF h.2 hs
def Ts (m:Nat):List (SVal×SVal)->Bool
 |[]=>true
 |p::r=>nb m p.1&&nb m p.2&&Ts m r
theorem tI {m:Nat}:∀{l:List (SVal×SVal)} {p:SVal×SVal},Ts m l=true->p∈l->nb m p.1=true/\nb m p.2=true
 |[],_,_,h=>by cases h
 |t::r,s,h,hs=>by
  rw[Ts,Wa,Wa] at h
  rcases V9.1 hs with rfl|hs
  ·exact h.1
  ·exact tI h.2 hs
def lM (m:Nat):List (Nat×SVal)->Bool
 |[]=>true
 |p::r=>nb m p.2&&lM m r
theorem tH {m:Nat}:∀{l:List (Nat×SVal)} {t:Nat} {s:SVal},lM m l=true->bB l t=some s->nb m s=true
 |[],_,_,_,h=>by cases h
 |p::r,t,s,h,hs=>by
  rw[lM,Wa] at h
  rw[b9] at hs
  split at hs
  ·cases hs;exact h.1
  ·exact tH h.2 hs
def gN (m:Nat):bo->Bool
 | .cells l=>cX m l
 | .still l=>cX m l
 | .row _ rows _ _=>js m rows
 | .map es=>Ts m es
 | .loop r=>lM m r.fr.t
 | .lU _ l=>cX m l
theorem eT.low {c c':Ctx} {m:Nat} (hρ:∀k,k<m->c'.ρ k=c.ρ k) (hfz:c'.fz=c.fz) {o:bo} {l:Loc} {w:World} (h:gN m o=true) (k:eT c o l w):eT c' o l w:=by
 have hf:∀b i v,c.fz b i=some v->c'.fz b i=some v:=fun b i v e=>by rw[hfz];exact e
 cases o with
 |cells cs=>cases l with
  |row=>exact k.elim
  |box b=>
   obtain⟨arr,e,h1,h2,h3⟩:=k
   exact⟨arr,e,h1,aQ.low hρ hf _ _ h h2,fun i v=>by rw[hfz];exact h3 i v⟩
 |still cs=>cases l with
  |row=>exact k.elim
  |box b=>
   obtain⟨arr,e,h1,h2,h3⟩:=k
   exact⟨arr,e,h1,aQ.low hρ hf _ _ h h2,fun i v=>by rw[hfz];exact h3 i v⟩
 |row m' rows s froz=>cases l with
  |box b=>exact k.elim
  |row ob st sz u=>
   refine⟨k.1,k.2.1,?_⟩
   have h2:=k.2.2
   cases ob with
   |none=>exact h2
   |some b=>
    obtain⟨arr,e,cap,h3⟩:=h2
    refine⟨arr,e,cap,h3.val,h3.cells,h3.size,h3.fits,fun i row hr=>⟨(h3.elems i row hr).1,fun j s hs=> ?_⟩,fun i v hv=>h3.fz i v (by rw[hfz] at hv;exact hv)⟩
    obtain⟨v,h4,h5,h6⟩:=(h3.elems i row hr).2 j s hs
    exact⟨v,h4,h5,Den.low hρ hf _ _ (tG (tF h (V6 hr)) (V6 hs)) h6⟩
 |map es=>cases l with
  |row=>exact k.elim
  |box b=>
   obtain⟨ents,clock,h1,h2,h3⟩:=k
   refine⟨ents,clock,h1,h2,fun i p hp=> ?_⟩
   obtain⟨e,h4,h5,h6⟩:=h3 i p hp
   obtain⟨h7,h8⟩:=tI h (V6 hp)
   exact⟨e,h4,Den.low hρ hf _ _ h7 h5,Den.low hρ hf _ _ h8 h6⟩
 |loop r=>cases l with
  |row=>exact k.elim
  |box b=>
   obtain⟨x,h1,h2⟩:=k
   exact⟨x,h1,⟨h2.r9.1,fun t s hs=>let⟨v,h3,h4⟩:=h2.r9.2 t s hs;⟨v,h3,Den.low hρ hf _ _ (tH h hs) h4⟩⟩,h2.ps,h2.assign,h2.body,h2.state,h2.lS,h2.one,h2.two⟩
 |lU g cs=>cases l with
  |box=>exact k.elim
  |row ob st sz u=>
   obtain⟨h0,h3,arr,e,f,h4,h1,h2⟩:=k
   exact⟨h0,h3,arr,e,f,h4,h1,aQ.low hρ hf _ _ h h2⟩
structure kS (lo:Nat) (st1 st:St):Prop where
 next:st1.next<=st.next
 low:lo<=st1.next
 cE:st1.cE=st.cE
 mark:st1.mark=st.mark
 log:st1.log=st.log
 Vv:∀k,ck k st.cE=true->k<st1.next
 heap:∀k o,bB st1.heap k=some o->bB st.heap k=some o/\gN st1.next o=true/\k<st1.next
 same:∀k,k<lo->bB st1.heap k=bB st.heap k
theorem kS.look {lo:Nat} {st1 st:St} (h:kS lo st1 st) {k:Nat} {o:bo} (hk:st1.look k=some o):st.look k=some o/\gN st1.next o=true:=by
 obtain⟨h1,h2⟩:=cT hk
 obtain⟨h3,h4,_⟩:=h.heap k o h1
 refine⟨?_,h4⟩
 rw[look_eq,<-h.cE,h2]
 exact h3
def lV (m:Nat) (c:Ctx):Ctx:=⟨fun k=>if k<m then c.ρ k else none,c.fz⟩
theorem er {m k:Nat} (c:Ctx) (h:k<m):(lV m c).ρ k=c.ρ k:=HP h
theorem kS.rep {lo:Nat} {st1 st:St} (h:kS lo st1 st) {c:Ctx} {w:World} (hr:dM c st.look w):dM (lV st1.next c) st1.look w:=by
 refine⟨fun k o hk=> ?_,fun k j o o' l l' r hk hj hne h1 h2=> ?_,hr.fz⟩
 ·obtain⟨h1,h2⟩:=h.look hk
  obtain⟨l,h3,h4⟩:=hr.dO k o h1
  exact⟨l,(er c (h.heap k o (cT hk).1).2.2).trans h3,h4.low (fun k hk=>er c hk) rfl h2⟩
 ·rw[er c (h.heap k o (cT hk).1).2.2] at h1
  rw[er c (h.heap j o' (cT hj).1).2.2] at h2
  exact hr.sep k j o o' l l' r (h.look hk).1 (h.look hj).1 hne h1 h2
theorem kS.cstep {lo:Nat} {st1 st:St} (h:kS lo st1 st) {c c':Ctx} {w w':World} {H':gy} (k:eA lo (lV st1.next c) st1.look w c' H' w'):eA lo c st.look w c' H' w':=by
 have own:∀r,fU (lV st1.next c) st1.look r->fU c st.look r:=fun r ⟨n,o,l,h1,h2,h3⟩=>⟨n,o,l,(h.look h1).1,by rw[er c (h.heap n o (cT h1).1).2.2] at h2;exact h2,h3⟩
 have lt:∀n,n<lo->n<st1.next:=fun n hn=>Xe hn h.low
 refine⟨fun n l hn e=>k.le n l hn (by rw[er c (lt n hn)];exact e),k.fz,fun n hn e=>k.off n hn (by rw[er c (lt n hn)];exact e),fun n l hn e e'=>k.hid n l hn ?_ (by rw[er c (lt n hn)];exact e'),k.os,k.tape,k.output,k.size,fun r hr hn=>k.kept r hr fun ho=>hn (own r ho),fun r ho=>(k.owns r ho).imp (own r) id,fun b i v hv=>(k.xV b i v hv).imp id fun e=>e.imp (own b) id⟩
 cases hx:st1.look n with
 |none=>rfl
 |some o=>rw[(h.look hx).1] at e;cases e
theorem kS.csta {lo:Nat} {st1 st st':St} (h:kS lo st1 st) (k:rX lo st1 st'):rX lo st st':=
 ⟨k.cE.trans h.cE,k.mark.trans h.mark,fun n hn=>k.log n (by rw[h.log];exact hn),fun n h1 h2 h3=>(k.same n h1 (by rw[h.mark];exact h2) h3).trans (h.same n h1),fun n hn=>by
  rcases k.LQ n hn with e|e
  ·exact .inl (by rw[<-h.log];exact e)
  ·exact .inr ⟨by rw[<-h.cE];exact e.1,by rw[<-h.mark];exact e.2⟩⟩
theorem kS.wf {lo:Nat} {st1 st:St} (h:kS lo st1 st) (hm:st.mark<=lo):Wf st1:=
 ⟨fun k hk=>by
  cases hx:bB st1.heap k with
  |none=>rfl
  |some o=>have:=(h.heap k o hx).2.2;omega,fun k hk=>h.Vv k (by rw[<-h.cE];exact hk),by rw[h.mark];exact Wq hm h.low⟩
structure Hl (m:Nat) (fr1 fr:Fr):Prop where
 n:fr1.n=fr.n
 get:∀t s,fr1.get t=some s->fr.get t=some s/\nb m s=true
theorem W.less {P:Program} {lo:Nat} {z:Code} {fr fr1:Fr} {st st1:St} {Φ:Ex->Fr->St->Prop} (hf:Hl st1.next fr1 fr) (hs:kS lo st1 st) (h:W P lo z fr1 st1 Φ):W P lo z fr st Φ:=by
 intro ro B D c w a he hr Q hq
 refine h ⟨hs.rep he.rep,hs.wf he.mark,fun k hk=>TP ii,⟨by rw[hf.n];exact he.fr.size,fun t s ht=> ?_,he.fr.defers⟩,he.Gl,he.base,hs.low,by rw[hs.mark];exact he.mark⟩ hr fun x fr' st' D' c' a' w' h1 h2 h3 h4 h5=> ?_
 ·obtain⟨h1,h2⟩:=hf.get t s ht
  obtain⟨v,h3,h4⟩:=he.fr.get t s h1
  exact⟨v,h3,Den.low (fun k hk=>er c hk) (fun _ _ _ h=>h) _ _ h2 h4⟩
 ·exact hq x fr' st' D' c' a' w' h1 h2 (hs.cstep h3) (hs.csta h4) (h5.trans hf.n)
theorem W.kh {P:Program} {lo:Nat} {z:Code} {fr fr1:Fr} {st:St} {Φ:Ex->Fr->St->Prop} (hn:fr1.n=fr.n) (hf:∀t s,fr1.get t=some s->∃s',fr.get t=some s'/\∀c v,Den c s' v->Den c s v) (h:W P lo z fr1 st Φ):W P lo z fr st Φ:=by
 intro ro B D c w a he hr Q hq
 refine h ⟨he.rep,he.wf,he.yb,⟨by rw[hn];exact he.fr.size,fun t s ht=> ?_,he.fr.defers⟩,he.Gl,he.base,he.low,he.mark⟩ hr fun x fr' st' D' c' a' w' h1 h2 h3 h4 h5=>hq x fr' st' D' c' a' w' h1 h2 h3 h4 (h5.trans hn)
 obtain⟨s',h1,h2⟩:=hf t s ht
 obtain⟨v,h3,h4⟩:=he.fr.get t s' h1
 exact⟨v,h3,h2 c v h4⟩
theorem pj {st:St} {k m s:Nat} {rows:List (List SVal)} {z:Bool} (hk:st.look k=some (.row m rows s z)) {c:Ctx} {w:World} (hr:dM c st.look w):
  ∃c',c'.ρ=c.ρ/\dM c' (st.put k (.row m rows s true)).look w/\Step st.next (st.put k (.row m rows s true)).next c st.look w c' (st.put k (.row m rows s true)).look w/\∀v,Den c (.own k s) v->Den c' (.aK false rows) v:=by
 obtain⟨l,h1,h2⟩:=hr.dO _ _ hk
 cases l with
 |box b=>exact h2.elim
 |row ob st0 sz u=>
  obtain⟨rfl,rfl,h2⟩:=h2
  cases ob with
  |none=>
   obtain⟨rfl,a,rfl⟩:=h2
   obtain⟨r1,r2⟩:=eP (o':= .row sz [] st0 true) hr hk h1 h1 (dJ.refl _) (fun _ _=>rfl) (fun _ _ _ h=>h) (fun _ _ _ h=> .inl h) (fun r hr=> .inl hr) ((dj.refl w).but _) (fun b i v hb=>by cases hb) ⟨rfl,rfl,rfl,a,rfl⟩
   refine⟨c,rfl,r1,r2,fun v hv=> ?_⟩
   obtain⟨_,ob,st1,sz1,u1,h3,_,h5⟩:=hv
   rw[h1] at h3
   cases h3
   rw[h5 rfl]
   exact .inl ⟨rfl,a,0,rfl,fun h=>by cases h⟩
  |some b=>
   obtain⟨arr,e,cap,h3⟩:=h2
   have cell:∀i,w.cell? ⟨b,i,none⟩=arr[i]? :=iM h3.cells
   let c':Ctx:=⟨c.ρ,fun b' i=>if b'=b/\i<rows.length*sz then arr[i]? else c.fz b' i⟩
   have hle:Le c c':=⟨fun n l e=>⟨l,e,dJ.refl l⟩,fun b' i v hv=>by
    show(if b'=b/\i<rows.length*sz then arr[i]? else c.fz b' i)=some v
    split
    ·rename_i hc
     obtain⟨rfl,_⟩:=hc
     obtain⟨arr2,e2,f2,h5,h6⟩:=hr.fz _ _ _ hv
     rw[h3.cells] at h5
     cases h5
     exact h6
    ·exact hv⟩
   have hnew:∀b' i v,c'.fz b' i=some v->c.fz b' i=some v\/some b=some b':=fun b' i v hv=>by
    have hv:(if b'=b/\i<rows.length*sz then arr[i]? else c.fz b' i)=some v:=hv
    split at hv
    ·rename_i hc;exact .inr (by rw[hc.1])
    ·exact .inl hv
   have hin:∀i v,c'.fz b i=some v->arr[i]? =some v/\i<rows.length*sz:=fun i v hv=>by
    have hv:(if b=b/\i<rows.length*sz then arr[i]? else c.fz b i)=some v:=hv
    split at hv
    ·rename_i hc;exact⟨hv,hc.2⟩
    ·obtain⟨arr2,e2,f2,h5,h6⟩:=hr.fz _ _ _ hv
     rw[h3.cells] at h5
     cases h5
     exact⟨h6,(h3.fz i v hv).2⟩
   obtain⟨r1,r2⟩:=eP (o':= .row sz rows st0 true) (c':=c') hr hk h1 h1 (dJ.refl _) (fun _ _=>rfl) hle.fz hnew (fun r hr=> .inl hr) ((dj.refl w).but _) (fun b' i v hb hv=>by cases hb;exact⟨arr,e,_,h3.cells,(hin i v hv).1⟩)
    ⟨rfl,rfl,arr,e,cap,h3.val,h3.cells,h3.size,h3.fits,h3.elems.le hle,fun i v hv=>⟨rfl,(hin i v hv).2⟩⟩
   refine⟨c',rfl,r1,r2,fun v hv=> ?_⟩
   obtain⟨_,ob,st1,sz1,u1,h4,_,h5⟩:=hv
   rw[h1] at h4
   cases h4
   rw[h5 rfl,h3.val]
   refine .inr ⟨b,0,sz,cap,rfl,h3.fits,(fun h=>by cases h),bO.of fun i row hrow=>⟨(h3.elems i row hrow).1,b7.of fun j t ht=> ?_⟩⟩
   obtain⟨x,h6,h7,h8⟩:=(h3.elems i row hrow).2 j t ht
   refine⟨x,?_,h7,Den.le hle _ _ h8⟩
   have hi:i<rows.length:=(VZ.1 hrow).1
   have hj:j<sz:=by rw[<-(h3.elems i row hrow).1];exact(VZ.1 ht).1
   have hm:(i+1)*sz<=rows.length*sz:=W7 _ hi
   rw[WZ,XG] at hm
   show(if b=b/\0+i*sz+j<rows.length*sz then arr[0+i*sz+j]? else _)=_
   rw[HP ⟨rfl,by omega⟩,WU]
   exact h6
theorem yA {st:St} {k:Nat} {l l':List SVal} (hk:st.look k=some (.cells l)) {c:Ctx} {w:World} (hr:dM c st.look w) (hf:sF l') (hd:∀(b:Nat) (arr:Array Value) (e:TypeId),c.ρ k=some (.box b)->w.heap[b]? =some (.cells arr e (0,0))->aQ c l' arr.toList):
  ∃c',c'.ρ=c.ρ/\dM c' (st.put k (.still l')).look w/\Step st.next (st.put k (.still l')).next c st.look w c' (st.put k (.still l')).look w/\∀off v,Den c (.ptr k off) v->Den c' (.bR l' off) v:=by
 obtain⟨lc,h1,h2⟩:=hr.dO _ _ hk
 cases lc with
 |row=>exact h2.elim
 |box b=>
  obtain⟨arr,e,h3,h4,h5⟩:=h2
  have h4:=hd _ _ _ h1 h3
  let c':Ctx:=⟨c.ρ,fun b' i=>if b'=b then arr[i]? else c.fz b' i⟩
  have hle:Le c c':=⟨fun n l e=>⟨l,e,dJ.refl l⟩,fun b' i v hv=>by
   show(if b'=b then arr[i]? else c.fz b' i)=some v
   split
   ·rename_i hc
    subst hc
    exact(h5 i v hv).elim
   ·exact hv⟩
  have hnew:∀b' i v,c'.fz b' i=some v->c.fz b' i=some v\/some b=some b':=fun b' i v hv=>by
   have hv:(if b'=b then arr[i]? else c.fz b' i)=some v:=hv
   split at hv
   ·rename_i hc;exact .inr (by rw[hc])
   ·exact .inl hv
  have hin:∀(i:Nat) (v:Value),arr[i]? =some v->c'.fz b i=some v:=fun i v hv=>by
   show(if b=b then arr[i]? else c.fz b i)=some v
   rw[HP rfl]
   exact hv
  obtain⟨r1,r2⟩:=eP (o':= .still l') (c':=c') hr hk h1 h1 (dJ.refl _) (fun _ _=>rfl) hle.fz hnew (fun r hr=> .inl hr) ((dj.refl w).but _) (fun b' i v hb hv=>by
    cases hb
    have hv:(if b=b then arr[i]? else c.fz b i)=some v:=hv
    rw[HP rfl] at hv
    exact⟨arr,e,_,h3,hv⟩)
   ⟨arr,e,h3,aQ.le hle _ _ h4,hin⟩
  refine⟨c',rfl,r1,r2,fun off v hv=> ?_⟩
  obtain⟨b2,h6,rfl⟩:=hv
  rw[h1] at h6
  cases h6
  refine⟨b,0,by rw[WU],b7.of fun j s hs=> ?_⟩
  obtain⟨u,h7,h8⟩:=h4.get hs
  have h7:arr[j]? =some u:=by simpa using h7
  refine⟨u,by rw[WU];exact hin j u h7,nZ (hf s (V6 hs)) h8,Den.le hle _ _ h8⟩
theorem JR {st:St} {k:Nat} {l:List SVal} (hk:st.look k=some (.still l)) {c:Ctx} {w:World} (hr:dM c st.look w) (hf:sF l) {off:Nat} {v:Value} (hv:Den c (.ptr k off) v):Den c (.bR l off) v:=by
 obtain⟨lc,h1,h2⟩:=hr.dO _ _ hk
 cases lc with
 |row=>exact h2.elim
 |box b=>
  obtain⟨arr,e,h3,h4,h5⟩:=h2
  obtain⟨b2,h6,rfl⟩:=hv
  rw[h1] at h6
  cases h6
  refine⟨b,0,by rw[WU],b7.of fun j s hs=> ?_⟩
  obtain⟨u,h7,h8⟩:=h4.get hs
  have h7:arr[j]? =some u:=by simpa using h7
  exact⟨u,by rw[WU];exact h5 j u h7,nZ (hf s (V6 hs)) h8,h8⟩
def Call1 (P:Program) (f:FuncId) (args:Array Value) (w:World) (R:Value->World->Prop):Prop:=
 ∀(o:Oper) (a:Act) (next:Act->World->Prop) (Q:Exit->Act->World->Prop),(∀v w',R v w'->next (a.put o.dst v) w')->o.uponIn Fence.wide 0 P a next Q ((callFunc f args).run P w)
theorem rI {P:Program} {f:FuncId} {fn:Func} {body:Code} (hf:P.funcs[f]? =some fn) (hn:(fn.name== "runtime.NumGoroutine")=false) (hb:fn.body=some body) (args:Array Value) (w:World):(callFunc f args).run P w= .ok (.enter f args) w:=by
 simp only[callFunc,Sem.run_bind,run_program,Result.andThen_ok,hf,hn,hb]
 rfl
theorem ff {P:Program} {f:FuncId} {fn:Func} {body:Code} (hf:P.funcs[f]? =some fn) (hn:(fn.name== "runtime.NumGoroutine")=false) (hb:fn.body=some body) {args:Array Value} {w:World} {R:Value->World->Prop}
  (h:Calls P f args w fun e w'=>∃v,e= .returned v/\R v w'):Call1 P f args w R:=by
 intro o a next Q hk
 rw[rI hf hn hb,Oper.uponIn_enter]
 refine⟨fun h=>(by cases h),callsIn_wide.2 (h.mono fun e w' ⟨v,he,hr⟩=> ?_)⟩
 subst he
 exact hk v w' hr
def Jy (P:Program) (f:FuncId):Prop:=∃fn body,P.funcs[f]? =some fn/\(fn.name== "runtime.NumGoroutine")=false/\fn.body=some body
structure hJ (P:Program) (f:FuncId) (args:List SVal) (st:St) (s:SVal) (st':St):Prop where
 body:Jy P f
 eX:eS st st'
 ok:∀{c:Ctx} {w:World},dM c st.look w->Wf st->pH c st.next st'.next->∀{vs:List Value},aQ c args vs->Calls P f vs.toArray w fun e w'=>∃v,e= .returned v/\∃c',Good st st' s c w c' v w'
section
variable {P:Program} {E:Env} {o:Oper} {ev:jr} {st st':St}
theorem ja {e:Operand->Value} {d:Go.Call} {fop:Operand} {f:FuncId} {first cap:List SVal} {ss:List SVal} {c:Ctx} (ho:o.op= .call d) (hc:d.callee= .value fop) (hf:ev fop=some (.func (.func f) first cap)) (hev:lZ ev d.args.toList=some ss)
  (he:∀x∈o.op.operands.toList,∀s,ev x=some s->Den c s (e x)):∃vs,aQ c (first++(ss++cap)) vs/\∀w,(execOp e o).run P w=(callFunc f vs.toArray).run P w:=by
 have mem:∀x,x∈d.args.toList->∀s,ev x=some s->Den c s (e x):=fun x hx=>he x (by
  rw[ho]
  show x∈(_++d.args).toList
  rw[XO]
  exact WB _ hx)
 obtain⟨x,y,h1,h2,h3⟩:=he fop (by simp[ho,Op.operands,Go.Call.operands,hc]) _ hf
 refine⟨x++(d.args.toList.map e++y),aQ.append.2 ⟨_,_,h1,aQ.append.2 ⟨_,_,n9 mem hev,h2,rfl⟩,rfl⟩,fun w=> ?_⟩
 simp only[execOp,ho,Sem.run_bind,resolve,hc,h3,Deferred.ofValue,Sem.run_pure,Result.andThen_ok,invoke]
 congr 2
 simp
theorem km {d:Go.Call} {fop:Operand} {f:FuncId} {first cap ss:List SVal} {s:SVal} (ho:o.op= .call d) (hc:d.callee= .value fop) (hf:ev fop=some (.func (.func f) first cap)) (hev:lZ ev d.args.toList=some ss) (h:hJ P f (first++(ss++cap)) st s st'):bG P o ev st s st':=
 ⟨by simp[ho],h.eX,fun{c w} hr hwf hfr {e} he a next Q hn=>by
  obtain⟨vs,h1,h2⟩:=ja (P:=P) ho hc hf hev he
  obtain⟨fn,body,g1,g2,g3⟩:=h.body
  rw[h2]
  exact ff g1 g2 g3 (h.ok hr hwf hfr h1) o a next Q fun v w' ⟨c',hg⟩=>hn c' v w' hg⟩
end
mutual
def kh:SVal->SVal
 | .aD=> .aK false []
 | .aK _ rows=> .aK false rows
 | .agg l=> .agg (cH l)
 |s=>s
def cH:List SVal->List SVal
 |[]=>[]
 |s::r=>kh s::cH r
end
mutual
theorem uj {c:Ctx}:∀(s:SVal) (v:Value),Den c s v->Den c (kh s) v
 | .aD,v,h=> .inl ⟨rfl,none,0,h,fun h=>by cases h⟩
 | .aK f rows,v,h=>by
  rcases h with⟨h1,a,cap,h2,_⟩|⟨b,base,size,cap,h1,h2,_,h3⟩
  ·exact .inl ⟨h1,a,cap,h2,fun h=>by cases h⟩
  ·exact .inr ⟨b,base,size,cap,h1,h2,(fun h=>by cases h),h3⟩
 | .agg l,v,⟨vs,h1,h2⟩=>⟨vs,gE l vs h1,h2⟩
 | .bool _,_,h=>h
 | .int _ _,_,h=>h
 | .str _,_,h=>h
 | .nilPtr,_,h=>h
 | .ptr _ _,_,h=>h
 | .fv _ _ _ _,_,h=>h
 | .bR _ _,_,h=>h
 | .own _ _,_,h=>h
 | .eJ,_,h=>h
 | .map _,_,h=>h
 | .func _ _ _,_,h=>h
 | .fY,_,h=>h
 | .nilIface,_,h=>h
 | .iface _ _,_,h=>h
 | .dZ _,_,h=>h
theorem gE {c:Ctx}:∀(l:List SVal) (vs:List Value),aQ c l vs->aQ c (cH l) vs
 |[],_,h=>h
 |s::r,_,⟨v,l,h1,h2,h3⟩=>⟨v,l,uj s v h1,gE r l h2,h3⟩
end
inductive iK:St->List SVal->List SVal->St->Prop where
 |nil {st:St}:iK st [] [] st
 |same {st st':St} {s:SVal} {r r':List SVal}:iK st r r' st'->iK st (s::r) (s::r') st'
 |aD {st st':St} {r r':List SVal}:iK st r r' st'->iK st (.aD::r) (.aK false []::r') st'
 |aK {st st':St} {f:Bool} {rows:List (List SVal)} {r r':List SVal}:iK st r r' st'->iK st (.aK f rows::r) (.aK false rows::r') st'
 |own {st st':St} {k m s:Nat} {rows:List (List SVal)} {z:Bool} {r r':List SVal}:st.look k=some (.row m rows s z)->iK (st.put k (.row m rows s true)) r r' st'->iK st (.own k s::r) (.aK false rows::r') st'
 |agg {st st1 st':St} {l l' r r':List SVal}:iK st l l' st1->iK st1 r r' st'->iK st (.agg l::r) (.agg l'::r') st'
 |ptr {st st1 st':St} {k off:Nat} {l l' r r':List SVal}:st.look k=some (.cells l)->iK st l l' st1->st1.look k=some (.cells l)->gi l'=true->iK (st1.put k (.still l')) r r' st'->iK st (.ptr k off::r) (.bR l' off::r') st'
 |still {st st':St} {k off:Nat} {l r r':List SVal}:st.look k=some (.still l)->gi l=true->iK st r r' st'->iK st (.ptr k off::r) (.bR l off::r') st'
 |func {st st1 st2 st':St} {f:FuncId} {x x' y y' r r':List SVal}:iK st x x' st1->iK st1 y y' st2->iK st2 r r' st'->iK st (.func (.func f) x y::r) (.func (.func f) x' y'::r') st'
theorem iK.eX {st st':St} {l l':List SVal} (h:iK st l l' st'):eS st st'/\st'.next=st.next:=by
 induction h with
 |nil=>exact⟨eS.refl _,rfl⟩
 |same _ ih=>exact ih
 |aD _ ih=>exact ih
 |aK _ ih=>exact ih
 |own hk _ ih=>exact⟨(dA _ hk).trans ih.1,ih.2⟩
 |agg _ _ ih1 ih2=>exact⟨ih1.1.trans ih2.1,ih2.2.trans ih1.2⟩
 |ptr _ _ hk _ _ ih1 ih2=>exact⟨ih1.1.trans ((dA _ hk).trans ih2.1),ih2.2.trans ih1.2⟩
 |still _ _ _ ih=>exact ih
 |func _ _ _ ih1 ih2 ih3=>exact⟨ih1.1.trans (ih2.1.trans ih3.1),ih3.2.trans (ih2.2.trans ih1.2)⟩
theorem iK.ok {st st':St} {l l':List SVal} (h:iK st l l' st') {w:World}:∀{c:Ctx},dM c st.look w->∀{vs:List Value},aQ c l vs->∃c',c'.ρ=c.ρ/\dM c' st'.look w/\Step st.next st'.next c st.look w c' st'.look w/\aQ c' l' vs:=by
 induction h with
 |nil=>exact fun{c} hr _ hd=>⟨c,rfl,hr,Step.refl _ _ _ _,hd⟩
 |same _ ih=>
  rintro c hr vs ⟨v,l,h1,h2,rfl⟩
  obtain⟨c',e,h3,h4,h5⟩:=ih hr h2
  exact⟨c',e,h3,h4,v,l,Den.le h4.le _ _ h1,h5,rfl⟩
 |aD _ ih=>
  rintro c hr vs ⟨v,l,h1,h2,rfl⟩
  obtain⟨c',e,h3,h4,h5⟩:=ih hr h2
  exact⟨c',e,h3,h4,v,l,uj .aD v h1,h5,rfl⟩
 |aK _ ih=>
  rintro c hr vs ⟨v,l,h1,h2,rfl⟩
  obtain⟨c',e,h3,h4,h5⟩:=ih hr h2
  exact⟨c',e,h3,h4,v,l,Den.le h4.le _ _ (uj (.aK _ _) v h1),h5,rfl⟩
 |own hk h ih=>
  rintro c hr vs ⟨v,l,h1,h2,rfl⟩
  obtain⟨c1,e1,r1,s1,d1⟩:=pj hk hr
  obtain⟨c',e,h3,h4,h5⟩:=ih r1 (aQ.le s1.le _ _ h2)
  exact⟨c',e.trans e1,h3,s1.trans h4 (V2 _) (Yt h.eX.2.symm),v,l,Den.le h4.le _ _ (d1 v h1),h5,rfl⟩
 |agg ha hb ih1 ih2=>
  rintro c hr vs ⟨v,l,⟨xs,h1,rfl⟩,h2,rfl⟩
  obtain⟨c1,e1,r1,s1,d1⟩:=ih1 hr h1
  obtain⟨c',e,h3,h4,h5⟩:=ih2 r1 (aQ.le s1.le _ _ h2)
  exact⟨c',e.trans e1,h3,s1.trans h4 ha.eX.1.next hb.eX.1.next,_,l,⟨xs,aQ.le h4.le _ _ d1,rfl⟩,h5,rfl⟩
 |ptr h0 ha hk hf hb ih1 ih2=>
  rintro c hr vs ⟨v,vl,h1,h2,rfl⟩
  obtain⟨lc,g1,g2⟩:=hr.dO _ _ h0
  cases lc with
  |row=>exact g2.elim
  |box b=>
   obtain⟨arr,e,g3,g4,_⟩:=g2
   obtain⟨c1,e1,r1,s1,d1⟩:=ih1 hr g4
   obtain⟨c2,e2,r2,s2,d2⟩:=yA hk r1 (ig hf) fun b' arr' e' h3 h4=>by
    rw[e1,g1] at h3
    cases h3
    rw[g3] at h4
    cases h4
    exact d1
   obtain⟨c',e3,h4,h5,h6⟩:=ih2 r2 (aQ.le s2.le _ _ (aQ.le s1.le _ _ h2))
   exact⟨c',e3.trans (e2.trans e1),h4,(s1.trans s2 ha.eX.1.next (V2 _)).trans h5 (Wq ha.eX.1.next (V2 _)) hb.eX.1.next,v,vl,Den.le h5.le _ _ (d2 _ v (Den.le s1.le _ _ h1)),h6,rfl⟩
 |still hk hf _ ih=>
  rintro c hr vs ⟨v,l,h1,h2,rfl⟩
  obtain⟨c',e,h3,h4,h5⟩:=ih hr h2
  exact⟨c',e,h3,h4,v,l,Den.le h4.le _ _ (JR hk hr (ig hf) h1),h5,rfl⟩
 |func ha hb hc ih1 ih2 ih3=>
  rintro c hr vs ⟨v,l,⟨xs,ys,h1,h2,rfl⟩,h3,rfl⟩
  obtain⟨c1,e1,r1,s1,d1⟩:=ih1 hr h1
  obtain⟨c2,e2,r2,s2,d2⟩:=ih2 r1 (aQ.le s1.le _ _ h2)
  obtain⟨c',e,h4,h5,h6⟩:=ih3 r2 (aQ.le s2.le _ _ (aQ.le s1.le _ _ h3))
  exact⟨c',e.trans (e2.trans e1),h4,(s1.trans s2 ha.eX.1.next hb.eX.1.next).trans h5 (Wq ha.eX.1.next hb.eX.1.next) hc.eX.1.next,_,l,⟨xs,ys,aQ.le h5.le _ _ (aQ.le s2.le _ _ d1),aQ.le h5.le _ _ d2,rfl⟩,h6,rfl⟩
def VN (fz:Nat->Nat->Option Value) (w:World):Prop:=∀b i v,fz b i=some v->∃arr e f,w.heap[b]? =some (.cells arr e f)/\arr[i]? =some v
def bare (fz:Nat->Nat->Option Value):Ctx:=⟨fun _=>none,fz⟩
def Aft (fz:Nat->Nat->Option Value) (w:World) (s:SVal) (v:Value) (w':World):Prop:=
 ∃fz',(∀b i v,fz b i=some v->fz' b i=some v)/\(∀b i v,fz' b i=some v->fz b i=some v\/w.heap.size<=b)/\VN fz' w'/\dj w w'/\Den (bare fz') s v
structure lF (P:Program) (f:FuncId) (args:List SVal) (s:SVal):Prop where
 body:Jy P f
 O8:aB args=true
 cres:closed s=true
 ok:∀{fz:Nat->Nat->Option Value} {w:World} {vs:List Value},VN fz w->aQ (bare fz) args vs->Calls P f vs.toArray w fun e w'=>∃v,e= .returned v/\Aft fz w s v w'
theorem kD {st:St} {c:Ctx} {w w':World} {fz':Nat->Nat->Option Value} (hr:dM c st.look w) (g:dj w w') (h1:∀b i v,c.fz b i=some v->fz' b i=some v) (h2:∀b i v,fz' b i=some v->c.fz b i=some v\/w.heap.size<=b) (h3:VN fz' w'):
  dM ⟨c.ρ,fz'⟩ st.look w'/\Step st.next st.next c st.look w ⟨c.ρ,fz'⟩ st.look w':=by
 have hle:Le c ⟨c.ρ,fz'⟩:=⟨fun _ l h=>⟨l,h,dJ.refl l⟩,h1⟩
 refine⟨⟨fun k o hk=> ?_,hr.sep,h3⟩,⟨hle,fun _ _ h=>h,fun _ _ h h'=>⟨h,h'⟩,g.os,g.tape,g.output,g.size,fun r hr' _=>g.old r hr',fun _ h=> .inl h,fun b i v hv=>(h2 b i v hv).imp id .inr⟩⟩
 obtain⟨l,h4,h5⟩:=hr.dO k o hk
 refine⟨l,h4,h5.s9 hle (fun b hb=>g.old b (h5.lt hb)) fun b hb i v hv=> ?_⟩
 rcases h2 b i v hv with h|h
 ·exact h
 ·have:=h5.lt hb;omega
section
variable {P:Program} {E:Env} {o:Oper} {ev:jr} {st st':St}
theorem Mz {d:Go.Call} {fop:Operand} {f:FuncId} {first cap ss args:List SVal} {s:SVal} (ho:o.op= .call d) (hc:d.callee= .value fop) (hf:ev fop=some (.func (.func f) first cap)) (hev:lZ ev d.args.toList=some ss) (ha:cH (first++(ss++cap))=args) (h:lF P f args s):bG P o ev st s st:=
 ⟨by simp[ho],eS.refl _,fun{c w} hr hwf hfr {e} he a next Q hn=>by
  obtain⟨vs,h1,h2⟩:=ja (P:=P) ho hc hf hev he
  obtain⟨fn,body,g1,g2,g3⟩:=h.body
  rw[h2]
  have hd:aQ (bare c.fz) args vs:=aQ.free (c:=c) (c':=bare c.fz) (fun _ _ _ h=>h) _ _ h.O8 (ha▸gE _ _ h1)
  refine ff g1 g2 g3 (h.ok hr.fz hd) o a next Q fun v w' ⟨fz',h4,h5,h6,h7,h8⟩=> ?_
  obtain⟨r1,s1⟩:=kD hr h7 h4 h5 h6
  exact hn ⟨c.ρ,fz'⟩ v w' ⟨Den.free (c:=bare fz') (c':=⟨c.ρ,fz'⟩) (fun _ _ _ h=>h) _ _ h.cres h8,r1,s1⟩⟩
theorem Au {d:Go.Call} {fop:Operand} {f:FuncId} {first cap ss args:List SVal} {s:SVal} (ho:o.op= .call d) (hc:d.callee= .value fop) (hf:ev fop=some (.func (.func f) first cap)) (hev:lZ ev d.args.toList=some ss) (ha:iK st (first++(ss++cap)) args st') (h:lF P f args s):bG P o ev st s st':=
 ⟨by simp[ho],ha.eX.1,fun{c w} hr hwf hfr {e} he a next Q hn=>by
  obtain⟨vs,h1,h2⟩:=ja (P:=P) ho hc hf hev he
  obtain⟨fn,body,g1,g2,g3⟩:=h.body
  rw[h2]
  obtain⟨c1,e1,r1,s1,d1⟩:=ha.ok hr h1
  have hd:aQ (bare c1.fz) args vs:=aQ.free (c:=c1) (c':=bare c1.fz) (fun _ _ _ h=>h) _ _ h.O8 d1
  refine ff g1 g2 g3 (h.ok r1.fz hd) o a next Q fun v w' ⟨fz',h4,h5,h6,h7,h8⟩=> ?_
  obtain⟨r2,s2⟩:=kD r1 h7 h4 h5 h6
  exact hn ⟨c1.ρ,fz'⟩ v w' ⟨Den.free (c:=bare fz') (c':=⟨c1.ρ,fz'⟩) (fun _ _ _ h=>h) _ _ h.cres h8,r2,s1.trans s2 ha.eX.1.next (V2 _)⟩⟩
mutual
def tB:SVal->Bool
 | .bool _=>true
 | .int _ _=>true
 | .str _=>true
 | .aD=>true
 | .agg l=>mq l
 | .dZ l=>mq l
 |_=>false
def mq:List SVal->Bool
 |[]=>true
 |s::r=>tB s&&mq r
end
mutual
theorem sg {c c':Ctx}:∀(s:SVal) (v:Value),tB s=true->Den c s v->Den c' s v
 | .bool _,_,_,h=>h
 | .int _ _,_,_,h=>h
 | .str _,_,_,h=>h
 | .aD,_,_,h=>h
 | .agg l,_,k,⟨vs,h1,h2⟩=>⟨vs,k7 l vs k h1,h2⟩
 | .dZ l,_,k,⟨vs,h1,h2⟩=>⟨vs,k7 l vs k h1,h2⟩
theorem k7 {c c':Ctx}:∀(l:List SVal) (vs:List Value),mq l=true->aQ c l vs->aQ c' l vs
 |[],_,_,h=>h
 |s::r,_,k,⟨v,l,h1,h2,h3⟩=>by
  rw[mq,Wa] at k
  exact⟨v,l,sg s v k.1 h1,k7 r l k.2 h2,h3⟩
end
theorem xz {d:Go.Call} {fop:Operand} {f:FuncId} {first cap ss args:List SVal} {s:SVal} (ho:o.op= .call d) (hc:d.callee= .value fop) (hf:ev fop=some (.func (.func f) first cap)) (hev:lZ ev d.args.toList=some ss) (ha:iK st (first++(ss++cap)) args st') (hs:tB s=true) (h:lF P f args s):bG P o ev st s st:=
 ⟨by simp[ho],eS.refl _,fun{c w} hr hwf hfr {e} he a next Q hn=>by
  obtain⟨vs,h1,h2⟩:=ja (P:=P) ho hc hf hev he
  obtain⟨fn,body,g1,g2,g3⟩:=h.body
  rw[h2]
  obtain⟨c1,e1,r1,s1,d1⟩:=ha.ok hr h1
  have hd:aQ (bare c1.fz) args vs:=aQ.free (c:=c1) (c':=bare c1.fz) (fun _ _ _ h=>h) _ _ h.O8 d1
  refine ff g1 g2 g3 (h.ok r1.fz hd) o a next Q fun v w' ⟨fz',h4,h5,h6,h7,h8⟩=> ?_
  obtain⟨r2,s2⟩:=kD (fz':=c.fz) hr h7 (fun _ _ _ h=>h) (fun _ _ _ h=> .inl h) fun b i v hv=>h6 b i v (h4 b i v (s1.le.fz b i v hv))
  exact hn ⟨c.ρ,c.fz⟩ v w' ⟨sg _ _ hs h8,r2,s2⟩⟩
end
theorem qi {P:Program} {fn:Func} {tmps:Array Value} {R:Ending->World->Prop}:∀(bs:List Nat) (W:World),bs.Nodup->(∀b∈bs,W.heap[b]? =some (.deferred (some [])))->
  (∀W':World,W'.os=W.os->W'.tape=W.tape->W'.output=W.output->W'.heap.size=W.heap.size->(∀r,r∉bs->W'.heap[r]? =W.heap[r]?)->LeavesIn Fence.wide 0 P fn tmps R [] .returning W')->
  LeavesInM Fence.wide 0 P fn tmps R (bs.map rp) .returning W
 |[],W,_,_,h=>h W rfl rfl rfl rfl fun _ _=>rfl
 |b::bs,W,hn,hd,h=>by
  obtain⟨n1,n2⟩:=Yd.1 hn
  refine⟨by simp,.inl ⟨b,W.putObj b (.deferred none),rfl,run_takeDeferred (hd b (.head _)),qi bs _ n2 (fun b' hb'=> ?_) fun W' e1 e2 e3 e4 e5=> ?_⟩⟩
  ·have hne:b'≠b:=fun e=>n1 (e▸hb')
   exact(World.putObj_heap_other ii).trans (hd b' (.tail _ hb'))
  ·refine h W' e1 e2 e3 (e4.trans (by simp[World.putObj])) fun r hr=> ?_
   have hne:r≠b:=fun e=>hr (e▸.head _)
   exact(e5 r fun hm=>hr (.tail _ hm)).trans (World.putObj_heap_other ii)
theorem KF {lo:Nat} {c0 c:Ctx} {H0 H:gy} {w0 w W:World} (hr:dM c H w) (hs:eA lo c0 H0 w0 c H w) {bs:List Nat} (hb:∀b∈bs,w0.heap.size<=b/\w.heap[b]? =some (.deferred (some [])))
  (e1:W.os=w.os) (e2:W.tape=w.tape) (e3:W.output=w.output) (e4:W.heap.size=w.heap.size) (e5:∀r,r∉bs->W.heap[r]? =w.heap[r]?):dM c H W/\eA lo c0 H0 w0 c H W:=by
 refine⟨⟨fun k o hk=> ?_,hr.sep,fun b i v hv=> ?_⟩,⟨hs.le,hs.fz,hs.off,hs.hid,e1.trans hs.os,e2.trans hs.tape,e3.trans hs.output,by rw[e4];exact hs.size,fun r h1 h2=>(e5 r fun hm=>by have:=(hb r hm).1;omega).trans (hs.kept r h1 h2),hs.owns,hs.xV⟩⟩
 ·obtain⟨l,h1,h2⟩:=hr.dO k o hk
  refine⟨l,h1,h2.s9 (Le.refl c) (fun b hlb=>e5 _ fun hm=> ?_) fun _ _ _ _ h=>h⟩
  obtain⟨y,h3,h4⟩:=su h2 hlb
  rw[(hb b hm).2] at h3
  cases h3
  exact h4 _ rfl
 ·obtain⟨arr,e,f,h1,h2⟩:=hr.fz b i v hv
  refine⟨arr,e,f,(e5 b fun hm=> ?_).trans h1,h2⟩
  rw[(hb b hm).2] at h1
  cases h1
inductive pG (E:Env) (fr:Fr) (st:St):List ResultVar->List SVal->Prop where
 |nil:pG E fr st [] []
 |tmp {t:Nat} {s:SVal} {l:List ResultVar} {ss:List SVal}:fr.get t=some s->pG E fr st l ss->pG E fr st (.tmp t::l) (s::ss)
 |cell {b:Nat} {t:TypeId} {p s:SVal} {cs:List SVal} {l:List ResultVar} {ss:List SVal}:fr.get b=some p->lG st p cs->sA E t cs=some s->pG E fr st l ss->pG E fr st (.cell b t::l) (s::ss)
def yI (tmps:Array Value):ResultVar->Sem Value
 | .tmp t=>pure (tmps.getD t undef)
 | .cell b t=>do loadVar t (<-asAddr (tmps.getD b undef))
theorem Gb (fn:Func) (tmps:Array Value):results fn tmps=(do
  let vs<-fn.results.mapM (yI tmps)
  pure (if h:vs.size=1 then vs[0] else .tuple vs):Sem Value):=by
 unfold results
 refine W4 (fun f=>(fn.results.mapM f>>=fun vs=>pure (if h:vs.size=1 then vs[0] else .tuple vs):Sem Value)) (funext fun x=> ?_)
 cases x<;>rfl
theorem pG.ok {D:List Deferred} {P:Program} {E:Env} (hE:bz P E) {fr:Fr} {st:St} {l:List ResultVar} {ss:List SVal} (h:pG E fr st l ss) {c:Ctx} {w:World} {a:Act} (hr:dM c st.look w) (hf:lI D c fr a):
  ∃vs,aQ c ss vs/\(l.mapM (yI a.tmps)).run P w= .ok vs w:=by
 induction h with
 |nil=>exact⟨[],rfl,rfl⟩
 |tmp h1 _ ih=>
  rename_i t s l ss _
  obtain⟨vs,h2,h3⟩:=ih
  obtain⟨v,h4,h5⟩:=hf.get _ _ h1
  refine⟨v::vs,⟨v,vs,h5,h2,rfl⟩,?_⟩
  rw[List.mapM_cons]
  have:(yI a.tmps (.tmp t)).run P w= .ok v w:=by simp[yI,W0,h4]
  simp only[Sem.run_bind,Result.andThen_ok,this,h3,Sem.run_pure]
 |cell h1 h6 h7 _ ih=>
  rename_i bb tt p s cs l ss _
  obtain⟨vs,h2,h3⟩:=ih
  obtain⟨u,h4,h5⟩:=hf.get _ _ h1
  obtain⟨b,off,rfl,h8⟩:=h6.spec hr h5
  obtain⟨v,h9,h10⟩:=vu (P:=P) hE h8 h7
  refine⟨v::vs,⟨v,vs,h9,h2,rfl⟩,?_⟩
  rw[List.mapM_cons]
  have:(yI a.tmps (.cell bb tt)).run P w= .ok v w:=by simp only[yI,W0,h4,Yw,asAddr,Sem.run_bind,Sem.run_pure,Result.andThen_ok,h10]
  simp only[Sem.run_bind,Result.andThen_ok,this,h3,Sem.run_pure]
def oY:List SVal->SVal
 |[v]=>v
 |vs=> .dZ vs
theorem M1 {c:Ctx} {ss:List SVal} {vs:List Value} (h:aQ c ss vs):Den c (oY ss) (if h:vs.toArray.size=1 then vs.toArray[0] else .tuple vs.toArray):=by
 match ss,h with
 |[],h=>cases h;exact⟨[],rfl,rfl⟩
 |[s],⟨v,l,h1,h2,h3⟩=>
  cases h2
  subst h3
  exact h1
 |s::s2::r,⟨v,l,h1,⟨v2,l2,h3,h4,h5⟩,h6⟩=>
  subst h5 h6
  have:¬((v::v2::l2).toArray.size=1):=by simp
  rw[dif_neg this]
  exact⟨_,⟨v,_,h1,⟨v2,l2,h3,h4,rfl⟩,rfl⟩,rfl⟩
def sJ:Ex->Bool
 | .exit _=>false
 |_=>true
def LC:Nat->List SVal->List (Nat×SVal)
 |_,[]=>[]
 |i,s::r=>(i,s)::LC (i+1) r
theorem E2:∀{l:List SVal} {i t:Nat} {s:SVal},bB (LC i l) t=some s->i<=t/\l[t-i]? =some s
 |[],_,_,_,h=>by cases h
 |x::r,i,t,s,h=>by
  rw[LC,b9] at h
  split at h
  ·rename_i e
   cases h
   have e:i=t:=e
   subst e
   simp
  ·rename_i e
   have e:¬i=t:=e
   obtain⟨h1,h2⟩:=E2 h
   refine⟨by omega,?_⟩
   rw[show t-i=(t-(i+1))+1 by omega]
   simpa using h2
noncomputable def entry (fn:Func) (args:List SVal):Fr:=⟨args.length+(fn.ntmps-args.length),LC 0 args⟩
theorem wV {P:Program} {E:Env} (hE:bz P E) {f:FuncId} {fn:Func} (hf:E.funcs.get f=some fn) {body:Code} (hb:fn.body=some body) {lo:Nat} {args:List SVal} {st:St} {Φ:Ex->Fr->St->Prop} (h:W P lo body (entry fn args) st Φ)
  {c:Ctx} {w:World} (hr:dM c st.look w) (hwf:Wf st) (hdom:∀k,st.next<=k->c.ρ k=none) (hlo:lo<=st.next) (hm:st.mark<=lo) {vs:List Value} (hd:aQ c args vs) {R:Ending->World->Prop}
  (hR:∀x fr' st' c' w',Φ x fr' st'->dM c' st'.look w'->Wf st'->eA lo c st.look w c' st'.look w'->rX lo st st'->(∀k,st'.next<=k->c'.ρ k=none)->sJ x=true/\∃ss,pG E fr' st' fn.results.toList ss/\∀v,Den c' (oY ss) v->R (.returned v) w'):Calls P f vs.toArray w R:=by
 obtain⟨g1,g2⟩:=hE.funcs f fn hf
 refine callsIn_wide.1 (callsIn_of_wp_marks (n:=0) g1 hb trivial (h (ro:=none) (B:=w.heap.size) (D:=[]) ⟨hr,hwf,hdom,(⟨?_,fun t s ht=> ?_,rfl⟩:lI [] c (entry fn args) {tmps:=vs.toArray++Array.replicate (fn.ntmps-vs.toArray.size) undef,defers:=[]}),L1.nil _ _,V2 _,hlo,hm⟩ (.inl rfl) fun x fr' st' D' c' a' w' h1 h2 h3 h4 _=> ?_).wp)
 ·have hl:=hd.length
  show(vs.toArray++Array.replicate (fn.ntmps-vs.toArray.size) undef).size=args.length+(fn.ntmps-args.length)
  simp[hl]
 ·obtain⟨_,h3⟩:=E2 (show bB (LC 0 args) t=some s from ht)
  obtain⟨v,h7,h8⟩:=hd.get h3
  refine⟨v,?_,h8⟩
  rw[X2] at h7
  have:t<vs.length:=(VZ.1 h7).1
  show(vs.toArray++Array.replicate (fn.ntmps-vs.toArray.size) undef)[t]? =some v
  rw[Array.getElem?_append_left (by simpa using this)]
  simpa using h7
 ·obtain⟨bs,d1,d2,d3⟩:=h2.Gl
  have fin:LeavesInM Fence.wide 0 P fn a'.tmps R a'.defers .returning w'/\sJ x=true:=by
   refine⟨?_,(hR x fr' st' c' w' h1 h2.rep h2.wf h3 h4 h2.yb).1⟩
   rw[h2.fr.defers,d1]
   refine qi bs w' d2 (fun b hb=>(d3 b hb).2) fun W e1 e2 e3 e4 e5=> ?_
   obtain⟨r1,s1⟩:=KF h2.rep h3 d3 e1 e2 e3 e4 e5
   obtain⟨_,ss,h5,h6⟩:=hR x fr' st' c' W h1 r1 h2.wf s1 h4 h2.yb
   obtain⟨rs,h7,h8⟩:=h5.ok hE (P:=P) r1 h2.fr
   have hres:(results fn a'.tmps).run P W= .ok (if h:rs.toArray.size=1 then rs.toArray[0] else .tuple rs.toArray) W:=by
    rw[Gb,Array.mapM_eq_mapM_toList,Sem.run_bind]
    simp only[Sem.run_map,h8,Result.andThen_ok,Sem.run_pure]
   exact⟨_,hres,h6 _ (M1 h7)⟩
  cases x with
  |normal=>exact fin.1
  |ret=>exact fin.1
  |exit id=>cases fin.2
theorem Q9 {P:Program} {E:Env} (hE:bz P E) {f:FuncId} {fn:Func} (hf:E.funcs.get f=some fn) {body:Code} (hb:fn.body=some body) {args:List SVal} {s:SVal} (hc:aB args=true)
  (h:W P 0 body (entry fn args) ⟨[],0,0,[],[]⟩ fun x fr' st'=>sJ x=true/\∃ss,pG E fr' st' fn.results.toList ss/\∃ss' st2,iK st' ss ss' st2/\oY ss'=s) (hs:closed s=true):lF P f args s:=by
 obtain⟨g1,g2⟩:=hE.funcs f fn hf
 refine⟨⟨fn,body,g1,g2,hb⟩,hc,hs,fun{fz w vs} hfz hd=> ?_⟩
 have h0:∀k,(St.mk [] 0 0 [] []).look k=none:=fun k=>by rw[look_eq];rfl
 refine wV hE hf hb h (c:=bare fz) (w:=w) ⟨fun k o hk=>(by rw[h0] at hk;cases hk),fun k j o o' l l' r hk=>(by rw[h0] at hk;cases hk),hfz⟩ ⟨fun _ _=>rfl,fun k hk=>(by cases hk),V2 _⟩ (fun _ _=>rfl) (V2 _) (V2 _) hd ?_
 rintro x fr' st' c' w' ⟨he,ss,h1,ss',st2,h2,rfl⟩ h3 h4 h5 h6 h7
 refine⟨he,ss,h1,fun v hv=>⟨v,rfl,?_⟩⟩
 have noown:∀r,¬fU (bare fz) (St.mk [] 0 0 [] []).look r:=fun r ⟨k,o,l,hk,_⟩=>by rw[h0] at hk;cases hk
 have gr:dj w w':=⟨h5.os,h5.tape,h5.output,h5.size,fun r hr=>h5.kept r hr (noown r)⟩
 have hv':∃c2,dM c2 st2.look w'/\Step st'.next st2.next c' st'.look w' c2 st2.look w'/\Den c2 (oY ss') v:=by
  match ss,h2,hv with
  |[],h2,hv=>cases h2;exact⟨c',h3,Step.refl _ _ _ _,hv⟩
  |[a],h2,hv=>
   obtain⟨c2,_,r2,s2,d2⟩:=h2.ok h3 (vs:=[v]) ⟨v,[],hv,rfl,rfl⟩
   have:∃b,ss'=[b]:=by cases h2<;>(rename_i hh;cases hh;exact⟨_,rfl⟩)
   obtain⟨b,rfl⟩:=this
   obtain⟨u,l,d3,d4,e⟩:=d2
   cases d4
   cases e
   exact⟨c2,r2,s2,d3⟩
  |a::b::r,h2,⟨us,hvs,e⟩=>
   subst e
   obtain⟨c2,_,r2,s2,d2⟩:=h2.ok h3 hvs
   have:∃a' b' r',ss'=a'::b'::r':=by cases h2<;>(rename_i hh;cases hh<;>exact⟨_,_,_,rfl⟩)
   obtain⟨a',b',r',rfl⟩:=this
   exact⟨c2,r2,s2,us,d2,rfl⟩
 obtain⟨c2,r2,s2,d2⟩:=hv'
 refine⟨c2.fz,fun b i v hv=>s2.le.fz b i v (h5.fz b i v hv),fun b i v hv=> ?_,r2.fz,gr,Den.free (c:=c2) (c':=bare c2.fz) (fun _ _ _ h=>h) _ _ hs d2⟩
 rcases s2.xV b i v hv with e|e|e
 ·rcases h5.xV b i v e with e|e|e
  ·exact .inl e
  ·exact absurd e (noown b)
  ·exact .inr e
 ·rcases h5.owns b e with e|e
  ·exact absurd e (noown b)
  ·exact .inr e
 ·exact .inr (Wq h5.size e)
theorem UT {st st':St} {ss ss':List SVal} (h:iK st ss ss' st') {c:Ctx} {w:World} (hr:dM c st.look w) {v:Value} (hv:Den c (oY ss) v):∃c2,dM c2 st'.look w/\Step st.next st'.next c st.look w c2 st'.look w/\Den c2 (oY ss') v:=by
 match ss,h,hv with
 |[],h,hv=>cases h;exact⟨c,hr,Step.refl _ _ _ _,hv⟩
 |[a],h,hv=>
  obtain⟨c2,_,r2,s2,d2⟩:=h.ok hr (vs:=[v]) ⟨v,[],hv,rfl,rfl⟩
  have:∃b,ss'=[b]:=by cases h<;>(rename_i hh;cases hh;exact⟨_,rfl⟩)
  obtain⟨b,rfl⟩:=this
  obtain⟨u,l,d3,d4,e⟩:=d2
  cases d4
  cases e
  exact⟨c2,r2,s2,d3⟩
 |a::b::r,h,⟨us,hvs,e⟩=>
  subst e
  obtain⟨c2,_,r2,s2,d2⟩:=h.ok hr hvs
  have:∃a' b' r',ss'=a'::b'::r':=by cases h<;>(rename_i hh;cases hh<;>exact⟨_,_,_,rfl⟩)
  obtain⟨a',b',r',rfl⟩:=this
  exact⟨c2,r2,s2,us,d2,rfl⟩
theorem BI {P:Program} {E:Env} (hE:bz P E) {f:FuncId} {fn:Func} (hf:E.funcs.get f=some fn) {body:Code} (hb:fn.body=some body) {args:List SVal} {s:SVal} {st st2:St} (hsta:eS st st2) (hnb:∀k o,bB st.heap k=some o->gN st.next o=true) (hna:cX st.next args=true)
  (h:W P st.next body (entry fn args) st fun x fr' st'=>sJ x=true/\∃ss,pG E fr' st' fn.results.toList ss/\∃ss' st3,iK st' ss ss' st3/\oY ss'=s/\kS st.next st2 st3/\nb st2.next s=true):hJ P f args st s st2:=by
 obtain⟨g1,g2⟩:=hE.funcs f fn hf
 refine⟨⟨fn,body,g1,g2,hb⟩,hsta,fun{c w} hr hwf hfree vs hd=> ?_⟩
 have cut:∀k,k<st.next->(lV st.next c).ρ k=c.ρ k:=fun k hk=>er c hk
 have lt:∀k o,st.look k=some o->k<st.next:=fun k o hk=>by
  rcases WI k st.next with q|q
  ·exact q
  ·have:=(cT hk).1;rw[hwf.none k q] at this;cases this
 have hr0:dM (lV st.next c) st.look w:=⟨fun k o hk=>by
  obtain⟨l,h1,h2⟩:=hr.dO k o hk
  exact⟨l,(cut k (lt k o hk)).trans h1,h2.low cut rfl (hnb k o (cT hk).1)⟩,fun k j o o' l l' r hk hj hne h1 h2=>by
  rw[cut k (lt k o hk)] at h1
  rw[cut j (lt j o' hj)] at h2
  exact hr.sep k j o o' l l' r hk hj hne h1 h2,hr.fz⟩
 have hd0:aQ (lV st.next c) args vs:=aQ.low cut (fun _ _ _ h=>h) _ _ hna hd
 refine wV hE hf hb h hr0 hwf (fun k hk=>TP ii) (V2 _) hwf.mark hd0 ?_
 rintro x fr' st0 c00 w' ⟨he,ss,h1,ss',st',hfz,rfl,hless,hns⟩ h3' h4 h5' h6 h7
 refine⟨he,ss,h1,fun v hv'=>⟨v,rfl,?_⟩⟩
 obtain⟨c1,h3,hst,hv⟩:=UT hfz h3' hv'
 have h5:=h5'.trans (hst.c (lo:=st.next) (by rw[<-hfz.eX.2];exact Wq hless.low hless.next))
 let c2:Ctx:=⟨fun k=>if k<st2.next then c1.ρ k else c.ρ k,c1.fz⟩
 have low2:∀k,k<st2.next->c2.ρ k=(lV st2.next c1).ρ k:=fun k hk=>by
  show(if k<st2.next then c1.ρ k else c.ρ k)=(if k<st2.next then c1.ρ k else none)
  rw[HP hk,HP hk]
 have r1:=hless.rep h3
 have lt2:∀k o,st2.look k=some o->k<st2.next:=fun k o hk=>(hless.heap k o (cT hk).1).2.2
 have r2:dM c2 st2.look w':=⟨fun k o hk=>by
  obtain⟨l,g3,g4⟩:=r1.dO k o hk
  exact⟨l,(low2 k (lt2 k o hk)).trans g3,g4.low low2 rfl (hless.look hk).2⟩,fun k j o o' l l' r hk hj hne g3 g4=>by
  rw[low2 k (lt2 k o hk)] at g3
  rw[low2 j (lt2 j o' hj)] at g4
  exact r1.sep k j o o' l l' r hk hj hne g3 g4,r1.fz⟩
 have ownc:∀r,fU (lV st.next c) st.look r->fU c st.look r:=fun r ⟨k,o,l,hk,g3,g4⟩=>⟨k,o,l,hk,by rw[cut k (lt k o hk)] at g3;exact g3,g4⟩
 have own2:∀r,fU c2 st2.look r->fU c1 st'.look r:=fun r ⟨k,o,l,hk,g3,g4⟩=>⟨k,o,l,(hless.look hk).1,by
  rw[low2 k (lt2 k o hk),er c1 (lt2 k o hk)] at g3
  exact g3,g4⟩
 have hnx:=hless.low
 refine⟨c2,⟨Den.low (c:=c1) (c':=c2) (m:=st2.next) (fun k hk=>HP hk) (fun _ _ _ h=>h) _ _ hns hv,r2,⟨⟨fun k l e=> ?_,h5.fz⟩,fun k hk e=> ?_,fun k l e e'=> ?_,h5.os,h5.tape,h5.output,h5.size,fun r hr hn=>h5.kept r hr fun ho=>hn (ownc r ho),fun r ho=>(h5.owns r (own2 r ho)).imp (ownc r) id,fun b i v hv=>(h5.xV b i v hv).imp id fun e=>e.imp (ownc b) id⟩⟩⟩
 ·by_cases q:k<st.next
  ·obtain⟨l',e1,e2⟩:=h5.le k l q (by rw[cut k q];exact e)
   exact⟨l',(HP ii).trans e1,e2⟩
  ·by_cases q2:k<st2.next
   ·rw[hfree k ii q2] at e;cases e
   ·exact⟨l,(TP q2).trans e,dJ.refl l⟩
 ·rcases hk with q|q
  ·exact(HP ii).trans (h5.off k q (by rw[cut k q];exact e))
  ·exact(TP ii).trans e
 ·by_cases q:k<st.next
  ·obtain⟨e1,e2⟩:=h5.hid k l q e (by rw[cut k q];exact e')
   refine⟨?_,(HP ii).trans e2⟩
   cases hx:st2.look k with
   |none=>rfl
   |some o=>rw[(hless.look hx).1] at e1;cases e1
  ·by_cases q2:k<st2.next
   ·rw[hfree k ii q2] at e';cases e'
   ·refine⟨?_,(TP q2).trans e'⟩
    cases hx:st2.look k with
    |none=>rfl
    |some o=>exact absurd (lt2 k o hx) q2
structure TI (st:St) (c:Ctx) (w:World):Prop where
 rep:dM (lV st.next c) st.look w
 own:∀r,fU (lV st.next c) st.look r->fU c st.look r
theorem Oa {st:St} {c:Ctx} {w:World} (hr:dM c st.look w) (hwf:Wf st) (hnb:∀k o,bB st.heap k=some o->gN st.next o=true):TI st c w:=by
 have cut:∀k,k<st.next->(lV st.next c).ρ k=c.ρ k:=fun k hk=>er c hk
 have lt:∀k o,st.look k=some o->k<st.next:=fun k o hk=>by
  rcases WI k st.next with q|q
  ·exact q
  ·have:=(cT hk).1;rw[hwf.none k q] at this;cases this
 refine⟨⟨fun k o hk=> ?_,fun k j o o' l l' r hk hj hne h1 h2=> ?_,hr.fz⟩,fun r ⟨k,o,l,hk,g3,g4⟩=>⟨k,o,l,hk,by rw[cut k (lt k o hk)] at g3;exact g3,g4⟩⟩
 ·obtain⟨l,h1,h2⟩:=hr.dO k o hk
  exact⟨l,(cut k (lt k o hk)).trans h1,h2.low cut rfl (hnb k o (cT hk).1)⟩
 ·rw[cut k (lt k o hk)] at h1
  rw[cut j (lt j o' hj)] at h2
  exact hr.sep k j o o' l l' r hk hj hne h1 h2
theorem KP {st st2 st':St} {c c1:Ctx} {w w':World} (hi:TI st c w) (hfree:pH c st.next st2.next) (h3:dM c1 st'.look w') (h5:eA st.next (lV st.next c) st.look w c1 st'.look w') (hless:kS st.next st2 st') {s:SVal} {v:Value} (hv:Den c1 s v) (hns:nb st2.next s=true):
  ∃c2,Good st st2 s c w c2 v w':=by
 have cut:∀k,k<st.next->(lV st.next c).ρ k=c.ρ k:=fun k hk=>er c hk
 let c2:Ctx:=⟨fun k=>if k<st2.next then c1.ρ k else c.ρ k,c1.fz⟩
 have low2:∀k,k<st2.next->c2.ρ k=(lV st2.next c1).ρ k:=fun k hk=>by
  show(if k<st2.next then c1.ρ k else c.ρ k)=(if k<st2.next then c1.ρ k else none)
  rw[HP hk,HP hk]
 have r1:=hless.rep h3
 have lt2:∀k o,st2.look k=some o->k<st2.next:=fun k o hk=>(hless.heap k o (cT hk).1).2.2
 have r2:dM c2 st2.look w':=⟨fun k o hk=>by
  obtain⟨l,g3,g4⟩:=r1.dO k o hk
  exact⟨l,(low2 k (lt2 k o hk)).trans g3,g4.low low2 rfl (hless.look hk).2⟩,fun k j o o' l l' r hk hj hne g3 g4=>by
  rw[low2 k (lt2 k o hk)] at g3
  rw[low2 j (lt2 j o' hj)] at g4
  exact r1.sep k j o o' l l' r hk hj hne g3 g4,r1.fz⟩
 have own2:∀r,fU c2 st2.look r->fU c1 st'.look r:=fun r ⟨k,o,l,hk,g3,g4⟩=>⟨k,o,l,(hless.look hk).1,by
  rw[low2 k (lt2 k o hk),er c1 (lt2 k o hk)] at g3
  exact g3,g4⟩
 have hnx:=hless.low
 refine⟨c2,⟨Den.low (c:=c1) (c':=c2) (m:=st2.next) (fun k hk=>HP hk) (fun _ _ _ h=>h) _ _ hns hv,r2,⟨⟨fun k l e=> ?_,h5.fz⟩,fun k hk e=> ?_,fun k l e e'=> ?_,h5.os,h5.tape,h5.output,h5.size,fun r hr hn=>h5.kept r hr fun ho=>hn (hi.own r ho),fun r ho=>(h5.owns r (own2 r ho)).imp (hi.own r) id,fun b i v hv=>(h5.xV b i v hv).imp id fun e=>e.imp (hi.own b) id⟩⟩⟩
 ·by_cases q:k<st.next
  ·obtain⟨l',e1,e2⟩:=h5.le k l q (by rw[cut k q];exact e)
   exact⟨l',(HP ii).trans e1,e2⟩
  ·by_cases q2:k<st2.next
   ·rw[hfree k ii q2] at e;cases e
   ·exact⟨l,(TP q2).trans e,dJ.refl l⟩
 ·rcases hk with q|q
  ·exact(HP ii).trans (h5.off k q (by rw[cut k q];exact e))
  ·exact(TP ii).trans e
 ·by_cases q:k<st.next
  ·obtain⟨e1,e2⟩:=h5.hid k l q e (by rw[cut k q];exact e')
   refine⟨?_,(HP ii).trans e2⟩
   cases hx:st2.look k with
   |none=>rfl
   |some o=>rw[(hless.look hx).1] at e1;cases e1
  ·by_cases q2:k<st2.next
   ·rw[hfree k ii q2] at e';cases e'
   ·refine⟨?_,(TP q2).trans e'⟩
    cases hx:st2.look k with
    |none=>rfl
    |some o=>exact absurd (lt2 k o hx) q2
def jm:Ex->Option Code
 | .normal=>none
 | .exit id=>some (.exit id)
 | .ret=>some .ret
def dT:Ex->Bool
 | .normal=>true
 |_=>false
noncomputable def vb:List Nat->List SVal->Fr->Option Fr
 |[],[],fr=>some fr
 |p::ps,a::as,fr=>eR (fr.set p a) fun fr'=>vb ps as fr'
 |_,_,_=>none
theorem Mw {c:Ctx} {fr fr':Fr} {tmps:Array Value} {d:Nat} {s:SVal} {v:Value} (h:mW c fr tmps) (hs:fr.set d s=some fr') (hd:Den c s v):mW c fr' (tmps.setIfInBounds d v):=by
 obtain⟨h1,h2,h3⟩:=fu hs
 refine⟨by simp[h.1,h2],fun t s' ht=> ?_⟩
 rw[h3] at ht
 by_cases e:t=d
 ·subst e
  rw[HP rfl] at ht
  cases ht
  exact⟨v,by simp[h.1,h1],hd⟩
 ·rw[TP e] at ht
  obtain⟨v',h4,h5⟩:=h.2 t s' ht
  exact⟨v',by simp[Xw (XF e),h4],h5⟩
theorem yJ {c:Ctx}:∀{ps:List Nat} {as:List SVal} {fr fr':Fr} {tmps:Array Value} {vs:List Value},vb ps as fr=some fr'->aQ c as vs->mW c fr tmps->
  vs.length=ps.length/\mW c fr' ((ps.zip vs).foldl (fun t (p,v)=>t.setIfInBounds p v) tmps)
 |[],[],fr,fr',tmps,vs,h,hd,hs=>by
  cases h
  cases hd
  exact⟨rfl,hs⟩
 |p::ps,a::as,fr,fr',tmps,vs,h,⟨v,l,h3,h4,e⟩,hs=>by
  subst e
  have h:eR (fr.set p a) (fun fr'=>vb ps as fr')=some fr':=h
  rw[bm] at h
  obtain⟨fr1,h1,h2⟩:=h
  obtain⟨h5,h6⟩:=yJ h2 h4 (Mw hs h1 h3)
  exact⟨by simp[h5],h6⟩
 |[],_::_,fr,fr',tmps,vs,h,_,_=>by cases h
 |_::_,[],fr,fr',tmps,vs,h,_,_=>by cases h
theorem qf {st:St} {c:Ctx} {w:World} (hr:dM c st.look w) {k b:Nat} {r:jq} (h:st.look k=some (.loop r)) (hb:c.ρ k=some (.box b)):∃x,w.heap[b]? =some (.loop x)/\sW c r x:=by
 obtain⟨l',h1,h2⟩:=hr.dO k _ h
 rw[hb] at h1
 cases h1
 exact h2
theorem va (w:World) (r:Nat) (o:Obj):TK (some r) w (w.putObj r o):=
 ⟨rfl,rfl,rfl,by simp[World.putObj],fun x _ hx=>World.putObj_heap_other (by
  have:r≠x:=fun e=>hx (by rw[e])
  omega)⟩
theorem Dt {st:St} {c:Ctx} {w:World} (hr:dM c st.look w) {k b:Nat} {r r':jq} (hk:st.look k=some (.loop r)) (hb:c.ρ k=some (.box b)) {x:Loop} (hx:sW c r' x):
  dM c (st.put k (.loop r')).look (w.putObj b (.loop x))/\Step st.next (st.put k (.loop r')).next c st.look w c (st.put k (.loop r')).look (w.putObj b (.loop x)):=by
 obtain⟨y,h1,_⟩:=qf hr hk hb
 have hlt:b<w.heap.size:=(Wl.1 h1).1
 refine eP (o':= .loop r') hr hk hb hb (dJ.refl _) (fun _ _=>rfl) (fun _ _ _ h=>h) (fun _ _ _ h=> .inl h) (fun r hr=> .inl hr) (va w b _) (fun b' i v hb' hv=> ?_) ⟨x,World.putObj_heap_same hlt,hx⟩
 cases hb'
 obtain⟨arr,ee,f,h6,_⟩:=hr.fz _ _ _ hv
 rw[h1] at h6
 cases h6
theorem OD {st:St} {k b:Nat} {o:bo} {c:Ctx} {w w':World} (hr:dM c st.look w) (hk:st.look k=some o) (hb:c.ρ k=some (.box b)) (hw:TK (some b) w w') (hfz:∀i v,c.fz b i≠some v):
  dM c (st.drop k).look w'/\Step st.next (st.drop k).next c st.look w c (st.drop k).look w':=by
 obtain⟨r1,s1⟩:=OC (k:=k) hr
 have old:∀m om,(st.drop k).look m=some om->m≠k/\st.look m=some om:=fun m om hm=>by
  rw[look_eq,qD,show(st.drop k).cE=st.cE from rfl] at hm
  split at hm
  ·cases hm
  ·rename_i hb
   split at hm
   ·cases hm
   ·rename_i hne;exact⟨hne,by rw[look_eq,TP hb];exact hm⟩
 refine⟨⟨fun m om hm=> ?_,r1.sep,fun b' i v hv=> ?_⟩,⟨s1.le,s1.off,s1.hid,hw.os,hw.tape,hw.output,hw.size,fun r hr' hn=>hw.old r hr' fun e=>hn ⟨k,o,_,hk,hb,e⟩,fun r ho=>(s1.owns r ho).imp id fun h=>h,s1.xV⟩⟩
 ·obtain⟨l,h1,h2⟩:=r1.dO m om hm
  obtain⟨hne,hm'⟩:=old m om hm
  refine⟨l,h1,h2.s9 (Le.refl c) (fun r hlr=>hw.old r (h2.lt hlr) fun e=> ?_) fun _ _ _ _ h=>h⟩
  exact hr.sep k m o om _ l r hk hm' (XF hne) hb h1 e hlr
 ·have hne:b'≠b:=fun e=>by subst e;exact hfz i v hv
  rw[hw.old b' (D6 hr hv) fun e=>hne (by cases e;rfl)]
  exact hr.fz b' i v hv
section
variable {P:Program} {E:Env} {o:Oper} {ev:jr} {st:St}
theorem J2 {d:Go.Call} {fop:Operand} {k:Nat} {x0 y0 ss:List SVal} {r:jq} {fr:Fr} {b:Bool} {st2:St} (ho:o.op= .call d) (hc:d.callee= .value fop) (hf:ev fop=some (.func (.yield k) x0 y0)) (hev:lZ ev d.args.toList=some ss) (hk:st.look k=some (.loop r)) (hr0:r.state=0)
  (hp:vb r.ps ss r.fr=some fr) (hsta:eS st st2) (hnb:∀k o,bB st.heap k=some o->gN st.next o=true) (hna:cX st.next ss=true)
  (h:W P st.next r.assign fr st fun x fr1 st1=>x= .normal/\st1.look k=some (.loop r)/\
   W P st.next r.body fr1 (st1.put k (.loop ⟨r.fr,r.ps,r.assign,r.body,1,r.lS⟩)) fun x _ st3=>∃r3,st3.look k=some (.loop r3)/\b=dT x/\kS st.next st2 (st3.put k (.loop ⟨r3.fr,r3.ps,r3.assign,r3.body,Bool.rec 2 0 (dT x),jm x⟩))):bG P o ev st (.bool b) st2:=
 ⟨by simp[ho],hsta,fun{c w} hr hwf hfree {e} he a next Q hn=>by
  have mem:∀x,x∈d.args.toList->∀s,ev x=some s->Den c s (e x):=fun x hx=>he x (by
   rw[ho]
   show x∈(_++d.args).toList
   rw[XO]
   exact WB _ hx)
  obtain⟨bk,hbk,hfv⟩:=he fop (by simp[ho,Op.operands,Go.Call.operands,hc]) _ hf
  have hd:=n9 mem hev
  have hrun:(execOp e o).run P w=(Instr.yield bk (d.args.toList.map e).toArray).run P w:=by
   simp only[execOp,ho,Sem.run_bind,resolve,hc,hfv,Deferred.ofValue,Sem.run_pure,Result.andThen_ok,invoke]
   congr 2
   simp
   exact(nL e d.args).symm
  rw[hrun]
  have hi:=Oa hr hwf hnb
  have hklt:k<st.next:=by
   rcases WI k st.next with q|q
   ·exact q
   ·have:=(cT hk).1;rw[hwf.none k q] at this;cases this
  have hb0:(lV st.next c).ρ k=some (.box bk):=(er c hklt).trans hbk
  have hd0:aQ (lV st.next c) ss (d.args.toList.map e):=aQ.low (fun k hk=>er c hk) (fun _ _ _ h=>h) _ _ hna hd
  obtain⟨l,e2,e3⟩:=qf hi.rep hk hb0
  obtain⟨hsz,hslots⟩:=yJ hp hd0 e3.r9
  rw[run_yield e2 (by rw[e3.ps];simp at hsz⊢;exact hsz),Oper.uponIn_round]
  refine⟨fun h=>(by cases h),roundIn_of_wpIn trivial ?_⟩
  rw[e3.assign,e3.body,e3.ps]
  have hent:S9 st.next [] 0 (lV st.next c) fr st {tmps:=(r.ps.toArray.zip (d.args.toList.map e).toArray).foldl (fun tmps (t,a)=>tmps.setIfInBounds t a) l.tmps,defers:=[]} w:=
   ⟨hi.rep,hwf,fun k hk=>TP ii,⟨by have:=hslots.1;simpa using this,by have:=hslots.2;simpa using this,rfl⟩,L1.nil _ _,Wd _,V2 _,hwf.mark⟩
  refine(h hent (ro:=some bk) (.inr e3.one) fun x fr1 st1 D1 c1 a1 w1 h1 h2 h3 h4 h5=> ?_).wp
  obtain⟨rfl,hk1,hbody⟩:=h1
  have hb1:c1.ρ k=some (.box bk):=by
   obtain⟨l',g1,g2⟩:=h3.le k _ hklt hb0
   cases g2
   exact g1
  obtain⟨l1,g2,g3⟩:=qf h2.rep hk1 hb1
  have hready:l1.state= .ready:=by rw[g3.state,hr0];rfl
  refine⟨_,run_beginRound g2 hready,?_⟩
  obtain⟨rep2,stp2⟩:=Dt h2.rep hk1 hb1 (r':=⟨r.fr,r.ps,r.assign,r.body,1,r.lS⟩) (x:={l1 with state:= .busy}) ⟨g3.r9,g3.ps,g3.assign,g3.body,rfl,g3.lS,g3.one,g3.two⟩
  have cs2:=stp2.c h2.low
  have sta2:=dA (.loop ⟨r.fr,r.ps,r.assign,r.body,1,r.lS⟩) hk1
  have hent2:S9 st.next D1 0 c1 fr1 (st1.put k (.loop ⟨r.fr,r.ps,r.assign,r.body,1,r.lS⟩)) a1 (w1.putObj bk (.loop {l1 with state:= .busy})):=
   ⟨rep2,h2.wf.eX sta2,h2.yb,h2.fr,h2.Gl.step h2.rep cs2,Wd _,h2.low,h2.mark⟩
  refine(hbody hent2 (ro:=some bk) (.inr e3.two) fun x fr2 st3 D3 c3 a3 w3 i1 i2 i3 i4 i5=> ?_).wp
  obtain⟨r3,hk3,rfl,hless⟩:=i1
  have hb3:c3.ρ k=some (.box bk):=by
   obtain⟨l',q1,q2⟩:=i3.le k _ hklt hb1
   cases q2
   exact q1
  obtain⟨l3,q2,q3⟩:=qf i2.rep hk3 hb3
  have hend:=run_endRound (P:=P) (jm x) q2
  have hst:tw (Bool.rec 2 0 (dT x))=if(jm x).isNone then .ready else .done:=by cases x<;>rfl
  obtain⟨rep4,stp4⟩:=Dt i2.rep hk3 hb3 (r':=⟨r3.fr,r3.ps,r3.assign,r3.body,Bool.rec 2 0 (dT x),jm x⟩) (x:={l3 with state:=if(jm x).isNone then .ready else .done,pending:=jm x}) ⟨q3.r9,q3.ps,q3.assign,q3.body,hst.symm,rfl,q3.one,q3.two⟩
  have hb:dT x=(jm x).isNone:=by cases x<;>rfl
  have tot:=((h3.trans cs2).trans i3).trans (stp4.c i2.low)
  obtain⟨c5,hg⟩:=KP hi hfree rep4 tot hless (s:= .bool (dT x)) (v:= .bool (dT x)) rfl rfl
  have fin:=hn c5 (.bool (dT x)) _ hg
  cases x with
  |normal=>exact⟨_,_,hend,fin⟩
  |ret=>exact⟨_,_,hend,fin⟩
  |exit id=>exact⟨_,_,hend,fin⟩⟩
def N1:Option Code->Option Ex
 |none=>some .normal
 |some .ret=>some .ret
 |some (.exit id)=>some (.exit id)
 |_=>none
def Vy:Oper:={dst:=none,op:= .move (.tmp 0),type:=0,pos:= "",after:= #[],guard:=none}
theorem W.range {lo:Nat} {g:Operand} {ps:Array Tmp} {x y:Code} {fr fr1:Fr} (hn1:fr1.n=fr.n) (hf1:∀t s,fr1.get t=some s->fr.get t=some s) {f:FuncId} {first cap:List SVal} {s:SVal} {st2:St} {rc:jq} {ex:Ex} {Φ:Ex->Fr->St->Prop} (hg:Fw fr g=some (.func (.func f) first cap)) (n1:jB x=true) (n2:jB y=true)
  (hcall:hJ P f (first++([SVal.func (.yield st.next) [] []]++cap)) (st.fresh (.loop ⟨fr1,ps.toList,x,y,0,none⟩)) s st2) (hk:st2.look st.next=some (.loop rc)) (hs:rc.state≠1) (hj:N1 rc.lS=some ex) (h:Φ ex fr (st2.drop st.next)):W P lo (.rangeFunc g ps x y) fr st Φ:=by
 intro ro B D c w a he hro Q hq
 have hro:ro=none:=hro.elim id fun h=>(by cases h)
 subst hro
 show(Code.rangeFunc g ps x y).wpIn (jd none) 0 P Q a w
 refine wpIn_rangeFunc ?_
 intro fnid _
 obtain⟨W1,hW1⟩:∃W1,(w.alloc (.deferred (some []))).alloc (.loop {state:= .ready,pending:=none,fn:=fnid,tmps:=a.tmps,params:=ps,assign:=x,body:=y,defers:=w.heap.size})=W1:=⟨_,rfl⟩
 have hL:W1.heap[w.heap.size+1]? =some (.loop {state:= .ready,pending:=none,fn:=fnid,tmps:=a.tmps,params:=ps,assign:=x,body:=y,defers:=w.heap.size}):=by
  rw[<-hW1]
  have:=World.alloc_heap_new (w.alloc (.deferred (some []))) (.loop {state:= .ready,pending:=none,fn:=fnid,tmps:=a.tmps,params:=ps,assign:=x,body:=y,defers:=w.heap.size})
  rwa [World.size_alloc] at this
 have hD:W1.heap[w.heap.size]? =some (.deferred (some [])):=by
  rw[<-hW1]
  exact(Below.heap_alloc _ _ _ (by simp)).trans (World.alloc_heap_new w _)
 have hS:dj w W1:=by
  rw[<-hW1]
  exact(dj.alloc _ _).trans (dj.alloc _ _)
 obtain⟨fn,body,g1,g2,g3⟩:=hcall.body
 have hρk:c.ρ st.next=none:=he.yb _ (V2 _)
 have hle:=qK (.box (w.heap.size+1)) hρk
 obtain⟨r1,t1⟩:=gQ (o:= .loop ⟨fr1,ps.toList,x,y,0,none⟩) he.rep hρk he.wf hS (l:= .box (w.heap.size+1)) (fun b hb=>by cases hb;omega) ⟨_,hL,⟨mW.le (c:=c) (fr:=fr1) (tmps:=a.tmps) ⟨by rw[hn1];exact he.fr.size,fun t s hs=>he.fr.get t s (hf1 t s hs)⟩ hle,by simp,rfl,rfl,rfl,rfl,n1,n2⟩⟩
 obtain⟨xs,ys,d1,d2,d3⟩:=he.fr.eval g _ hg
 have hy:Den (ir c st.next (.box (w.heap.size+1))) (.func (.yield st.next) [] []) (.func (.yield (w.heap.size+1)) #[] #[]):=⟨_,cI _ _ _,rfl⟩
 have dl:aQ (ir c st.next (.box (w.heap.size+1))) (first++([SVal.func (.yield st.next) [] []]++cap)) (xs++([Value.func (.yield (w.heap.size+1)) #[] #[]]++ys)):=
  aQ.append.2 ⟨_,_,aQ.le hle _ _ d1,aQ.append.2 ⟨_,_,⟨_,[],hy,rfl,rfl⟩,aQ.le hle _ _ d2,rfl⟩,rfl⟩
 have wf1:=he.wf.eX (dE st (.loop ⟨fr1,ps.toList,x,y,0,none⟩))
 have dom1:∀n,(st.fresh (.loop ⟨fr1,ps.toList,x,y,0,none⟩)).next<=n->(ir c st.next (.box (w.heap.size+1))).ρ n=none:=fun n hn=>by
  have hn:st.next+1<=n:=hn
  rw[gw c _ ii]
  exact he.yb n ii
 have hc:=hcall.ok r1 wf1 (fun n hn _=>dom1 n hn) dl
 have hc1:=ff g1 g2 g3 hc Vy a (fun _ w'=>∃v' c',Good (st.fresh (.loop ⟨fr1,ps.toList,x,y,0,none⟩)) st2 s (ir c st.next (.box (w.heap.size+1))) W1 c' v' w') (fun _ _ _=>False) fun v' w' ⟨c',hg⟩=>⟨v',c',hg⟩
 rw[rI g1 g2 g3,Oper.uponIn_enter] at hc1
 refine⟨w.heap.size+1,[rp w.heap.size],W1,⟨.fn (.func f) ys.toArray,xs.toArray++ #[.func (.yield (w.heap.size+1)) #[] #[]]⟩,W1,f,_,W1,?_,?_,fun _ _=>trivial,?_,fun h=>(by cases h),hc1.2.mono ?_⟩
 ·rw[<-hW1];exact run_enterLoop_outer _ _ _ _ _
 ·simp only[resolve,d3,Deferred.ofValue]
  simp[go_sem]
 ·simp only[invoke]
  rw[<-rI g1 g2 g3]
  congr 2
  simp
 ·rintro e w2 hh
  cases e with
  |panicked ch=>exact hh.elim
  |outgrown=>obtain⟨_,_,hh⟩:=hh;exact hh.elim
  |returned v'=>
   obtain⟨v',c2,hg⟩:=hh
   have hk2:c2.ρ st.next=some (.box (w.heap.size+1)):=hg.step.le.box (cI _ _ _)
   obtain⟨l,e2,e3⟩:=qf hg.rep hk hk2
   have hnb:l.state≠.busy:=by
    rw[e3.state]
    rcases hss:rc.state with _|_|n
    ·simp[tw]
    ·exact absurd hss hs
    ·simp[tw]
   have hend:=run_endLoop (P:=P) e2 hnb
   have nofz:∀i v,c2.fz (w.heap.size+1) i≠some v:=fun i v hv=>by
    obtain⟨arr,ee,f,h6,_⟩:=hg.rep.fz _ _ _ hv
    rw[e2] at h6
    cases h6
   obtain⟨r3,t3⟩:=OD hg.rep hk hk2 (va w2 (w.heap.size+1) (.loop {l with state:= .exhausted})) nofz
   have s3n:st2.next=(st2.drop st.next).next:=rfl
   have cs:eA lo c st.look w c2 (st2.drop st.next).look (w2.putObj (w.heap.size+1) (.loop {l with state:= .exhausted})):=
    ((t1.trans hg.step (XI _) hcall.eX.next).trans t3 (Wq (XI _) hcall.eX.next) (Yt s3n)).c he.low
   have stay:∀(b:Nat) (z:Option (List Deferred)),W1.heap[b]? =some (.deferred z)->(w2.putObj (w.heap.size+1) (.loop {l with state:= .exhausted})).heap[b]? =some (.deferred z):=fun b z hz=>by
    have h1:=(hg.step.kept b (Wl.1 hz).1 (Dh r1 hz)).trans hz
    have hne:b≠w.heap.size+1:=fun e=>by rw[e,e2] at h1;cases h1
    exact(World.putObj_heap_other ii).trans h1
   have hmk:L1 B (rp w.heap.size::D) (w2.putObj (w.heap.size+1) (.loop {l with state:= .exhausted})):=by
    obtain⟨bs,b1,b2,b3⟩:=he.Gl
    refine⟨w.heap.size::bs,by rw[b1];rfl,Yd.2 ⟨fun hmem=> ?_,b2⟩,fun b hb=> ?_⟩
    ·have:=(Wl.1 (b3 _ hmem).2).1
     omega
    ·rcases V9.1 hb with rfl|hb
     ·exact⟨he.base,stay _ _ hD⟩
     ·exact⟨(b3 b hb).1,stay _ _ ((hS.old b (Wl.1 (b3 b hb).2).1).trans (b3 b hb).2)⟩
   have sta3:=((dE st (.loop ⟨fr1,ps.toList,x,y,0,none⟩)).trans hcall.eX).trans (OB hk)
   have hent:S9 lo (rp w.heap.size::D) B c2 fr (st2.drop st.next) {a with defers:=[rp w.heap.size]++a.defers} (w2.putObj (w.heap.size+1) (.loop {l with state:= .exhausted})):=
    ⟨r3,he.wf.eX sta3,fun n hn=>t3.off n (.inr hn) (hg.step.off n (.inr hn) (dom1 n (Wq hcall.eX.next hn))),⟨he.fr.size,fun t s hs=>by
     obtain⟨v,q1,q2⟩:=he.fr.get t s hs
     exact⟨v,q1,Den.le (hle.trans hg.step.le) _ _ q2⟩,by rw[he.fr.defers];rfl⟩,hmk,Wq he.base cs.size,Wq he.low sta3.next,by rw[sta3.mark];exact he.mark⟩
   have hend2:=hq ex fr (st2.drop st.next) _ _ _ _ h hent cs (sta3.c he.low) rfl
   generalize w2.putObj (w.heap.size+1) (.loop {l with state:= .exhausted})=W3 at hend hend2
   refine⟨l.pending,_,hend,?_⟩
   rw[e3.lS]
   cases hp:rc.lS with
   |none=>
    rw[hp] at hj
    cases hj
    exact hend2
   |some cc=>
    rw[hp] at hj
    cases cc with
    |ret=>cases hj;exact wpIn_ret hend2
    |exit id=>cases hj;exact wpIn_exit hend2
    |_=>cases hj
end
section
variable {P:Program} {E:Env} {o:Oper} {ev:jr} {st:St}
theorem ME (hE:bz P E) {d:Go.Call} {t tx e e' sz k s:Nat} {x:SVal} {rows new:List (List SVal)} (ho:o.op= .call d) (hb:d.callee= .builtin .copy) (hev:lZ ev d.args.toList=some [.own k s,x]) (ht:d.argTypes= #[t,tx]) (hel:dz E t=some e) (hex:dz E tx=some e') (hsz:cQ E e=some sz)
  (hk:st.look k=some (.row sz rows s false)) (hx:dr st x new) (hl:∀r∈new,r.length=sz) (hn:new.length=rows.length):bG P o ev st (.int .i64 rows.length) (st.put k (.row sz new s false)):=
 cV (S:=fun us=>Builtin.copy_ d.argTypes o.type us.toArray) ho hb hev (dA _ hk) (fun us consts=>rfl) fun{c w} hr hwf hf us hd=>by
  obtain⟨u,v,hu,hv,rfl⟩:=two hd
  have hu1:=cu hE hel
  obtain⟨ie,hie,rfl,hs⟩:=bZ hE hsz
  obtain⟨news,h1,h2,h3⟩:=hx.src (P:=P) hr hv hl (cu hE hex)
  obtain⟨_,ob,st0,sz0,u0,g1,g2,g3⟩:=hu
  obtain⟨l',g4,g5⟩:=hr.dO _ _ hk
  rw[g1] at g4
  cases g4
  obtain⟨rfl,rfl,g5⟩:=g5
  have:=g3 rfl
  subst this
  rw[ht]
  cases ob with
  |none=>
   obtain⟨rfl,a,rfl⟩:=g5
   have h0:=Wn.1 hn
   subst h0
   have hn0:news=[]:=Wn.1 (by rw[h2];simp)
   subst hn0
   obtain⟨r1,r2⟩:=eP (o':= .row ie.size [] st0 false) hr hk g1 g1 (dJ.refl _) (fun _ _=>rfl) (fun _ _ _ h=>h) (fun _ _ _ h=> .inl h) (fun r hr=> .inl hr) ((dj.refl w).but _) (fun b i v hb=>by cases hb) ⟨rfl,rfl,rfl,a,rfl⟩
   refine⟨c,.int .i64 0,w,?_,rfl,r1,r2⟩
   have hc:=h3.cells
   simp only[WA] at hc
   cases a with
   |none=>simp[Builtin.copy_,run_underlying hu1,hs,h3.len w,hc,goInt]
   |some a=>simp[Builtin.copy_,run_underlying hu1,hs,h3.len w,hc,goInt,storeCells]
  |some b=>
   obtain⟨arr,el,cap,g6⟩:=g5
   have hval:=g6.val
   have hle:rows.length*ie.size<=cap*ie.size:=W7 _ g6.fits
   have hsize:=g6.size
   have hnl:news.length=rows.length*ie.size:=by rw[h2,hn]
   obtain⟨k1,k2,k3⟩:=kW (off:=0) g6.cells ii h3.one
   have hobj:eT c (.row ie.size new st0 false) (.row (some b) st0 ie.size u) (stored w b 0 arr news):=by
    refine⟨rfl,rfl,_,el,cap,⟨by rw[hval,hn],k3,by simp;omega,by rw[hn];exact g6.fits,?_,fun j y hy=> ?_⟩⟩
    ·refine ez.of hl fun q s hq=> ?_
     obtain⟨y,hy,hd⟩:=h1.get hq
     have hlt:q<news.length:=(VZ.1 hy).1
     refine⟨y,?_,h3.one y (V6 hy),hd⟩
     simp only[XE,List.take_zero,Xg]
     rw[Wi hlt]
     exact hy
    ·have:=(g6.fz j y hy).1
     cases this
   obtain⟨r1,r2⟩:=eP hr hk g1 g1 (dJ.refl _) (fun _ _=>rfl) (fun _ _ _ h=>h) (fun _ _ _ h=> .inl h) (fun r hr=> .inl hr) k2
    (fun b' j y hb hy=>by cases hb;have:=(g6.fz j y hy).1;cases this) hobj
   refine⟨c,.int .i64 rows.length,_,?_,rfl,r1,r2⟩
   have hc:=h3.cells
   rw[hval]
   simp[Builtin.copy_,run_underlying hu1,hs,h3.len w,hn,goInt]
   rw[hn] at hc
   simp[hc,k1 P]
theorem q8 (hE:bz P E) {d:Go.Call} {t tn e size:Nat} {kn kq:IntKind} {n:Int} {k:Nat} {z:SVal} {by4:Nat} (ho:o.op= .call d) (hb:d.callee= .builtin .append) (hev:lZ ev d.args.toList=some [.aD,.int kq n]) (ht:d.argTypes= #[t,tn]) (hel:dz E t=some e) (htn:under E tn=some (.int kn))
  (hsz:cQ E e=some size) (hby:mT E e=some by4) (hb4:Nat.ble by4 4096=true) (hz:iG E e=some z) (hzl:Nat.beq (bX z).length size=true) (hs0:Nat.ble 1 size=true) (hf:gi (bX z)=true) (hn:n=(k:Int)) (h0:0<k) (h1:k<=1000000000):
  bG P o ev st (.own st.next 0) (st.fresh (.row size (List.replicate k (bX z)) 0 false)):=
 cV (S:=fun us=>Builtin.append_ d.argTypes o.type us.toArray) ho hb hev (dE _ _) (fun us consts=>rfl) fun{c w} hr hwf hf0 us hd=>by
  obtain⟨u,v,hu,hv,rfl⟩:=two hd
  cases hu
  cases hv
  have hk:c.ρ st.next=none:=hf0 _ (V2 _) (WW _)
  have hu1:=cu hE hel
  obtain⟨ie,hie,rfl,_⟩:=bZ hE hsz
  obtain⟨ib,hib,rfl⟩:=im hE hby
  rw[hie] at hib
  cases hib
  obtain⟨iz,zv,hiz,hzv,hdz,_⟩:=eH hE hz
  rw[hie] at hiz
  cases hiz
  have hdc:=dX (hdz c)
  have hzs:zv.cells.size=ie.size:=by
   have:=hdc.length
   have h5:=Xy hzl
   simp at this
   omega
  have hb5:=cU hb4
  subst hn
  rw[ht]
  have hge:=grownCap_ge w (0+k) 0 e
  have hrun:=Go.Lib.run_append_grow_zeros w t tn o.type e ie zv kq kn hu1 (bS hE htn) hie hzv none 0 0 [] (run_firstCells_none w.drew ie.size 0 0 0) k h0 (cU hs0) ii ii (by
   have:k*ie.bytes<=1000000000*4096:=Xb h1 hb5
   omega) (nV ii ii hb5)
  have hzc:∀m:Nat,(Builtin.zeroCells zv.cells m).size=m*ie.size:=fun m=>by
   have:=jF (zc:=zv.cells) (size:=ie.size) (need:=0) (cap:=m) (xs:=[]) hzs (by simp) (Wd _)
   simpa using this
  have hzd:aQ c (List.replicate k (bX z)).flatten (Builtin.zeroCells zv.cells k).toList:=by
   have:=qU hdc k
   rw[dW] at this
   simp only[Array.toArray_toList,Ym] at this
   exact this
  have hone:∀y∈(Builtin.zeroCells zv.cells k).toList,y.oneCell'=true:=kF (fun s h=>by
   obtain⟨r,hr,hs⟩:=List.mem_flatten.1 h
   rw[(XC.1 hr).2] at hs
   exact ig hf s hs) hzd
  have hlr:∀r∈List.replicate k (bX z),r.length=ie.size:=fun r hr=>by rw[(XC.1 hr).2];exact Xy hzl
  have hel2:=jI (c:=c) (rows:=[]) (olds:=[]) (tail:=Builtin.zeroCells zv.cells (grownCap w (0+k) 0 e-(0+k))) rfl hzd (fun v hv=>by cases hv) hone (fun r hr=>by cases hr) hlr
  have hsz2:(([]:List Value).toArray++Builtin.zeroCells zv.cells k++Builtin.zeroCells zv.cells (grownCap w (0+k) 0 e-(0+k))).size=grownCap w (0+k) 0 e*ie.size:=by
   rw[Yv,Yv,hzc,hzc,Ya,WA,WU,<-WZ]
   congr 1
   omega
  obtain⟨g1,g2⟩:=newRow (w':=w.drew.alloc (.cells (([]:List Value).toArray++Builtin.zeroCells zv.cells k++Builtin.zeroCells zv.cells (grownCap w (0+k) 0 e-(0+k))) e)) (cap:=grownCap w (0+k) 0 e) (b:=w.heap.size) hr hk hwf
   ((dj.drew w _).trans (dj.alloc _ _)) (fS w.drew _) (V2 _) hsz2 (rows:=List.replicate k (bX z)) (by rw[Wc];omega) (by simpa using hel2)
  refine⟨_,_,_,hrun,?_,g1,g2⟩
  have:=gY (c:=ir c st.next (.row (some w.heap.size) 0 ie.size (.slice (some ⟨w.heap.size,0,none⟩) (List.replicate k (bX z)).length (grownCap w (0+k) 0 e)))) (cI _ _ _) ⟨_,_,_,rfl⟩
  rw[Wc] at this⊢
  rw[WU] at this⊢
  exact this
theorem HX (hE:bz P E) {d:Go.Call} {t e:TypeId} {x:SVal} {n:Nat} (ho:o.op= .call d) (hb:d.callee= .builtin .cap) (hev:lZ ev d.args.toList=some [x]) (ht:d.argTypes[0]? =some t) (hu:dz E t=some e) (hx:(x= .aD/\n=0)\/∃rows,x= .aK true rows/\n=rows.length):bG P o ev st (.int .i64 n) st:=
 cV (S:=fun us=>Builtin.cap_ d.argTypes o.type us.toArray) ho hb hev (eS.refl _) (fun us consts=>rfl) fun{c w} hr hwf hf us hd=>by
  obtain⟨u,hu1,rfl⟩:=one hd
  have h1:=cu hE hu
  have:∃a l,u= .slice a l n:=by
   rcases hx with⟨rfl,rfl⟩|⟨rows,rfl,rfl⟩
   ·cases hu1;exact⟨none,0,rfl⟩
   ·rcases hu1 with⟨h,a0,cap,rfl,hc⟩|⟨b,base,size,cap,rfl,_,hc,_⟩
    ·subst h;rw[hc rfl];exact⟨a0,0,rfl⟩
    ·rw[hc rfl];exact⟨_,_,rfl⟩
  obtain⟨a,l,rfl⟩:=this
  refine mY.same (v:= .int .i64 n) hr ?_ rfl
  simp[Builtin.cap_,ht,run_underlying h1,goInt]
end
noncomputable def Cr:Nat->List SVal->Option (List SVal)
 |0,_=>some []
 |_+1,[]=>none
 |n+1,a::l=>match Cr n l with
  |some r=>some (a::r)
  |none=>none
theorem ur:∀{n:Nat} {l r:List SVal},Cr n l=some r->r=l.take n/\n<=l.length
 |0,l,r,h=>by cases h;exact⟨rfl,Wd _⟩
 |n+1,[],r,h=>by cases h
 |n+1,a::l,r,h=>by
  unfold Cr at h
  split at h
  ·rename_i r' h'
   cases h
   obtain⟨h1,h2⟩:=ur h'
   exact⟨by rw[h1];rfl,by simp;omega⟩
  ·cases h
noncomputable def DC:List SVal->List SVal->Option (List SVal)
 |l,[]=>some l
 |[],_::_=>none
 |_::l,b::v=>match DC l v with
  |some r=>some (b::r)
  |none=>none
theorem IE:∀{l v r:List SVal},DC l v=some r->v.length<=l.length/\r=v++l.drop v.length
 |l,[],r,h=>by
  have h:some l=some r:=by cases l<;>exact h
  cases h;simp
 |[],b::v,r,h=>by cases h
 |a::l,b::v,r,h=>by
  unfold DC at h
  split at h
  ·rename_i r' h'
   cases h
   obtain⟨h1,h2⟩:=IE h'
   subst h2
   simp at h1⊢
   exact h1
  ·cases h
noncomputable def kr:List SVal->Nat->List SVal->Option (List SVal)
 |l,0,v=>DC l v
 |[],_+1,_=>none
 |a::l,n+1,v=>match kr l n v with
  |some r=>some (a::r)
  |none=>none
theorem Da:∀{l:List SVal} {n:Nat} {v r:List SVal},kr l n v=some r->n+v.length<=l.length/\r=l.take n++(v++l.drop (n+v.length))
 |l,0,v,r,h=>by
  have h:DC l v=some r:=by cases l<;>exact h
  obtain⟨h1,h2⟩:=IE h
  subst h2
  exact⟨by omega,by simp⟩
 |[],n+1,v,r,h=>by cases h
 |a::l,n+1,v,r,h=>by
  unfold kr at h
  split at h
  ·rename_i r' h'
   cases h
   obtain⟨h1,h2⟩:=Da h'
   subst h2
   simp
   refine⟨by omega,?_⟩
   rw[show n+1+v.length=(n+v.length)+1 from by omega,List.drop_succ_cons]
  ·cases h
theorem o7 {l:List SVal} {n:Nat} {v r:List SVal} (h:kr l n v=some r):n+v.length<=l.length/\r=over l n v:=by
 obtain⟨h1,h2⟩:=Da h
 exact⟨h1,by rw[p8 l n v h1,h2]⟩
noncomputable def Pw:List SVal->List SVal->Option (List SVal)
 |[],r=>some r
 |a::l,r=>match Pw l r with
  |some x=>some (a::x)
  |none=>none
theorem BO:∀{l r x:List SVal},Pw l r=some x->x=l++r
 |[],r,x,h=>by cases h;rfl
 |a::l,r,x,h=>by
  unfold Pw at h
  split at h
  ·rename_i y h'
   cases h
   rw[BO h'];rfl
  ·cases h
section
variable {α:Type}
noncomputable def Jn (k:Nat) (o:α):List (Nat×α)->Option (List (Nat×α))
 |[]=>some [(k,o)]
 |p::r=>match Nat.beq p.1 k with
  |true=>some ((k,o)::r)
  |false=>match Jn k o r with
   |some x=>some (p::x)
   |none=>none
theorem E3 {k:Nat} {o:α}:∀{l r:List (Nat×α)},Jn k o l=some r->r=iS l k o
 |[],r,h=>by cases h;rfl
 |p::l,r,h=>by
  unfold Jn at h
  split at h
  ·rename_i hb
   cases h
   show _= @Bool.rec (fun _=>List (Nat×α)) _ _ (Nat.beq p.1 k)
   rw[hb]
  ·rename_i hb
   split at h
   ·rename_i x hx
    cases h
    rw[E3 hx]
    show _= @Bool.rec (fun _=>List (Nat×α)) _ _ (Nat.beq p.1 k)
    rw[hb]
    rfl
   ·cases h
end
def cF {α:Type} (x:Option α) (K:α->Prop):Prop:=match x with
 |some a=>K a
 |none=>False
theorem aH {α:Type} {x:Option α} {K:α->Prop} (h:cF x K):∃a,x=some a/\K a:=by
 cases x with
 |none=>exact h.elim
 |some a=>exact⟨a,rfl,h⟩
def yes (b:Bool) (K:Prop):Prop:=match b with
 |true=>K
 |false=>False
theorem b8 {b:Bool} {K:Prop} (h:yes b K):b=true/\K:=by
 cases b with
 |true=>exact⟨rfl,h⟩
 |false=>exact h.elim
noncomputable def way (b:Bool) (p q:Prop):Prop:= @Bool.rec (fun _=>Prop) q p b
theorem dm {b:Bool} {p q:Prop} (h1:b=true->p) (h2:b=false->q): @Bool.rec (fun _=>Prop) q p b:=by
 cases b with
 |true=>exact h1 rfl
 |false=>exact h2 rfl
theorem FK {b:Bool} {p q:Prop} (h:way b p q):(b=true/\p)\/(b=false/\q):=by
 cases b with
 |true=>exact .inl ⟨rfl,h⟩
 |false=>exact .inr ⟨rfl,h⟩
def asB (v:SVal) (K:Bool->Prop):Prop:=match v with
 | .bool b=>K b
 |_=>False
theorem Hd {v:SVal} {K:Bool->Prop} (h:asB v K):∃b,v= .bool b/\K b:=by
 cases v<;>first|exact⟨_,rfl,h⟩|exact h.elim
def LY (v:SVal) (K:IntKind->Int->Prop):Prop:=match v with
 | .int k n=>K k n
 |_=>False
theorem jo {v:SVal} {K:IntKind->Int->Prop} (h:LY v K):∃k n,v= .int k n/\K k n:=by
 cases v<;>first|exact⟨_,_,rfl,h⟩|exact h.elim
def lC (v:SVal) (K:List SVal->Prop):Prop:=match v with
 | .agg l=>K l
 |v=>K [v]
theorem fP {v:SVal} {K:List SVal->Prop} (h:lC v K):K (bX v):=by
 cases v<;>exact h
noncomputable def vw (E:Env) (t:TypeId) (l:List SVal):Option SVal:=match PD E t with
 |some false=>match l with
  |s::_=>some s
  |[]=>none
 |some true=>match cQ E t with
  |some n=>match Cr n l with
   |some r=>some (.agg r)
   |none=>none
  |none=>none
 |none=>none
theorem vv {E:Env} {t:TypeId} {l:List SVal} {s:SVal} (h:vw E t l=some s):sA E t l=some s:=by
 unfold vw at h
 unfold sA
 split at h
 ·rename_i h1
  rw[h1]
  split at h
  ·cases h;rfl
  ·cases h
 ·rename_i h1
  rw[h1]
  split at h
  ·rename_i n h2
   split at h
   ·rename_i r h3
    obtain⟨h4,h5⟩:=ur h3
    cases h
    rw[h2,h4]
    show Af (Nat.ble n l.length) _=_
    rw[show Nat.ble n l.length=true from XD h5]
    rfl
   ·cases h
  ·cases h
 ·cases h
structure VG (rows:List (List SVal)) (i:Nat) (K:List SVal->Prop):Prop where
 out:∃row,rows[i]? =some row/\K row
structure WrR (rows:List (List SVal)) (i off:Nat) (v:List SVal) (K:List (List SVal)->Prop):Prop where
 out:∃row r,rows[i]? =some row/\kr row off v=some r/\K (rows.set i r)
theorem cw {α:Type} {f:α->List SVal} {l:List α} {i off:Nat} {v:List SVal} {K:List (List SVal)->Prop} (x y:α) (h:l[i]? =some x) (hr:kr (f x) off v=some (f y)) (k:K ((l.set i y).map f)):WrR (l.map f) i off v K:=
 ⟨f x,f y,by rw[Wt,h];rfl,hr,by rw[<-List.map_set];exact k⟩
structure xm (rows:List (List SVal)) (K:List (List SVal)->Prop):Prop where
 out:K rows
theorem E1 {rows:List (List SVal)} {K:List (List SVal)->Prop} (k:K rows):xm rows K:=⟨k⟩
theorem Ps {rows:List (List SVal)} {K:List (List SVal)->Prop} (rows':List (List SVal)) (h:rows=rows') (k:K rows'):xm rows K:=by
 subst h;exact⟨k⟩
theorem jY {α:Type} {f:α->List SVal} {l r:List α} {K:List (List SVal)->Prop} (k:K ((l++r).map f)):xm (l.map f++r.map f) K:=⟨by rw[<-W2];exact k⟩
theorem aM {α:Type} {f:α->List SVal} {l:List α} {row:List SVal} {K:List (List SVal)->Prop} (x:α) (h:f x=row) (k:K ((l++[x]).map f)):xm (l.map f++[row]) K:=⟨by
 rw[W2] at k
 subst h
 exact k⟩
theorem BN {α:Type} (f:α->List SVal) {row:List SVal} {K:List (List SVal)->Prop} (x:α) (h:f x=row) (k:K ([x].map f)):xm [row] K:=⟨by
 subst h
 exact k⟩
theorem G9 {α:Type} (f:α->List SVal) {n:Nat} {row:List SVal} {K:List (List SVal)->Prop} (x:α) (h:f x=row) (k:K ((List.replicate n x).map f)):xm (List.replicate n row) K:=⟨by
 subst h
 rw[List.map_replicate] at k
 exact k⟩
theorem Pu {α:Type} {f:α->List SVal} {l:List α} {a b:Nat} {K:List (List SVal)->Prop} (k:K (((l.take a).drop b).map f)):xm (((l.map f).take a).drop b) K:=⟨by rw[List.map_drop,List.map_take] at k;exact k⟩
theorem SV {α:Type} {f:α->List SVal} {l:List α} {a:Nat} {K:List (List SVal)->Prop} (k:K ((l.take a).map f)):xm ((l.map f).take a) K:=⟨by rw[List.map_take] at k;exact k⟩
theorem lens1 {row:List SVal} {n:Nat} (h:row.length=n):∀r∈[row],r.length=n:=fun r hr=>by
 rw[V1] at hr
 rw[hr];exact h
structure LK {α:Type} (l:List α) (K:Nat->Prop):Prop where
 out:K l.length
theorem UG {α β:Type} {f:α->β} {l:List α} {K:Nat->Prop} (k:K l.length):LK (l.map f) K:=⟨by rw[V4];exact k⟩
theorem gO {α:Type} {l:List α} {K:Nat->Prop} (k:K l.length):LK l K:=⟨k⟩
theorem RF {α β:Type} {f:α->β} {n:Nat} {x:α} {K:Nat->Prop} (k:K n):LK ((List.replicate n x).map f) K:=⟨by rw[V4,Wc];exact k⟩
theorem RE {α β:Type} {f:α->β} {l:List α} {i:Nat} {x:α} {K:Nat->Prop} (k:K l.length):LK ((l.set i x).map f) K:=⟨by rw[V4,Wb];exact k⟩
def Ic (st:St) (p:SVal) (K:List SVal->Prop):Prop:=match p with
 | .ptr k off=>match st.look k with
  |some (.cells l)=>K (l.drop off)
  |some (.still l)=>K (l.drop off)
  |_=>False
 | .fv k s i off=>match st.look k with
  |some (.row _ rows s' _)=>yes (Nat.beq s' s) (VG rows i fun row=>K (row.drop off))
  |_=>False
 | .bR row off=>K (row.drop off)
 |_=>False
theorem C4 {st:St} {p:SVal} {K:List SVal->Prop} (h:Ic st p K):∃l,lG st p l/\K l:=by
 unfold Ic at h
 split at h
 ·split at h
  ·rename_i h1
   exact⟨_,.box h1,h⟩
  ·rename_i h1
   exact⟨_,.still h1,h⟩
  ·exact h.elim
 ·split at h
  ·rename_i h1
   obtain⟨h2,⟨row,h3,h4⟩⟩:=b8 h
   have:=WE h2
   subst this
   exact⟨_,.row h1 h3,h4⟩
  ·exact h.elim
 ·exact⟨_,.elem,h⟩
 ·exact h.elim
noncomputable def hY (st:St) (k:Nat) (o:bo) (K:St->Prop):Prop:=match st with
 |⟨heap,next,mark,log,cE⟩=>match Jn k o heap with
  |some h'=>match Nat.ble (Nat.succ k) mark with
   |true=>K ⟨h',next,mark,k::log,cE⟩
   |false=>K ⟨h',next,mark,log,cE⟩
  |none=>False
theorem dB {st:St} {k:Nat} {o:bo} {K:St->Prop} (h:hY st k o K):K (st.put k o):=by
 obtain⟨heap,next,mark,log,cE⟩:=st
 unfold hY at h
 simp only[] at h
 split at h
 ·rename_i h' he
  have:=E3 he
  subst this
  split at h
  ·rename_i hb
   have:St.put ⟨heap,next,mark,log,cE⟩ k o=⟨iS heap k o,next,mark,k::log,cE⟩:=by
    show St.mk _ _ _ (@Bool.rec (fun _=>List Nat) _ _ (Nat.ble (Nat.succ k) mark)) _=_
    rw[hb]
   rw[this];exact h
  ·rename_i hb
   have:St.put ⟨heap,next,mark,log,cE⟩ k o=⟨iS heap k o,next,mark,log,cE⟩:=by
    show St.mk _ _ _ (@Bool.rec (fun _=>List Nat) _ _ (Nat.ble (Nat.succ k) mark)) _=_
    rw[hb]
   rw[this];exact h
 ·exact h.elim
noncomputable def jT (st:St) (o:bo) (K:Nat->St->Prop):Prop:=match st with
 |⟨heap,next,mark,log,cE⟩=>K next ⟨(next,o)::heap,next+1,mark,log,cE⟩
theorem fk {st:St} {o:bo} {K:Nat->St->Prop} (h:jT st o K):K st.next (st.fresh o):=by
 cases st;exact h
noncomputable def FF (st:St) (p:SVal) (v:List SVal) (K:St->Prop):Prop:=match p with
 | .ptr k off=>match st.look k with
  |some (.cells l)=>match kr l off v with
   |some r=>hY st k (.cells r) K
   |none=>False
  |_=>False
 | .fv k s i off=>match st.look k with
  |some (.row m rows s' false)=>yes (Nat.beq s' s) (WrR rows i off v fun rows'=>hY st k (.row m rows' s false) K)
  |_=>False
 |_=>False
theorem JF {st:St} {p:SVal} {v:List SVal} {K:St->Prop} (h:FF st p v K):∃st',P5 st p v st'/\K st':=by
 unfold FF at h
 split at h
 ·split at h
  ·rename_i h1
   split at h
   ·rename_i r h2
    obtain⟨h3,h4⟩:=o7 h2
    subst h4
    exact⟨_,.box h1 h3,dB h⟩
   ·exact h.elim
  ·exact h.elim
 ·split at h
  ·rename_i h1
   obtain⟨h2,⟨row,r,h3,h4,h5⟩⟩:=b8 h
   have:=WE h2
   subst this
   obtain⟨h6,h7⟩:=o7 h4
   subst h7
   exact⟨_,.row h1 h3 h6,dB h5⟩
  ·exact h.elim
 ·exact h.elim
noncomputable def fzB (l:List SVal):St->(List SVal->St->Prop)->Prop:=
 List.rec (motive:=fun _=>St->(List SVal->St->Prop)->Prop) (fun st K=>K [] st)
  (fun s _ ih st K=>match s with
   | .aD=>ih st fun r st'=>K (.aK false []::r) st'
   | .aK _ rows=>ih st fun r st'=>K (.aK false rows::r) st'
   | .own k s=>match st.look k with
    |some (.row m rows s' _)=>yes (Nat.beq s' s) (hY st k (.row m rows s true) fun st'=>ih st' fun r st''=>K (.aK false rows::r) st'')
    |_=>False
   |s=>ih st fun r st'=>K (s::r) st') l
theorem vR:∀{l:List SVal} {st:St} {K:List SVal->St->Prop},fzB l st K->∃l' st',iK st l l' st'/\K l' st'
 |[],st,K,h=>⟨_,_,.nil,h⟩
 |s::r,st,K,h=>by
  have h:match(generalizing:=false) s with
   | .aD=>fzB r st fun r st'=>K (.aK false []::r) st'
   | .aK _ rows=>fzB r st fun r st'=>K (.aK false rows::r) st'
   | .own k s=>match st.look k with
    |some (.row m rows s' _)=>yes (Nat.beq s' s) (hY st k (.row m rows s true) fun st'=>fzB r st' fun r st''=>K (.aK false rows::r) st'')
    |_=>False
   |s=>fzB r st fun r st'=>K (s::r) st':=h
  split at h
  ·obtain⟨l',st',h1,h3⟩:=vR h
   exact⟨_,_,.aD h1,h3⟩
  ·obtain⟨l',st',h1,h3⟩:=vR h
   exact⟨_,_,.aK h1,h3⟩
  ·split at h
   ·rename_i hk
    obtain⟨e,h4⟩:=b8 h
    cases WE e
    obtain⟨l',st',h1,h3⟩:=vR (dB h4)
    exact⟨_,_,.own hk h1,h3⟩
   ·exact h.elim
  ·obtain⟨l',st',h1,h3⟩:=vR h
   exact⟨_,_,.same h1,h3⟩
theorem iK.length {st st':St} {l l':List SVal} (h:iK st l l' st'):l'.length=l.length:=by
 induction h<;>simp_all
section
variable {P:Program} {E:Env} {o:Oper} {ev:jr} {st st':St}
theorem oW (hE:bz P E) {t elem:TypeId} {len size:Nat} {parts:Array (Nat×Operand)} {z:SVal} {ps:List (Nat×SVal)} {l l':List SVal} (ho:o.op= .buildSlice t len parts) (ht:dz E t=some elem) (hsz:cQ E elem=some size) (hz:iG E elem=some z) (hps:Ee ev parts.toList=some ps)
    (hn:Nat.ble (len*size) 1000000=true) (hzs:Nat.beq (bX z).length size=true) (hfl:sG (fun i=>some (i*size,size)) (oC (bX z) len) ps=some l) (ha:iK st l l' st') (hf:gi l'=true):bG P o ev st (.own st'.next 0) (st'.fresh (.row size (chunks size len l') 0 false)):=
  ⟨by simp[ho],ha.eX.1.trans (dE _ _),fun{c w} hr hwf hf' {e} he=>by
    have hk:c.ρ st'.next=none:=by rw[ha.eX.2];exact hf' _ (V2 _) (by show st.next<st'.next+1;rw[ha.eX.2];exact WW _)
    have hp:=vZ (e:=e) (c:=c) (fun p hp=>he p.2 (by rw[ho];simp only[Op.operands,WQ];exact⟨p,hp,rfl⟩)) hps
    have hu:=cu hE ht
    obtain⟨ie,hie,rfl,hsr⟩:=bZ hE hsz
    obtain⟨ie',zv,hie',hzv,hdz,hzr⟩:=eH hE hz
    rw[hie] at hie'
    cases hie'
    have hs:=dX (hdz c)
    have hl:=hs.length
    have hzs:(bX z).length=ie.size:=Xy hzs
    have hl:zv.cells.size=ie.size:=by simpa[hzs] using hl
    obtain⟨rs,h3,h4⟩:=tN _ hfl hp (qU hs len)
    have hlen:∀{ps:List (Nat×SVal)} {cells r:List SVal},sG (fun i=>some (i*ie.size,ie.size)) cells ps=some r->r.length=cells.length:=by
      intro ps
      induction ps with
      |nil=>intro cells r h;cases h;rfl
      |cons p ps ih=>
        intro cells r h
        have h:eR (some (p.1*ie.size,ie.size)) (fun q=>Af (Nat.beq (bX p.2).length q.2) (Af (Nat.ble (q.1+(bX p.2).length) cells.length) (sG (fun i=>some (i*ie.size,ie.size)) (over cells q.1 (bX p.2)) ps)))=some r:=h
        rw[bm] at h
        obtain⟨q,_,h⟩:=h
        rw[eV,eV] at h
        rw[ih h.2.2,sr _ _ _ (cU h.2.1)]
    have hll:l.length=len*ie.size:=by rw[hlen hfl,iL,hzs]
    have hll':l'.length=len*ie.size:=ha.length.trans hll
    obtain⟨c1,c2,c3⟩:=sL ie.size len l' hll'
    obtain⟨d,e1,r1,s1,d1⟩:=ha.ok hr h4
    have hrl:=d1.length
    have hel:ez d (chunks ie.size len l') ie.size rs.toArray:=oM c2 (by rw[c3];exact d1) (by rw[c3];exact ig hf)
    obtain⟨g1,g2⟩:=newRow (cap:=len) (b:=w.heap.size) r1 (by rw[e1];exact hk) (hwf.eX ha.eX.1) (dj.alloc w (.cells rs.toArray elem)) (fS w _) (V2 _) (by simp;omega) ii hel
    refine dQ.val (S:=Instr.buildSlice t len (parts.map fun p=>(p.1,e p.2))) (by simp only[execOp,ho]) ⟨_,.slice (some ⟨w.heap.size,0,none⟩) len len,_,?_,gY (by rw[cI,c1]) ⟨_,_,_,rfl⟩,g1,s1.trans g2 ha.eX.1.next (XI _)⟩
    rw[<-nL]
    have hn:len*ie.size<=1000000:=cU hn
    have hsmall : ¬ len * ie.size > 2 ^ 24 := by have : (2 : Nat) ^ 24 = 16777216 := by decide
                                                 omega
    have h3':Instr.fill (fun i=>some (i*ie.size,ie.size)) (madeCells zv.cells (len*ie.size)) (parts.toList.map fun p=>(p.1,e p.2))=some rs.toArray:=by
      simpa[hl] using h3
    by_cases hpos:len*ie.size=0
    · have e0:madeCells zv.cells (len*ie.size)= #[]:=by simp[madeCells,hpos]
      rw[e0] at h3'
      have e1:Array.map (fun _=>(default:Value)) (Array.range 0)= #[]:=by simp
      simp[Instr.buildSlice,run_underlying hu,hsr,hpos,Go.newRow,e1,h3']
    · exact run_buildSlice w t elem len _ rs.toArray ie zv hu hie hzv hsmall hpos (by simpa[madeCells] using h3')⟩
end
def Ff (P:Program) (op:Op) (ev:jr) (st:St) (K:SVal->St->Prop):Prop:=∃s st',(∀o:Oper,o.op=op->bG P o ev st s st')/\K s st'
def VR (P:Program) (f:FuncId) (args:List SVal) (st:St) (s:SVal) (st':St):Prop:=
 ∀(o:Oper) (d:Go.Call) (fop:Operand) (first cap ss:List SVal) (ev:jr),o.op= .call d->d.callee= .value fop->ev fop=some (.func (.func f) first cap)->lZ ev d.args.toList=some ss->first++(ss++cap)=args->bG P o ev st s st'
structure eU (P:Program) (f:FuncId) (args:List SVal) (st:St) (K:SVal->St->Prop):Prop where
 out:∃s st',VR P f args st s st'/\K s st'
def S6 (P:Program) (k:Nat) (args:List SVal) (st:St) (s:SVal) (st':St):Prop:=
 ∀(o:Oper) (d:Go.Call) (fop:Operand) (first cap:List SVal) (ev:jr),o.op= .call d->d.callee= .value fop->ev fop=some (.func (.yield k) first cap)->lZ ev d.args.toList=some args->bG P o ev st s st'
structure PH (P:Program) (k:Nat) (args:List SVal) (st:St) (K:SVal->St->Prop):Prop where
 out:∃s st',S6 P k args st s st'/\K s st'
structure AtR (rows:List (List SVal)) (n:Int) (sz:Nat) (K:List SVal->Prop):Prop where
 out:∃(j:Nat) (row:List SVal),n=(j:Int)/\rows[j]? =some row/\row.length=sz/\K row
structure PR (n:Int) (m:Nat) (K:Nat->Prop):Prop where
 out:∃j:Nat,n=(j:Int)/\j<m/\K j
noncomputable def Na (E:Env) (t:TypeId) (l:List SVal) (off:Nat):Option SVal:=vw E t (l.drop off)
theorem C7 {E:Env} {t:TypeId} {l:List SVal} {off:Nat} {s:SVal} (h:Na E t l off=some s):vd E t l off=some s:=vv h
noncomputable def zj (place:Nat->Option (Nat×Nat)):List (Nat×SVal)->List SVal->Option (List SVal)
 |[],cells=>some cells
 |p::ps,cells=>match place p.1 with
  |some q=>match Nat.beq (bX p.2).length q.2 with
   |true=>match kr cells q.1 (bX p.2) with
    |some c=>zj place ps c
    |none=>none
   |false=>none
  |none=>none
theorem qA {place:Nat->Option (Nat×Nat)}:∀{ps:List (Nat×SVal)} {cells r:List SVal},zj place ps cells=some r->sG place cells ps=some r
 |[],cells,r,h=>h
 |p::ps,cells,r,h=>by
  unfold zj at h
  split at h
  ·rename_i q hq
   split at h
   ·rename_i hb
    split at h
    ·rename_i c hc
     obtain⟨h1,h2⟩:=o7 hc
     subst h2
     show eR (place p.1) _=_
     rw[hq]
     show Af _ (Af _ _)=_
     rw[hb,XD h1]
     exact qA h
    ·cases h
   ·cases h
  ·cases h
noncomputable def BC (sz:Nat):Nat->List SVal->Option (List (List SVal))
 |0,_=>some []
 |n+1,l=>match Cr sz l with
  |some r=>match BC sz n (l.drop sz) with
   |some rs=>some (r::rs)
   |none=>none
  |none=>none
theorem zK {sz:Nat}:∀{n:Nat} {l:List SVal} {r:List (List SVal)},BC sz n l=some r->r=chunks sz n l
 |0,l,r,h=>by cases h;rfl
 |n+1,l,r,h=>by
  unfold BC at h
  split at h
  ·rename_i a h1
   split at h
   ·rename_i b h2
    cases h
    rw[zK h2,(ur h1).1]
    rfl
   ·cases h
  ·cases h
def Mv (st:St) (x:SVal) (K:List (List SVal)->Prop):Prop:=match x with
 | .aD=>K []
 | .aK _ rows=>K rows
 | .own k s=>match st.look k with
  |some (.row _ rows s' _)=>yes (Nat.beq s' s) (K rows)
  |_=>False
 |_=>False
theorem At {st:St} {x:SVal} {K:List (List SVal)->Prop} (h:Mv st x K):∃rows,dr st x rows/\K rows:=by
 unfold Mv at h
 split at h
 ·exact⟨_,.nil,h⟩
 ·exact⟨_,.aK,h⟩
 ·split at h
  ·rename_i h1
   obtain⟨h2,h3⟩:=b8 h
   have:=WE h2
   subst this
   exact⟨_,.own h1,h3⟩
  ·exact h.elim
 ·exact h.elim
section
variable (P:Program) (E:Env)
noncomputable def TO (op:BinOp) (t:TypeId) (a b:SVal) (K:SVal->Prop):Prop:=match a with
 | .int k n=>LY b fun k' m=>yes (decide (k'=k)) (match op with
  | .add=>ym k (n+m)/\K (.int k (n+m))
  | .sub=>ym k (n-m)/\K (.int k (n-m))
  | .mul=>ym k (n*m)/\K (.int k (n*m))
  | .quo=>m≠0/\ym k (n.tdiv m)/\K (.int k (n.tdiv m))
  | .rem=>m≠0/\K (.int k (n.tmod m))
  | .eql=>K (.bool (decide (n=m)))
  | .neq=>K (.bool (!decide (n=m)))
  | .lss=>K (.bool (decide (n<m)))
  | .leq=>K (.bool (decide (n<=m)))
  | .gtr=>K (.bool (decide (m<n)))
  | .geq=>K (.bool (decide (m<=n)))
  |_=>False)
 | .str l=>match b with
  | .str r=>match op with
   | .add=>l.length+r.length<=1000000/\K (.str (l++r))
   |op=>cF (wz op l r) fun c=>K (.bool c)
  |_=>False
 |a=>yes (vc a) (match op with
  | .eql=>cF (P1 E 100 t a b) fun c=>K (.bool c)
  | .neq=>cF (P1 E 100 t a b) fun c=>K (.bool (!c))
  |_=>False)
theorem P9 (hE:bz P E) {op:BinOp} {t ty:TypeId} {x y:Operand} {ev:jr} {st:St} {a b:SVal} {K:SVal->St->Prop} (hx:ev x=some a) (hy:ev y=some b) (h:TO E op t a b fun s=>K s st):Ff P (.binOp op t x y ty) ev st K:=by
 unfold TO at h
 split at h
 ·rename_i k n
  obtain⟨k',m,rfl,h⟩:=jo h
  obtain⟨hk,h⟩:=b8 h
  have:=Wp hk
  subst this
  split at h
  ·exact⟨_,_,fun o ho=>q7 ho hx hy rfl h.1,h.2⟩
  ·exact⟨_,_,fun o ho=>q7 ho hx hy rfl h.1,h.2⟩
  ·exact⟨_,_,fun o ho=>q7 ho hx hy rfl h.1,h.2⟩
  ·exact⟨_,_,fun o ho=>QN ho hx hy h.1 h.2.1,h.2.2⟩
  ·exact⟨_,_,fun o ho=>QM ho hx hy h.1,h.2⟩
  ·exact⟨_,_,fun o ho=>np ho hx hy rfl,h⟩
  ·exact⟨_,_,fun o ho=>np ho hx hy rfl,h⟩
  ·exact⟨_,_,fun o ho=>np ho hx hy rfl,h⟩
  ·exact⟨_,_,fun o ho=>np ho hx hy rfl,h⟩
  ·exact⟨_,_,fun o ho=>np ho hx hy rfl,h⟩
  ·exact⟨_,_,fun o ho=>np ho hx hy rfl,h⟩
  ·exact h.elim
 ·split at h
  ·split at h
   ·exact⟨_,_,fun o ho=>MG ho hx hy h.1,h.2⟩
   ·obtain⟨c,h1,h2⟩:=aH h
    exact⟨_,_,fun o ho=>MF ho hx hy h1,h2⟩
  ·exact h.elim
 ·obtain⟨hp,h⟩:=b8 h
  split at h
  ·obtain⟨c,h1,h2⟩:=aH h
   exact⟨_,_,fun o ho=>T5 hE ho hx hy hp h1,h2⟩
  ·obtain⟨c,h1,h2⟩:=aH h
   exact⟨_,_,fun o ho=>T4 hE ho hx hy hp h1,h2⟩
  ·exact h.elim
noncomputable def oU (t:TypeId) (a i:SVal) (st:St) (K:SVal->St->Prop):Prop:=LY i fun _ n=>match a with
 | .aK _ rows=>cF (dz E t) fun el=>cF (cQ E el) fun sz=>AtR rows n sz fun row=>K (.bR row 0) st
 | .own r s=>match st.look r with
  |some (.row m rows s' _)=>cF (dz E t) fun el=>cF (cQ E el) fun sz=>yes (Nat.beq m sz) (yes (Nat.beq s' s) (PR n rows.length fun j=>K (.fv r s j 0) st))
  |_=>False
 |p=>cF (under E t) fun d=>match d with
  | .array m el=>cF (cQ E el) fun sz=>PR n m fun j=>cF (Km p (j*sz)) fun q=>K q st
  |_=>False
theorem xo (hE:bz P E) {t:TypeId} {x ix:Operand} {ev:jr} {st:St} {a i:SVal} {K:SVal->St->Prop} (hx:ev x=some a) (hy:ev ix=some i) (h:oU E t a i st K):Ff P (.indexAddr t x ix) ev st K:=by
 unfold oU at h
 obtain⟨k,n,rfl,h⟩:=jo h
 split at h
 ·obtain⟨el,h1,h⟩:=aH h
  obtain⟨sz,h2,⟨j,row,h3,h4,h5,h⟩⟩:=aH h
  exact⟨_,_,fun o ho=>xH hE ho hy hx h1 h2 h3 h4 h5,h⟩
 ·split at h
  ·rename_i hk
   obtain⟨el,h1,h⟩:=aH h
   obtain⟨sz,h2,h⟩:=aH h
   obtain⟨h3,g1⟩:=b8 h
   obtain⟨h4,⟨j,h5,h6,g2⟩⟩:=b8 g1
   cases WE h3
   cases WE h4
   exact⟨_,_,fun o ho=>xG hE ho hy hx hk h1 h2 h5 h6,g2⟩
  ·exact h.elim
 ·obtain⟨d,h1,h⟩:=aH h
  split at h
  ·obtain⟨sz,h2,⟨j,h3,h4,h⟩⟩:=aH h
   obtain⟨q,h5,h⟩:=aH h
   exact⟨_,_,fun o ho=>uH hE ho hy hx h1 h2 h3 h4 h5,h⟩
  ·exact h.elim
noncomputable def FC (t:TypeId) (a i:SVal) (st:St) (K:SVal->St->Prop):Prop:=LY i fun _ n=>cF (under E t) fun d=>match d with
 | .string=>match a with
  | .str l=>∃(j:Nat) (b:UInt8),n=(j:Int)/\l[j]? =some b/\K (.int .u8 b.toNat) st
  |_=>False
 | .array m el=>match a with
  | .agg l=>cF (cQ E el) fun sz=>PR n m fun j=>cF (Na E el l (j*sz)) fun q=>K q st
  |_=>False
 |_=>False
theorem JD (hE:bz P E) {t:TypeId} {x ix:Operand} {ev:jr} {st:St} {a i:SVal} {K:SVal->St->Prop} (hx:ev x=some a) (hy:ev ix=some i) (h:FC E t a i st K):Ff P (.index t x ix) ev st K:=by
 unfold FC at h
 obtain⟨k,n,rfl,h⟩:=jo h
 obtain⟨d,h1,h⟩:=aH h
 split at h
 ·split at h
  ·obtain⟨j,b,h2,h3,h⟩:=h
   exact⟨_,_,fun o ho=>xE hE ho hy hx h1 h2 h3,h⟩
  ·exact h.elim
 ·split at h
  ·obtain⟨sz,h2,⟨j,h3,h4,h⟩⟩:=aH h
   obtain⟨q,h5,h⟩:=aH h
   exact⟨_,_,fun o ho=>xJ hE ho hy hx h1 h2 h3 h4 (C7 h5),h⟩
  ·exact h.elim
 ·exact h.elim
end
section
variable (P:Program) (E:Env)
noncomputable def U3 (ev:jr) (k s:Nat) (rows:List (List SVal)) (x:Operand):Option SVal:=match ev x with
 |some (.own k' s')=>if k'=k/\s'=s then some (.aK false rows) else none
 |v=>v
theorem Bi {ev:jr} {k s:Nat} {rows:List (List SVal)} {x:Operand} {kk:IntKind} {n:Int} (h:ev x=some (.int kk n)):U3 ev k s rows x=some (.int kk n):=by unfold U3;rw[h]
theorem R5 {ev:jr} {k s:Nat} {rows:List (List SVal)} {lo:Option Operand} {bl:Option Int} (h:zk ev lo=some bl):zk (U3 ev k s rows) lo=some bl:=by
 cases lo with
 |none=>exact h
 |some x=>
  have h:eR (ev x) (fun v=>match v with| .int _ n=>some (some n)|_=>none)=some bl:=h
  rw[bm] at h
  obtain⟨v,h1,h2⟩:=h
  show eR (U3 ev k s rows x) _=_
  split at h2
  ·rw[Bi h1];exact h2
  ·cases h2
theorem uE {P:Program} {E:Env} {o:Oper} {ev:jr} {st:St} (hE:bz P E) {t el sz m:Nat} {x hi mx:Operand} {lo:Option Operand} {k s:Nat} {rows:List (List SVal)} {z:Bool} {bl:Option Int} {k1 k2:IntKind} {nh nm:Int} {l h:Nat} (ho:o.op= .slice t x lo (some hi) (some mx)) (hx:ev x=some (.own k s)) (ht:dz E t=some el) (hsz:cQ E el=some sz)
  (hk:st.look k=some (.row m rows s z)) (hlr:∀r∈rows,r.length=sz) (hl:zk ev lo=some bl) (hh:ev hi=some (.int k1 nh)) (hm:ev mx=some (.int k2 nm)) (hbl:iy bl 0 l) (hnh:nh=(h:Int)) (hnm:nm=(h:Int)) (h1:l<=h) (h2:h<=rows.length):
  bG P o ev st (.aK true ((rows.take h).drop l)) (st.put k (.row m rows s true)) where
 nd:=by simp[ho]
 eX:=dA _ hk
 ok:=fun{c w} hr hwf hfr {e} he a next Q hn=>by
  obtain⟨c1,e1,r1,s1,d1⟩:=pj hk hr
  have g:=mg (P:=P) (st:=st.put k (.row m rows s true)) hE (ev:=U3 ev k s rows) ho (by unfold U3;rw[hx];exact HP ⟨rfl,rfl⟩) ht hsz hlr (R5 hl) (Bi hh) (Bi hm) hbl hnh hnm h1 h2
  refine g.ok r1 (hwf.eX (dA _ hk)) (fun j g1 g2=>by omega) (fun y hy v hv=> ?_) a next Q fun c' v w' gd=>hn c' v w' ⟨gd.val,gd.rep,s1.trans gd.step (V2 _) (V2 _)⟩
  unfold U3 at hv
  split at hv
  ·rename_i k' s' hy'
   split at hv
   ·rename_i hks
    obtain⟨rfl,rfl⟩:=hks
    cases hv
    exact d1 _ (he y hy _ hy')
   ·cases hv
  ·exact Den.le s1.le _ _ (he y hy v hv)
noncomputable def FA (ev:jr) (t:TypeId) (a:SVal) (lo hi mx:Option Operand) (st:St) (K:SVal->St->Prop):Prop:=match a with
 | .str s=>match mx with
  |none=>cF (under E t) fun d=>match d with
   | .string=>cF (zk ev lo) fun bl=>cF (zk ev hi) fun bh=>∃l h:Nat,iy bl 0 l/\iy bh s.length h/\l<=h/\h<=s.length/\K (.str ((s.take h).drop l)) st
   |_=>False
  |some _=>False
 | .aK _ rows=>cF (dz E t) fun el=>cF (cQ E el) fun sz=>match mx with
  |none=>cF (zk ev lo) fun bl=>cF (zk ev hi) fun bh=>(∀r∈rows,r.length=sz)/\∃l h:Nat,iy bl 0 l/\iy bh rows.length h/\l<=h/\h<=rows.length/\xm ((rows.take h).drop l) fun r=>K (.aK false r) st
  |some mx=>match hi with
   |some hi=>cF (zk ev lo) fun bl=>cF (ev hi) fun vh=>cF (ev mx) fun vm=>LY vh fun _ nh=>LY vm fun _ nm=>(∀r∈rows,r.length=sz)/\∃l h:Nat,iy bl 0 l/\nh=(h:Int)/\nm=(h:Int)/\l<=h/\h<=rows.length/\xm ((rows.take h).drop l) fun r=>K (.aK true r) st
   |none=>False
 | .own k s=>match st.look k with
  |some (.row m rows s' z)=>cF (dz E t) fun el=>cF (cQ E el) fun sz=>yes (Nat.beq m sz) (yes (Nat.beq s' s) (match lo,hi,mx,z with
   |none,some hi,none,false=>cF (ev hi) fun vh=>LY vh fun _ n=>∃h:Nat,n=(h:Int)/\h<=rows.length/\xm (rows.take h) fun r=>hY st k (.row m r (s+1) false) fun st'=>K (.own k (s+1)) st'
   |lo,some hi,some mx,z=>cF (zk ev lo) fun bl=>cF (ev hi) fun vh=>cF (ev mx) fun vm=>LY vh fun _ nh=>LY vm fun _ nm=>(∀r∈rows,r.length=sz)/\∃l h:Nat,iy bl 0 l/\nh=(h:Int)/\nm=(h:Int)/\l<=h/\h<=rows.length/\xm ((rows.take h).drop l) fun r=>hY st k (.row m rows s true) fun st'=>K (.aK true r) st'
   |_,_,_,_=>False))
  |_=>False
 | .aD=>match mx with
  |none=>cF (dz E t) fun el=>cF (cQ E el) fun _=>cF (zk ev lo) fun bl=>cF (zk ev hi) fun bh=>iy bl 0 0/\iy bh 0 0/\K .aD st
  |some _=>False
 |_=>False
theorem JC (hE:bz P E) {t:TypeId} {x:Operand} {lo hi mx:Option Operand} {ev:jr} {st:St} {a:SVal} {K:SVal->St->Prop} (hx:ev x=some a) (h:FA E ev t a lo hi mx st K):Ff P (.slice t x lo hi mx) ev st K:=by
 unfold FA at h
 split at h
 ·split at h
  ·obtain⟨d,h1,h⟩:=aH h
   split at h
   ·obtain⟨bl,h2,g⟩:=aH h
    obtain⟨bh,h3,l,h',h4,h5,h6,h7,g⟩:=aH g
    exact⟨_,_,fun o ho=>xv hE ho hx h1 h2 h3 h4 h5 h6 h7,g⟩
   ·exact h.elim
  ·exact h.elim
 ·obtain⟨el,h1,g⟩:=aH h
  obtain⟨sz,h2,g⟩:=aH g
  split at g
  ·obtain⟨bl,h3,g⟩:=aH g
   obtain⟨bh,h4,h5,l,h',h6,h7,h8,h9,⟨g⟩⟩:=aH g
   exact⟨_,_,fun o ho=>xx hE ho hx h1 h2 h5 h3 h4 h6 h7 h8 h9,g⟩
  ·split at g
   ·obtain⟨bl,h3,g⟩:=aH g
    obtain⟨vh,h4,g⟩:=aH g
    obtain⟨vm,h5,g⟩:=aH g
    obtain⟨k1,nh,e1,g1⟩:=jo g
    obtain⟨k2,nm,e2,h6,l,h',h7,h8,h9,h10,h11,⟨g2⟩⟩:=jo g1
    subst e1
    subst e2
    exact⟨_,_,fun o ho=>mg hE ho hx h1 h2 h6 h3 h4 h5 h7 h8 h9 h10 h11,g2⟩
   ·exact g.elim
 ·split at h
  ·rename_i hk
   obtain⟨el,h1,g1⟩:=aH h
   obtain⟨sz,h2,g2⟩:=aH g1
   obtain⟨h3,g3⟩:=b8 g2
   obtain⟨h4,g4⟩:=b8 g3
   cases WE h3
   cases WE h4
   clear h g1 g2 g3
   split at g4
   ·obtain⟨vh,h5,g5⟩:=aH g4
    obtain⟨k1,n,e1,h',h6,h7,⟨g6⟩⟩:=jo g5
    subst e1
    exact⟨_,_,fun o ho=>xy hE ho hx h1 h2 hk h5 h6 h7,dB g6⟩
   ·obtain⟨bl,h3,g⟩:=aH g4
    obtain⟨vh,h4,g⟩:=aH g
    obtain⟨vm,h5,g⟩:=aH g
    obtain⟨k1,nh,e1,g1⟩:=jo g
    obtain⟨k2,nm,e2,h6,l,h',h7,h8,h9,h10,h11,⟨g2⟩⟩:=jo g1
    subst e1
    subst e2
    exact⟨_,_,fun o ho=>uE hE ho hx h1 h2 hk h6 h3 h4 h5 h7 h8 h9 h10 h11,dB g2⟩
   ·exact g4.elim
  ·exact h.elim
 ·split at h
  ·obtain⟨el,h1,g⟩:=aH h
   obtain⟨sz,h2,g⟩:=aH g
   obtain⟨bl,h3,g⟩:=aH g
   obtain⟨bh,h4,h5,h6,g⟩:=aH g
   exact⟨_,_,fun o ho=>xw hE ho hx h1 h2 h3 h4 h5 h6,g⟩
  ·exact h.elim
 ·exact h.elim
noncomputable def TM (t:TypeId) (a:SVal) (st:St) (K:SVal->Prop):Prop:=match a with
 | .str l=>cF (under E t) fun d=>match d with
  | .string=>K (.int .i64 l.length)
  |_=>False
 | .map k=>match st.look k with
  |some (.map es)=>cF (under E t) fun d=>match d with
   | .map _ _=>LK es fun n=>K (.int .i64 n)
   |_=>False
  |_=>False
 |a=>cF (under E t) fun d=>match d with
  | .slice _=>Mv st a fun rows=>LK rows fun n=>K (.int .i64 n)
  | .array n _=>K (.int .i64 n)
  |_=>False
theorem Oz {t e:TypeId} (h:under E t=some (.slice e)):dz E t=some e:=by
 unfold dz
 rw[h]
 rfl
theorem P7 (hE:bz P E) {d:Go.Call} {ev:jr} {st:St} {t:TypeId} {a:SVal} {K:SVal->St->Prop} (hb:d.callee= .builtin .len) (hev:lZ ev d.args.toList=some [a]) (ht:d.argTypes[0]? =some t) (h:TM E t a st fun s=>K s st):Ff P (.call d) ev st K:=by
 unfold TM at h
 split at h
 ·obtain⟨u,h1,g⟩:=aH h
  split at g
  ·exact⟨_,_,fun o ho=>CF hE ho hb hev ht h1,g⟩
  ·exact g.elim
 ·split at h
  ·rename_i hk
   obtain⟨u,h1,g⟩:=aH h
   split at g
   ·exact⟨_,_,fun o ho=>CG hE ho hb hev ht h1 hk,g.out⟩
   ·exact g.elim
  ·exact h.elim
 ·obtain⟨u,h1,g⟩:=aH h
  split at g
  ·obtain⟨rows,h2,g⟩:=At g
   exact⟨_,_,fun o ho=>Ax hE ho hb hev ht (Oz E h1) h2,g.out⟩
  ·exact⟨_,_,fun o ho=>CH hE ho hb hev ht h1,g⟩
  ·exact g.elim
noncomputable def Ad (t tx:TypeId) (a x:SVal) (st:St) (K:SVal->St->Prop):Prop:=
 cF (dz E t) fun e=>cF (dz E tx) fun _=>cF (cQ E e) fun size=>cF (mT E e) fun b=>yes (Nat.ble b 4096)<|cF (iG E e) fun z=>yes (Nat.beq (bX z).length size)<|Mv st x fun new=>
  (∀r∈new,r.length=size)/\match a with
   | .aD=>new.length<=1000000000/\xm new fun r=>jT st (.row size r 0 false) fun n st'=>K (.own n 0) st'
   | .aK true []=>new.length<=1000000000/\xm new fun r=>jT st (.row size r 0 false) fun n st'=>K (.own n 0) st'
   | .aK true rows=>(∀r∈rows,r.length=size)/\1<=new.length/\rows.length+new.length<=1000000000/\xm (rows++new) fun r=>jT st (.row size r 0 false) fun n st'=>K (.own n 0) st'
   | .own k s=>match st.look k with
    |some (.row m rows s' z)=>yes (Nat.beq m size) (yes (Nat.beq s' s) (rows.length+new.length<=1000000000/\xm (rows++new) fun r=>hY st k (.row m r (s+1) z) fun st'=>K (.own k (s+1)) st'))
    |_=>False
   |_=>False
theorem FE (hE:bz P E) {d:Go.Call} {ev:jr} {st:St} {t tx:TypeId} {a x:SVal} {K:SVal->St->Prop} (hb:d.callee= .builtin .append) (hev:lZ ev d.args.toList=some [a,x]) (ht:d.argTypes= #[t,tx]) (h:Ad E t tx a x st K):Ff P (.call d) ev st K:=by
 unfold Ad at h
 obtain⟨e,h1,g⟩:=aH h
 obtain⟨e',h2,g⟩:=aH g
 obtain⟨size,h3,g⟩:=aH g
 obtain⟨b,h4,g⟩:=aH g
 obtain⟨h5,g⟩:=b8 g
 obtain⟨z,h6,g⟩:=aH g
 obtain⟨h7,g⟩:=b8 g
 obtain⟨new,h8,h9,g⟩:=At g
 have hT:Tg P E d t tx e size:=⟨ht,h1,⟨_,h2⟩,h3,⟨b,h4,h5⟩,⟨z,h6,h7⟩⟩
 split at g
 ·exact⟨_,_,fun o ho=>mh hE ho hb hev hT (.inl rfl) h8 h9 g.1,fk g.2.out⟩
 ·exact⟨_,_,fun o ho=>mh hE ho hb hev hT (.inr rfl) h8 h9 g.1,fk g.2.out⟩
 ·exact⟨_,_,fun o ho=>s7 hE ho hb hev hT h8 h9 g.1 g.2.1 g.2.2.1,fk g.2.2.2.out⟩
 ·split at g
  ·rename_i hk
   obtain⟨e1,g1⟩:=b8 g
   obtain⟨e2,g2⟩:=b8 g1
   cases WE e1
   cases WE e2
   exact⟨_,_,fun o ho=>uJ hE ho hb hev hT hk h8 h9 g2.1,dB g2.2.out⟩
  ·exact g.elim
 ·exact g.elim
noncomputable def L6 (t tx:TypeId) (a x:SVal) (st:St) (K:SVal->St->Prop):Prop:=match a with
 | .own k s=>match st.look k with
  |some (.row m rows s' false)=>cF (dz E t) fun e=>cF (dz E tx) fun _=>cF (cQ E e) fun size=>yes (Nat.beq m size)<|yes (Nat.beq s' s)<|Mv st x fun new=>
    (∀r∈new,r.length=size)/\new.length=rows.length/\xm new fun r=>hY st k (.row m r s false) fun st'=>K (.int .i64 rows.length) st'
  |_=>False
 |_=>False
theorem L5 (hE:bz P E) {d:Go.Call} {ev:jr} {st:St} {t tx:TypeId} {a x:SVal} {K:SVal->St->Prop} (hb:d.callee= .builtin .copy) (hev:lZ ev d.args.toList=some [a,x]) (ht:d.argTypes= #[t,tx]) (h:L6 E t tx a x st K):Ff P (.call d) ev st K:=by
 unfold L6 at h
 split at h
 ·split at h
  ·rename_i hk
   obtain⟨e,h1,g⟩:=aH h
   obtain⟨e',h2,g⟩:=aH g
   obtain⟨size,h3,g⟩:=aH g
   obtain⟨e1,g1⟩:=b8 g
   obtain⟨e2,g2⟩:=b8 g1
   obtain⟨new,h4,h5,h6,⟨g3⟩⟩:=At g2
   cases WE e1
   cases WE e2
   exact⟨_,_,fun o ho=>ME hE ho hb hev ht h1 h2 h3 hk h4 h5 h6,dB g3⟩
  ·exact h.elim
 ·exact h.elim
noncomputable def Fz (t tn:TypeId) (a:SVal) (n:Int) (st:St) (K:SVal->St->Prop):Prop:=match a with
 | .aD=>cF (dz E t) fun e=>cF (under E tn) fun dn=>match dn with
  | .int _=>cF (cQ E e) fun size=>cF (mT E e) fun b=>yes (Nat.ble b 4096)<|cF (iG E e) fun z=>lC z fun cs=>yes (Nat.beq cs.length size)<|yes (Nat.ble 1 size)<|yes (gi cs)<|
    ∃k:Nat,n=(k:Int)/\0<k/\k<=1000000000/\xm (List.replicate k cs) fun r=>jT st (.row size r 0 false) fun n st'=>K (.own n 0) st'
  |_=>False
 |_=>False
theorem JB (hE:bz P E) {d:Go.Call} {ev:jr} {st:St} {t tn:TypeId} {a:SVal} {kq:IntKind} {n:Int} {K:SVal->St->Prop} (hb:d.callee= .builtin .append) (hev:lZ ev d.args.toList=some [a,.int kq n]) (ht:d.argTypes= #[t,tn]) (h:Fz E t tn a n st K):Ff P (.call d) ev st K:=by
 unfold Fz at h
 split at h
 ·obtain⟨e,h1,g⟩:=aH h
  obtain⟨dn,h2,g⟩:=aH g
  split at g
  ·obtain⟨size,h3,g⟩:=aH g
   obtain⟨b,h4,g⟩:=aH g
   obtain⟨h5,g⟩:=b8 g
   obtain⟨z,h6,g⟩:=aH g
   have g:=fP g
   obtain⟨h7,g⟩:=b8 g
   obtain⟨h8,g⟩:=b8 g
   obtain⟨h9,k,h10,h11,h12,⟨g⟩⟩:=b8 g
   exact⟨_,_,fun o ho=>q8 hE ho hb hev ht h1 h2 h3 h4 h5 h6 h7 h8 h9 h10 h11 h12,fk g⟩
  ·exact g.elim
 ·exact h.elim
noncomputable def TN (t:TypeId) (a:SVal) (K:SVal->Prop):Prop:=cF (dz E t) fun _=>match a with
 | .aD=>K (.int .i64 (0:Nat))
 | .aK true rows=>K (.int .i64 rows.length)
 |_=>False
theorem P8 (hE:bz P E) {d:Go.Call} {ev:jr} {st:St} {t:TypeId} {a:SVal} {K:SVal->St->Prop} (hb:d.callee= .builtin .cap) (hev:lZ ev d.args.toList=some [a]) (ht:d.argTypes[0]? =some t) (h:TN E t a fun s=>K s st):Ff P (.call d) ev st K:=by
 unfold TN at h
 obtain⟨e,h1,g⟩:=aH h
 split at g
 ·exact⟨_,_,fun o ho=>HX hE ho hb hev ht h1 (.inl ⟨rfl,rfl⟩),g⟩
 ·exact⟨_,_,fun o ho=>HX hE ho hb hev ht h1 (.inr ⟨_,rfl,rfl⟩),g⟩
 ·exact g.elim
noncomputable def L8 (d:Go.Call) (ev:jr) (st:St) (K:SVal->St->Prop):Prop:=match d with
 |⟨.value fop,args,_⟩=>cF (ev fop) fun f=>cF (lZ ev args.toList) fun ss=>match f with
  | .func (.func f) first cap=>cF (Pw ss cap) fun r=>cF (Pw first r) fun all=>eU P f all st K
  | .func (.yield k) _ _=>PH P k ss st K
  |_=>False
 |⟨.builtin b,args,⟨ts⟩⟩=>cF (lZ ev args.toList) fun ss=>match b with
  | .len=>match ts,ss with
   |t::_,[a]=>TM E t a st fun s=>K s st
   |_,_=>False
  | .append=>match ts,ss with
   |[t,tx],[a,.int _ n]=>Fz E t tx a n st K
   |[t,tx],[a,x]=>Ad E t tx a x st K
   |_,_=>False
  | .copy=>match ts,ss with
   |[t,tx],[a,x]=>L6 E t tx a x st K
   |_,_=>False
  | .cap=>match ts,ss with
   |t::_,[a]=>TN E t a fun s=>K s st
   |_,_=>False
  | .max=>match ss with
   |[.int k a,.int k' b]=>yes (decide (k'=k)) (K (.int k (if b>a then b else a)) st)
   |_=>False
  | .min=>match ss with
   |[.int k a,.int k' b]=>yes (decide (k'=k)) (K (.int k (if b<a then b else a)) st)
   |_=>False
  |_=>False
 |_=>False
theorem L7 (hE:bz P E) {d:Go.Call} {ev:jr} {st:St} {K:SVal->St->Prop} (h:L8 P E d ev st K):Ff P (.call d) ev st K:=by
 unfold L8 at h
 split at h
 ·obtain⟨f,h1,g⟩:=aH h
  obtain⟨ss,h2,g⟩:=aH g
  split at g
  ·obtain⟨r,h3,g⟩:=aH g
   obtain⟨all,h4,g⟩:=aH g
   obtain⟨s,st',h5,g⟩:=g.out
   exact⟨s,st',fun o ho=>h5 o _ _ _ _ _ ev ho rfl h1 h2 (by rw[BO h4,BO h3]),g⟩
  ·obtain⟨s,st',h5,g⟩:=g.out
   exact⟨s,st',fun o ho=>h5 o _ _ _ _ ev ho rfl h1 h2,g⟩
  ·exact g.elim
 ·obtain⟨ss,h2,g⟩:=aH h
  split at g
  ·split at g
   ·exact P7 P E hE (d:=⟨.builtin .len,_,_⟩) rfl h2 rfl g
   ·exact g.elim
  ·split at g
   ·exact JB P E hE (d:=⟨.builtin .append,_,_⟩) rfl h2 rfl g
   ·exact FE P E hE (d:=⟨.builtin .append,_,_⟩) rfl h2 rfl g
   ·exact g.elim
  ·split at g
   ·exact L5 P E hE (d:=⟨.builtin .copy,_,_⟩) rfl h2 rfl g
   ·exact g.elim
  ·split at g
   ·exact P8 P E hE (d:=⟨.builtin .cap,_,_⟩) rfl h2 rfl g
   ·exact g.elim
  ·split at g
   ·obtain⟨hk,g1⟩:=b8 g
    cases Wp hk
    exact⟨_,_,fun o ho=>MC ho rfl h2,g1⟩
   ·exact g.elim
  ·split at g
   ·obtain⟨hk,g1⟩:=b8 g
    cases Wp hk
    exact⟨_,_,fun o ho=>MB ho rfl h2,g1⟩
   ·exact g.elim
  ·exact g.elim
 ·exact h.elim
end
section
variable (P:Program) (E:Env)
noncomputable def FD (t:TypeId) (ps:List (Nat×SVal)) (K:SVal->Prop):Prop:=cF (iG E t) fun z=>cF (under E t) fun d=>match d with
 | .struct fs=>cF (places E fs.toList) fun pl=>lC z fun cs=>cF (zj (fun i=>pl[i]?) ps cs) fun l=>K (.agg l)
 | .array _ el=>cF (cQ E el) fun size=>lC z fun cs=>cF (zj (fun i=>some (i*size,size)) ps cs) fun l=>K (.agg l)
 |_=>False
theorem JE (hE:bz P E) {t:TypeId} {parts:Array (Nat×Operand)} {ev:jr} {st:St} {ps:List (Nat×SVal)} {K:SVal->St->Prop} (hps:Ee ev parts.toList=some ps) (h:FD E t ps fun s=>K s st):Ff P (.build t parts) ev st K:=by
 unfold FD at h
 obtain⟨z,h1,g⟩:=aH h
 obtain⟨d,h2,g⟩:=aH g
 split at g
 ·obtain⟨pl,h3,g⟩:=aH g
  have g:=fP g
  obtain⟨l,h4,g⟩:=aH g
  refine⟨_,_,fun o ho=>yE hE ho h1 h2 hps ?_,g⟩
  have h5:=qA h4
  unfold tT
  simp only[h3,eR,h5]
 ·obtain⟨size,h3,g⟩:=aH g
  have g:=fP g
  obtain⟨l,h4,g⟩:=aH g
  refine⟨_,_,fun o ho=>yE hE ho h1 h2 hps ?_,g⟩
  have h5:=qA h4
  unfold tT
  simp only[h3,eR,h5]
 ·exact g.elim
noncomputable def l5 (t:TypeId) (len:Nat) (ps:List (Nat×SVal)) (st:St) (K:SVal->St->Prop):Prop:=
 cF (dz E t) fun el=>cF (cQ E el) fun size=>cF (iG E el) fun z=>yes (Nat.ble (len*size) 1000000)<|lC z fun cs=>yes (Nat.beq cs.length size)<|
  cF (zj (fun i=>some (i*size,size)) ps (oC cs len)) fun l=>fzB l st fun l st=>yes (gi l)<|cF (BC size len l) fun rows=>jT st (.row size rows 0 false) fun n st'=>K (.own n 0) st'
theorem uf (hE:bz P E) {t:TypeId} {len:Nat} {parts:Array (Nat×Operand)} {ev:jr} {st:St} {ps:List (Nat×SVal)} {K:SVal->St->Prop} (hps:Ee ev parts.toList=some ps) (h:l5 E t len ps st K):Ff P (.buildSlice t len parts) ev st K:=by
 unfold l5 at h
 obtain⟨el,h1,g⟩:=aH h
 obtain⟨size,h2,g⟩:=aH g
 obtain⟨z,h3,g⟩:=aH g
 obtain⟨h4,g⟩:=b8 g
 have g:=fP g
 obtain⟨h5,g⟩:=b8 g
 obtain⟨l,h6,g⟩:=aH g
 obtain⟨l',st',ha,g⟩:=vR g
 obtain⟨h7,g⟩:=b8 g
 obtain⟨rows,h8,g⟩:=aH g
 cases zK h8
 exact⟨_,_,fun o ho=>oW hE ho h1 h2 h3 hps h4 h5 (qA h6) ha h7,fk g⟩
noncomputable def ue (a b:TypeId) (v:SVal) (st:St) (K:SVal->Prop):Prop:=cF (under E a) fun da=>cF (under E b) fun db=>match v with
 | .int _ n=>match da,db with
  | .int _,.int k'=>ym k' n/\K (.int k' n)
  |_,_=>False
 | .str l=>match da,db with
  | .string,.string=>K (.str l)
  |_,_=>False
 |s=>match da,db with
  | .slice e8,.string=>cF (under E e8) fun d8=>match d8 with
   | .int .u8=>∃l,dr st s (iq l)/\K (.str l)
   |_=>False
  |_,_=>False
theorem BX (hE:bz P E) {a b:TypeId} {x:Operand} {ev:jr} {st:St} {v:SVal} {K:SVal->St->Prop} (hx:ev x=some v) (h:ue E a b v st fun s=>K s st):Ff P (.convert a b x) ev st K:=by
 unfold ue at h
 obtain⟨da,h1,g⟩:=aH h
 obtain⟨db,h2,g⟩:=aH g
 split at g
 ·split at g
  ·exact⟨_,_,fun o ho=>Az hE ho hx h1 h2 g.1,g.2⟩
  ·exact g.elim
 ·split at g
  ·exact⟨_,_,fun o ho=>Ay hE ho hx h1 h2,g⟩
  ·exact g.elim
 ·split at g
  ·obtain⟨d8,h3,g⟩:=aH g
   split at g
   ·obtain⟨l,h4,g⟩:=g
    exact⟨_,_,fun o ho=>uI hE ho hx h1 h2 h3 h4,g⟩
   ·exact g.elim
  ·exact g.elim
def Nz:SVal->Bool
 | .ptr _ _=>true
 | .fv _ _ _ _=>true
 | .bR _ _=>true
 | .func (.func _) _ _=>true
 |_=>false
theorem Ny {s:SVal} (h:Nz s=true):(∃k off,s= .ptr k off)\/(∃k t i off,s= .fv k t i off)\/(∃r off,s= .bR r off)\/(∃f a b,s= .func (.func f) a b):=by
 unfold Nz at h
 split at h
 ·exact .inl ⟨_,_,rfl⟩
 ·exact .inr (.inl ⟨_,_,_,_,rfl⟩)
 ·exact .inr (.inr (.inl ⟨_,_,rfl⟩))
 ·exact .inr (.inr (.inr ⟨_,_,_,rfl⟩))
 ·cases h
noncomputable def Ac (t:TypeId) (m key:SVal) (ok:Bool) (st:St) (K:SVal->Prop):Prop:=match m with
 | .map k=>match st.look k with
  |some (.map es)=>cF (eR (under E t) KH) fun ke=>cF (under E ke.1) fun d=>cF (iG E ke.2) fun z=>fT d key/\(∀p∈es,fT d p.1)/\∃r,iv es key r/\match r with
   |none=>K (Iz ok z false)
   |some p=>K (Iz ok p.2 true)
  |_=>False
 |_=>False
theorem FB (hE:bz P E) {t:TypeId} {x ix:Operand} {ok:Bool} {ev:jr} {st:St} {m key:SVal} {K:SVal->St->Prop} (hx:ev x=some m) (hy:ev ix=some key) (h:Ac E t m key ok st fun s=>K s st):Ff P (.lookup t x ix ok) ev st K:=by
 unfold Ac at h
 split at h
 ·split at h
  ·rename_i hk
   obtain⟨ke,h1,g⟩:=aH h
   obtain⟨d,h2,g⟩:=aH g
   obtain⟨z,h3,h4,h5,r,h6,g⟩:=aH g
   split at g
   ·exact⟨_,_,fun o ho=>uG hE ho h1 h2 hx hy hk h4 h5 h6 (.inl ⟨rfl,z,h3,rfl⟩),g⟩
   ·exact⟨_,_,fun o ho=>uG hE ho h1 h2 hx hy hk h4 h5 h6 (.inr ⟨_,_,rfl,rfl⟩),g⟩
  ·exact h.elim
 ·exact h.elim
noncomputable def tq (t:TypeId) (m key v:SVal) (st:St) (K:SVal->St->Prop):Prop:=match m with
 | .map k=>match st.look k with
  |some (.map es)=>cF (eR (under E t) KH) fun ke=>cF (under E ke.1) fun d=>fT d key/\(∀p∈es,fT d p.1)/\iv es key none/\hY st k (.map (es++[(key,v)])) fun st'=>K (.dZ []) st'
  |_=>False
 |_=>False
theorem uc (hE:bz P E) {op:Op} {t:TypeId} {x ix y:Operand} {ev:jr} {st:St} {m key v:SVal} {K:SVal->St->Prop} (hop:op= .mapUpdate t x ix y\/op= .insert t x ix y) (hx:ev x=some m) (hy:ev ix=some key) (hv:ev y=some v) (h:tq E t m key v st K):Ff P op ev st K:=by
 unfold tq at h
 split at h
 ·split at h
  ·rename_i hk
   obtain⟨ke,h1,g⟩:=aH h
   obtain⟨d,h2,h4,h5,h6,g⟩:=aH g
   exact⟨_,_,fun o ho=>xA hE (ho▸hop) h1 h2 hx hy hv hk h4 h5 h6,dB g⟩
  ·exact h.elim
 ·exact h.elim
noncomputable def oT (t:TypeId) (a b:SVal) (st:St) (K:SVal->St->Prop):Prop:=LY a fun _ li=>LY b fun _ ci=>
 cF (dz E t) fun el=>cF (mT E el) fun bytes=>cF (cQ E el) fun size=>cF (iG E el) fun z=>yes (Nat.ble bytes 4096)<|lC z fun cs=>yes (Nat.beq cs.length size)<|yes (gi cs)<|
  ∃l cp:Nat,li=(l:Int)/\ci=(cp:Int)/\l<=cp/\cp<1000000000/\xm (List.replicate l cs) fun r=>jT st (.row size r 0 false) fun n st'=>K (.own n 0) st'
theorem xn (hE:bz P E) {t:TypeId} {x y:Operand} {ev:jr} {st:St} {a b:SVal} {K:SVal->St->Prop} (hx:ev x=some a) (hy:ev y=some b) (h:oT E t a b st K):Ff P (.makeSlice t x y) ev st K:=by
 unfold oT at h
 obtain⟨k1,li,e1,g1⟩:=jo h
 obtain⟨k2,ci,e2,g⟩:=jo g1
 subst e1
 subst e2
 obtain⟨el,h1,g⟩:=aH g
 obtain⟨bytes,h2,g⟩:=aH g
 obtain⟨size,h3,g⟩:=aH g
 obtain⟨z,h4,g⟩:=aH g
 obtain⟨h5,g⟩:=b8 g
 have g:=fP g
 obtain⟨h6,g⟩:=b8 g
 obtain⟨h7,l,cp,h8,h9,h10,h11,⟨g⟩⟩:=b8 g
 exact⟨_,_,fun o ho=>xB hE ho hx hy h8 h9 h10 h11 h1 h2 h3 h4 h5 h6 h7,fk g⟩
noncomputable def xOp (op:Op) (ev:jr) (st:St) (K:SVal->St->Prop):Prop:=match op with
 | .move x=>cF (ev x) fun s=>K s st
 | .assign x=>cF (ev x) fun s=>K s st
 | .pick c a b=>cF (ev c) fun v=>asB v fun t=>way t (cF (ev a) fun s=>K s st) (cF (ev b) fun s=>K s st)
 | .alloc t=>cF (iG E t) fun z=>lC z fun l=>jT st (.cells l) fun n st'=>K (.ptr n 0) st'
 | .box _ x=>cF (ev x) fun v=>lC v fun l=>jT st (.cells l) fun n st'=>K (.ptr n 0) st'
 | .build t ps=>cF (Ee ev ps.toList) fun ps=>FD E t ps fun s=>K s st
 | .buildSlice t n ps=>cF (Ee ev ps.toList) fun ps=>l5 E t n ps st K
 | .insert t m k v=>cF (ev m) fun m=>cF (ev k) fun k=>cF (ev v) fun v=>tq E t m k v st K
 | .mapUpdate t m k v=>cF (ev m) fun m=>cF (ev k) fun k=>cF (ev v) fun v=>tq E t m k v st K
 | .load t x=>cF (ev x) fun p=>Ic st p fun l=>cF (vw E t l) fun s=>K s st
 | .store t x y=>cF (ev x) fun p=>cF (ev y) fun s=>cF (cQ E t) fun n=>lC s fun cs=>yes (Nat.beq cs.length n)<|yes (gi cs)<|FF st p cs fun st'=>K (.dZ []) st'
 | .nilCheck x=>cF (ev x) fun s=>yes (Nz s) (K s st)
 | .binOp op t x y _=>cF (ev x) fun a=>cF (ev y) fun b=>TO E op t a b fun s=>K s st
 | .unOp .not _ x=>cF (ev x) fun v=>asB v fun b=>K (.bool (!b)) st
 | .unOp .neg _ x=>cF (ev x) fun v=>LY v fun k n=>ym k (0-n)/\K (.int k (0-n)) st
 | .convert a b x=>cF (ev x) fun v=>ue E a b v st fun s=>K s st
 | .makeFunc fn a b=>yes (dF fn)<|cF (lZ ev a.toList) fun a=>cF (lZ ev b.toList) fun b=>K (.func fn a b) st
 | .makeMap _ none=>jT st (.map []) fun n st'=>K (.map n) st'
 | .makeSlice t a b=>cF (ev a) fun a=>cF (ev b) fun b=>oT E t a b st K
 | .slice t x lo hi mx=>cF (ev x) fun a=>FA E ev t a lo hi mx st K
 | .fieldAddr t x f=>cF (ev x) fun p=>cF (rG E t f) fun fd=>cF (cQ E fd.type) fun n=>yes (Nat.ble 1 n)<|cF (Km p fd.offset) fun s=>K s st
 | .field t x f=>cF (ev x) fun v=>match v with
  | .agg l=>cF (rG E t f) fun fd=>cF (Na E fd.type l fd.offset) fun s=>K s st
  |_=>False
 | .indexAddr t x i=>cF (ev x) fun a=>cF (ev i) fun i=>oU E t a i st K
 | .index t x i=>cF (ev x) fun a=>cF (ev i) fun i=>FC E t a i st K
 | .lookup t x i ok=>cF (ev x) fun m=>cF (ev i) fun k=>Ac E t m k ok st fun s=>K s st
 | .extract x i=>cF (ev x) fun v=>match v with
  | .dZ l=>cF (l[i]?) fun s=>K s st
  |_=>False
 | .call d=>L8 P E d ev st K
 |_=>False
theorem L4 (hE:bz P E) {op:Op} {ev:jr} {st:St} {K:SVal->St->Prop} (h:xOp P E op ev st K):Ff P op ev st K:=by
 unfold xOp at h
 split at h
 ·obtain⟨s,h1,g⟩:=aH h
  exact⟨_,_,fun o ho=>MA ho h1,g⟩
 ·obtain⟨s,h1,g⟩:=aH h
  exact⟨_,_,fun o ho=>F8 ho h1,g⟩
 ·obtain⟨v,h1,g⟩:=aH h
  obtain⟨t,e1,g1⟩:=Hd g
  subst e1
  rcases FK g1 with⟨rfl,g2⟩|⟨rfl,g2⟩
  ·obtain⟨s,h2,g3⟩:=aH g2
   exact⟨_,_,fun o ho=>CC ho h1 h2,g3⟩
  ·obtain⟨s,h2,g3⟩:=aH g2
   exact⟨_,_,fun o ho=>CC ho h1 h2,g3⟩
 ·obtain⟨z,h1,g⟩:=aH h
  exact⟨_,_,fun o ho=>J6 hE ho h1,fk (fP g)⟩
 ·obtain⟨z,h1,g⟩:=aH h
  exact⟨_,_,fun o ho=>QR ho h1,fk (fP g)⟩
 ·obtain⟨ps,h1,g⟩:=aH h
  exact JE P E hE h1 g
 ·obtain⟨ps,h1,g⟩:=aH h
  exact uf P E hE h1 g
 ·obtain⟨m,h1,g⟩:=aH h
  obtain⟨k,h2,g⟩:=aH g
  obtain⟨v,h3,g⟩:=aH g
  exact uc P E hE (.inr rfl) h1 h2 h3 g
 ·obtain⟨m,h1,g⟩:=aH h
  obtain⟨k,h2,g⟩:=aH g
  obtain⟨v,h3,g⟩:=aH g
  exact uc P E hE (.inl rfl) h1 h2 h3 g
 ·obtain⟨p,h1,g⟩:=aH h
  obtain⟨l,h2,g⟩:=C4 g
  obtain⟨s,h3,g⟩:=aH g
  exact⟨_,_,fun o ho=>MD hE ho h1 h2 (vv h3),g⟩
 ·obtain⟨p,h1,g⟩:=aH h
  obtain⟨s,h2,g⟩:=aH g
  obtain⟨n,h3,g⟩:=aH g
  have g:=fP g
  obtain⟨h4,g⟩:=b8 g
  obtain⟨h5,g⟩:=b8 g
  obtain⟨st',h6,g⟩:=JF g
  exact⟨_,_,fun o ho=>J3 hE ho h1 h2 h3 h4 (ig h5) h6,g⟩
 ·obtain⟨s,h1,g⟩:=aH h
  obtain⟨h2,g⟩:=b8 g
  exact⟨_,_,fun o ho=>Av ho h1 (Ny h2),g⟩
 ·obtain⟨a,h1,g⟩:=aH h
  obtain⟨b,h2,g⟩:=aH g
  exact P9 P E hE h1 h2 g
 ·obtain⟨v,h1,g⟩:=aH h
  obtain⟨b,e1,g1⟩:=Hd g
  subst e1
  exact⟨_,_,fun o ho=>QO ho h1,g1⟩
 ·obtain⟨v,h1,g⟩:=aH h
  obtain⟨k,n,e1,g1⟩:=jo g
  subst e1
  exact⟨_,_,fun o ho=>QQ ho h1 g1.1,g1.2⟩
 ·obtain⟨v,h1,g⟩:=aH h
  exact BX P E hE h1 g
 ·obtain⟨h1,g⟩:=b8 h
  obtain⟨a,h2,g⟩:=aH g
  obtain⟨b,h3,g⟩:=aH g
  exact⟨_,_,fun o ho=>Aw ho h1 h2 h3,g⟩
 ·exact⟨_,_,fun o ho=>CD ho,fk h⟩
 ·obtain⟨a,h1,g⟩:=aH h
  obtain⟨b,h2,g⟩:=aH g
  exact xn P E hE h1 h2 g
 ·obtain⟨a,h1,g⟩:=aH h
  exact JC P E hE h1 g
 ·obtain⟨p,h1,g⟩:=aH h
  obtain⟨fd,h2,g⟩:=aH g
  obtain⟨n,h3,g⟩:=aH g
  obtain⟨h4,g⟩:=b8 g
  obtain⟨s,h5,g⟩:=aH g
  exact⟨_,_,fun o ho=>xK hE ho h2 h1 h3 h4 h5,g⟩
 ·obtain⟨v,h1,g⟩:=aH h
  split at g
  ·obtain⟨fd,h2,g⟩:=aH g
   obtain⟨s,h3,g⟩:=aH g
   exact⟨_,_,fun o ho=>J4 hE ho h2 h1 (C7 h3),g⟩
  ·exact g.elim
 ·obtain⟨a,h1,g⟩:=aH h
  obtain⟨i,h2,g⟩:=aH g
  exact xo P E hE h1 h2 g
 ·obtain⟨a,h1,g⟩:=aH h
  obtain⟨i,h2,g⟩:=aH g
  exact JD P E hE h1 h2 g
 ·obtain⟨a,h1,g⟩:=aH h
  obtain⟨i,h2,g⟩:=aH g
  exact FB P E hE h1 h2 g
 ·obtain⟨v,h1,g⟩:=aH h
  split at g
  ·obtain⟨s,h2,g⟩:=aH g
   exact⟨_,_,fun o ho=>CI ho h1 h2,g⟩
  ·exact g.elim
 ·exact L7 P E hE h
 ·exact h.elim
end
section
variable (P:Program) (E:Env)
noncomputable def oG (fr:Fr) (d:Option Nat) (v:SVal) (K:Fr->Prop):Prop:=match d with
 |none=>K fr
 |some d=>match fr with
  |⟨n,t⟩=>yes (Nat.ble (Nat.succ d) n) (K ⟨n,(d,v)::t⟩)
theorem pS {fr:Fr} {d:Option Nat} {v:SVal} {K:Fr->Prop} (h:oG fr d v K):∃fr',ra fr d v=some fr'/\K fr':=by
 unfold oG at h
 split at h
 ·exact⟨_,rfl,h⟩
 ·obtain⟨n,t⟩:=fr
  obtain⟨h1,g⟩:=b8 h
  refine⟨_,?_,g⟩
  show Af (Nat.ble _ n) _=_
  rw[h1]
  rfl
noncomputable def yu (all:List Oper) (fr:Fr) (g:Option (Nat×Bool)) (K:Bool->Fr->Prop):Prop:=match g with
 |none=>K true fr
 |some (j,b)=>cF (all[j]?) fun q=>cF q.dst fun d=>cF (fr.get d) fun v=>match v with
  | .bool c=>match fr with
   |⟨n,t⟩=>way c (K b ⟨n,(d,.bool true)::t⟩) (K (!b) ⟨n,(d,.bool false)::t⟩)
  | .dZ []=>K false fr
  |_=>False
structure gB (fr1 fr:Fr):Prop where
 n:fr1.n=fr.n
 get:∀t,fr1.get t=fr.get t
theorem gB.refl (fr:Fr):gB fr fr:=⟨rfl,fun _=>rfl⟩
theorem BU.eqv {P:Program} {ops:Array Oper} {l:List Oper} {fr fr1 fr':Fr} {st st':St} (hf:gB fr1 fr) (h:BU P ops l fr1 st fr' st'):BU P ops l fr st fr' st':=by
 obtain⟨h1,h2,h3⟩:=h
 refine⟨h1,h2.trans hf.n,fun hr hwf hfree hfr=> ?_⟩
 exact h3 hr hwf hfree ⟨hfr.size.trans hf.n.symm,fun t s hs=>hfr.get t s (hf.get t▸hs),hfr.defers⟩
theorem xh.eqv {P:Program} {ops:Array Oper} {l:List Oper} {fr fr1:Fr} {st:St} {Φ:Fr->St->Prop} (hf:gB fr1 fr) (h:xh P ops l fr1 st Φ):xh P ops l fr st Φ:=by
 obtain⟨fr',st',h1,h2⟩:=h
 exact⟨fr',st',h1.eqv hf,h2⟩
theorem vS {n:Nat} {t:List (Nat×SVal)} {d:Nat} {v:SVal} (h:Fr.get ⟨n,t⟩ d=some v):gB ⟨n,(d,v)::t⟩ ⟨n,t⟩:=by
 refine⟨rfl,fun k=> ?_⟩
 show bB ((d,v)::t) k=bB t k
 rw[b9]
 split
 ·rename_i e
  subst e
  exact h.symm
 ·rfl
theorem B4 {all:List Oper} {fr:Fr} {g:Option (Nat×Bool)} {K:Bool->Fr->Prop} (h:yu all fr g K):∃b fr1,gB fr1 fr/\l6 all fr1 g=some b/\K b fr1:=by
 unfold yu at h
 split at h
 ·exact⟨true,fr,gB.refl fr,rfl,h⟩
 ·rename_i j b
  obtain⟨q,h1,g⟩:=aH h
  obtain⟨d,h2,g⟩:=aH g
  obtain⟨v,h3,g⟩:=aH g
  have hw:∀(fr1:Fr) (v:SVal),fr1.get d=some v->l6 all fr1 (some (j,b))=gZ b v:=by
   intro fr1 v hv
   show eR (all[j]?) _=_
   rw[h1]
   show eR q.dst _=_
   rw[h2]
   show eR (fr1.get d) _=_
   rw[hv]
   rfl
  split at g
  ·obtain⟨n,t⟩:=fr
   simp only[] at g
   rcases FK g with⟨rfl,g⟩|⟨rfl,g⟩
   ·have e:=vS h3
    refine⟨_,_,e,(hw _ _ ((e.get d).trans h3)).trans ?_,g⟩
    cases b<;>rfl
   ·have e:=vS h3
    refine⟨_,_,e,(hw _ _ ((e.get d).trans h3)).trans ?_,g⟩
    cases b<;>rfl
  ·exact⟨false,fr,gB.refl fr,(hw fr _ h3).trans rfl,g⟩
  ·exact g.elim
noncomputable def L3 (all:List Oper) (l:List Oper):Fr->St->(Fr->St->Prop)->Prop:=
 List.rec (motive:=fun _=>Fr->St->(Fr->St->Prop)->Prop) (fun fr st K=>K fr st)
  (fun o _ ih fr st K=>yu all fr o.guard fun b fr=>match b with
   |true=>xOp P E o.op (Fw fr) st fun s st=>oG fr o.dst s fun fr=>ih fr st K
   |false=>oG fr o.dst (.dZ []) fun fr=>ih fr st K) l
theorem Ab (hE:bz P E) {ops:Array Oper}:∀{l:List Oper} {fr:Fr} {st:St} {K:Fr->St->Prop},L3 P E ops.toList l fr st K->xh P ops l fr st K
 |[],fr,st,K,h=>Rg h
 |o::l,fr,st,K,h=>by
  have h:yu ops.toList fr o.guard fun b fr=>match b with
   |true=>xOp P E o.op (Fw fr) st fun s st=>oG fr o.dst s fun fr=>L3 P E ops.toList l fr st K
   |false=>oG fr o.dst (.dZ []) fun fr=>L3 P E ops.toList l fr st K:=h
  obtain⟨b,fr1,h1,h2,g⟩:=B4 h
  refine xh.eqv h1 ?_
  cases b with
  |true=>
   obtain⟨s,st',h3,g⟩:=L4 P E hE g
   obtain⟨fr',h4,g⟩:=pS g
   exact Nh h2 (h3 o rfl) h4 (Ab hE g)
  |false=>
   obtain⟨fr',h4,g⟩:=pS g
   exact Ng h2 h4 (Ab hE g)
end
attribute [local irreducible] W
def R (P:Program) (lo:Nat) (z:Code) (fr:Fr) (st:St) (K:Ex->Fr->St->Prop):Prop:=
 ∃x fr' st',(∀Φ:Ex->Fr->St->Prop,Φ x fr' st'->W P lo z fr st Φ)/\K x fr' st'
structure fg (P:Program) (lo:Nat) (z:Code) (fr:Fr) (st:St) (K:Ex->Fr->St->Prop):Prop where
 out:R P lo (.loop z) fr st K
structure xf (P:Program) (lo:Nat) (z:Code) (fr:Fr) (st:St) (K:Ex->Fr->St->Prop):Prop where
 out:R P lo z fr st K
structure Jz (P:Program) (lo:Nat) (id:Nat) (ops:Array Oper) (fr:Fr) (st:St) (K:Fr->St->Prop):Prop where
 out:R P lo (.region id ops true) fr st fun x fr st=>x= .normal/\K fr st
def Co (k:Fr->St->Prop) (K:Ex->Fr->St->Prop) (x:Ex) (fr:Fr) (st:St):Prop:=match x with
 | .normal=>k fr st
 | .exit j=>K (.exit j) fr st
 | .ret=>K .ret fr st
def A1 (id:Nat) (K:Ex->Fr->St->Prop) (x:Ex) (fr:Fr) (st:St):Prop:=match x with
 | .normal=>K .normal fr st
 | .exit j=>match Nat.beq j id with
  |true=>K .normal fr st
  |false=>K (.exit j) fr st
 | .ret=>K .ret fr st
section
variable {P:Program} {lo:Nat} {fr:Fr} {st:St} {K L:Ex->Fr->St->Prop}
theorem R.w {z:Code} (h:R P lo z fr st K):W P lo z fr st K:=by
 obtain⟨x,fr',st',h1,h2⟩:=h
 exact h1 K h2
theorem R.mono {z:Code} (h:R P lo z fr st L) (hk:∀x fr' st',L x fr' st'->K x fr' st'):R P lo z fr st K:=by
 obtain⟨x,fr',st',h1,h2⟩:=h
 exact⟨x,fr',st',h1,hk _ _ _ h2⟩
theorem R.seq {x y:Code} {k:Fr->St->Prop} (h:R P lo x fr st (Co k K)) (hk:∀fr st,k fr st->R P lo y fr st K):R P lo (.seq x y) fr st K:=by
 obtain⟨e,fr1,st1,h1,h2⟩:=h
 cases e with
 |normal=>
  obtain⟨e2,fr2,st2,h3,h4⟩:=hk _ _ h2
  exact⟨e2,fr2,st2,fun Φ hΦ=>W.seq (h1 _ (h3 Φ hΦ)),h4⟩
 |exit j=>exact⟨_,fr1,st1,fun Φ hΦ=>W.seq (h1 _ hΦ),h2⟩
 |ret=>exact⟨_,fr1,st1,fun Φ hΦ=>W.seq (h1 _ hΦ),h2⟩
theorem R.block {id:Nat} {x:Code} (h:R P lo x fr st (A1 id K)):R P lo (.block id x) fr st K:=by
 obtain⟨e,fr1,st1,h1,h2⟩:=h
 cases e with
 |normal=>exact⟨.normal,fr1,st1,fun Φ hΦ=>W.block (h1 _ hΦ),h2⟩
 |ret=>exact⟨.ret,fr1,st1,fun Φ hΦ=>W.block (h1 _ hΦ),h2⟩
 |exit j=>
  unfold A1 at h2
  simp only[] at h2
  split at h2
  ·rename_i hb
   have:=WE hb
   exact⟨.normal,fr1,st1,fun Φ hΦ=>W.block (h1 _ (by show(if j=id then _ else _);rw[HP this];exact hΦ)),h2⟩
  ·rename_i hb
   have:¬j=id:=fun e=>by rw[e,Yu] at hb;cases hb
   exact⟨.exit j,fr1,st1,fun Φ hΦ=>W.block (h1 _ (by show(if j=id then _ else _);rw[TP this];exact hΦ)),h2⟩
theorem R.scope {x:Code} (h:R P lo x fr st K):R P lo (.scope x) fr st K:=by
 obtain⟨e,fr1,st1,h1,h2⟩:=h
 exact⟨e,fr1,st1,fun Φ hΦ=>W.scope (h1 _ hΦ),h2⟩
theorem R.loop {x:Code} (h:R P lo x fr st (Co (fun fr st=>fg P lo x fr st K) K)):R P lo (.loop x) fr st K:=by
 obtain⟨e,fr1,st1,h1,h2⟩:=h
 cases e with
 |normal=>
  obtain⟨e2,fr2,st2,h3,h4⟩:=h2.out
  exact⟨e2,fr2,st2,fun Φ hΦ=>W.loop (h1 _ (h3 Φ hΦ)),h4⟩
 |exit j=>exact⟨_,fr1,st1,fun Φ hΦ=>W.loop (h1 _ hΦ),h2⟩
 |ret=>exact⟨_,fr1,st1,fun Φ hΦ=>W.loop (h1 _ hΦ),h2⟩
theorem R.less {z:Code} {fr1:Fr} {st1:St} (hf:Hl st1.next fr1 fr) (hs:kS lo st1 st) (h:R P lo z fr1 st1 K):R P lo z fr st K:=by
 obtain⟨x,fr',st',h1,h2⟩:=h
 exact⟨x,fr',st',fun Φ hΦ=>W.less hf hs (h1 Φ hΦ),h2⟩
theorem R.kh {z:Code} {fr1:Fr} (hn:fr1.n=fr.n) (hf:∀t s,fr1.get t=some s->∃s',fr.get t=some s'/\∀c v,Den c s' v->Den c s v) (h:R P lo z fr1 st K):R P lo z fr st K:=by
 obtain⟨x,fr',st',h1,h2⟩:=h
 exact⟨x,fr',st',fun Φ hΦ=>W.kh hn hf (h1 Φ hΦ),h2⟩
end
section
variable (P:Program) (E:Env) (lo:Nat)
noncomputable def xC (z:Code):Fr->St->(Ex->Fr->St->Prop)->Prop:=
 Code.rec (motive:=fun _=>Fr->St->(Ex->Fr->St->Prop)->Prop) (fun fr st K=>K .normal fr st)
  (fun id ops d fr st K=>match d with
   |true=>Jz P lo id ops fr st (K .normal)
   |false=>L3 P E ops.toList ops.toList fr st (K .normal))
  (fun _ _ a b fr st K=>a fr st (Co (fun fr st=>b fr st K) K))
  (fun x _ _ a b fr st K=>cF (Fw fr x) fun v=>asB v fun t=>way t (a fr st K) (b fr st K))
  (fun id _ a fr st K=>a fr st (A1 id K))
  (fun z _ fr st K=>fg P lo z fr st K)
  (fun f ps x y _ _ fr st K=>xf P lo (.rangeFunc f ps x y) fr st K)
  (fun id fr st K=>K (.exit id) fr st)
  (fun _ a fr st K=>a fr st K)
  (fun _ fr st K=>K .normal fr st)
  (fun _ _ _ _=>False)
  (fun fr st K=>K .ret fr st)
  (fun _ _ _ _=>False) z
theorem jw (hE:bz P E):∀{z:Code} {fr:Fr} {st:St} {K:Ex->Fr->St->Prop},xC P E lo z fr st K->R P lo z fr st K
 | .skip,fr,st,K,h=>⟨_,_,_,fun _=>W.skip,h⟩
 | .label _,fr,st,K,h=>⟨_,_,_,fun _=>W.label,h⟩
 | .exit id,fr,st,K,h=>⟨_,_,_,fun _=>W.exit,h⟩
 | .ret,fr,st,K,h=>⟨_,_,_,fun _=>W.ret,h⟩
 | .region id ops true,fr,st,K,h=>by
  have h:Jz P lo id ops fr st (K .normal):=h
  obtain⟨x,fr',st',h1,h2,h3⟩:=h.out
  subst h2
  exact⟨_,_,_,h1,h3⟩
 | .region id ops false,fr,st,K,h=>by
  have h:L3 P E ops.toList ops.toList fr st (K .normal):=h
  obtain⟨fr',st',h1,h2⟩:=Ab P E hE h
  exact⟨.normal,fr',st',fun Φ hΦ=>W.ops ⟨fr',st',h1,hΦ⟩,h2⟩
 | .seq a b,fr,st,K,h=>by
  have h:xC P E lo a fr st (Co (fun fr st=>xC P E lo b fr st K) K):=h
  exact R.seq (jw hE h) fun _ _ h=>jw hE h
 | .cond x a b,fr,st,K,h=>by
  have h:cF (Fw fr x) fun v=>asB v fun t=>way t (xC P E lo a fr st K) (xC P E lo b fr st K):=h
  obtain⟨v,h1,g⟩:=aH h
  obtain⟨t,e,g1⟩:=Hd g
  subst e
  rcases FK g1 with⟨rfl,g2⟩|⟨rfl,g2⟩
  ·obtain⟨x,fr',st',h2,h3⟩:=jw hE g2
   exact⟨x,fr',st',fun Φ hΦ=>W.cond h1 (fun _=>h2 Φ hΦ) (fun e=>by cases e),h3⟩
  ·obtain⟨x,fr',st',h2,h3⟩:=jw hE g2
   exact⟨x,fr',st',fun Φ hΦ=>W.cond h1 (fun e=>by cases e) (fun _=>h2 Φ hΦ),h3⟩
 | .block id a,fr,st,K,h=>by
  have h:xC P E lo a fr st (A1 id K):=h
  exact R.block (jw hE h)
 | .scope a,fr,st,K,h=>by
  have h:xC P E lo a fr st K:=h
  exact R.scope (jw hE h)
 | .loop a,fr,st,K,h=>fg.out h
 | .rangeFunc f ps a b,fr,st,K,h=>xf.out h
 | .goto _,_,_,_,h=>h.elim
 | .refuse _,_,_,_,h=>h.elim
end
end Sv
namespace Sv
open Go Go.RowKit
noncomputable def ph (l:List SVal):St->(List SVal->St->Prop)->Prop:=
 List.rec (motive:=fun _=>St->(List SVal->St->Prop)->Prop) (fun st K=>K [] st)
  (fun s _ ih st K=>match s with
   | .aD=>ih st fun r st'=>K (.aK false []::r) st'
   | .aK _ rows=>ih st fun r st'=>K (.aK false rows::r) st'
   | .own k s=>match st.look k with
    |some (.row m rows s' _)=>yes (Nat.beq s' s) (hY st k (.row m rows s true) fun st'=>ih st' fun r st''=>K (.aK false rows::r) st'')
    |_=>False
   | .ptr k off=>match st.look k with
    |some (.still l)=>yes (gi l) (ih st fun r st'=>K (.bR l off::r) st')
    |_=>False
   |s=>ih st fun r st'=>K (s::r) st') l
def Boxed (st st':St):Prop:=∀k l,st.look k=some (.cells l)->st'.look k=some (.cells l)
theorem Lu {st:St} {k m s:Nat} {rows:List (List SVal)} {z y:Bool} (hk:st.look k=some (.row m rows s z)):Boxed st (st.put k (.row m rows s y)):=by
 intro n l hn
 have hne:n≠k:=fun e=>by
  subst e
  rw[hk] at hn
  cases hn
 rw[look_eq] at hn⊢
 show(if ck n st.cE=true then none else bB (st.put k _).heap n)=_
 rw[nF,TP hne]
 exact hn
theorem iZ:∀{l:List SVal} {st:St} {K:List SVal->St->Prop},ph l st K->∃l' st',iK st l l' st'/\Boxed st st'/\K l' st'
 |[],st,K,h=>⟨_,_,.nil,fun _ _ h=>h,h⟩
 |s::r,st,K,h=>by
  have h:match(generalizing:=false) s with
   | .aD=>ph r st fun r st'=>K (.aK false []::r) st'
   | .aK _ rows=>ph r st fun r st'=>K (.aK false rows::r) st'
   | .own k s=>match st.look k with
    |some (.row m rows s' _)=>yes (Nat.beq s' s) (hY st k (.row m rows s true) fun st'=>ph r st' fun r st''=>K (.aK false rows::r) st'')
    |_=>False
   | .ptr k off=>match st.look k with
    |some (.still l)=>yes (gi l) (ph r st fun r st'=>K (.bR l off::r) st')
    |_=>False
   |s=>ph r st fun r st'=>K (s::r) st':=h
  split at h
  ·obtain⟨l',st',h1,h2,h3⟩:=iZ h
   exact⟨_,_,.aD h1,h2,h3⟩
  ·obtain⟨l',st',h1,h2,h3⟩:=iZ h
   exact⟨_,_,.aK h1,h2,h3⟩
  ·split at h
   ·rename_i hk
    obtain⟨e,h4⟩:=b8 h
    cases WE e
    obtain⟨l',st',h1,h2,h3⟩:=iZ (dB h4)
    exact⟨_,_,.own hk h1,fun k l hl=>h2 k l (Lu hk k l hl),h3⟩
   ·exact h.elim
  ·split at h
   ·rename_i hk
    obtain⟨e,h4⟩:=b8 h
    obtain⟨l',st',h1,h2,h3⟩:=iZ h4
    exact⟨_,_,.still hk e h1,h2,h3⟩
   ·exact h.elim
  ·obtain⟨l',st',h1,h2,h3⟩:=iZ h
   exact⟨_,_,.same h1,h2,h3⟩
mutual
noncomputable def xZ:SVal->St->(SVal->St->Prop)->Prop
 | .aD,st,K=>K (.aK false []) st
 | .aK _ rows,st,K=>K (.aK false rows) st
 | .own k s,st,K=>match st.look k with
  |some (.row m rows s' _)=>yes (Nat.beq s' s) (hY st k (.row m rows s true) fun st'=>K (.aK false rows) st')
  |_=>False
 | .agg l,st,K=>Gz l st fun l' st'=>K (.agg l') st'
 | .bool b,st,K=>K (.bool b) st
 | .int k n,st,K=>K (.int k n) st
 | .str s,st,K=>K (.str s) st
 | .nilPtr,st,K=>K .nilPtr st
 | .fY,st,K=>K .fY st
 | .eJ,st,K=>K .eJ st
 | .nilIface,st,K=>K .nilIface st
 | .ptr k off,st,K=>match st.look k with
  |some (.cells l)=>ph l st fun l' st1=>yes (gi l') (hY st1 k (.still l') fun st2=>K (.bR l' off) st2)
  |some (.still l)=>yes (gi l) (K (.bR l off) st)
  |_=>False
 | .fv _ _ _ _,_,_=>False
 | .map _,_,_=>False
 | .bR row off,st,K=>K (.bR row off) st
 | .func (.func f) x y,st,K=>Gz x st fun x' st1=>Gz y st1 fun y' st2=>K (.func (.func f) x' y') st2
 | .func _ _ _,_,_=>False
 | .iface t v,st,K=>K (.iface t v) st
 | .dZ l,st,K=>K (.dZ l) st
noncomputable def Gz:List SVal->St->(List SVal->St->Prop)->Prop
 |[],st,K=>K [] st
 |s::r,st,K=>xZ s st fun s' st'=>Gz r st' fun r' st''=>K (s'::r') st''
end
theorem iK.app {st st1 st2:St} {a a' r r':List SVal} (h:iK st a a' st1) (k:iK st1 r r' st2):iK st (a++r) (a'++r') st2:=by
 induction h with
 |nil=>exact k
 |same _ ih=>exact .same (ih k)
 |aD _ ih=>exact .aD (ih k)
 |aK _ ih=>exact .aK (ih k)
 |own h1 _ ih=>exact .own h1 (ih k)
 |agg h1 _ _ ih=>exact .agg h1 (ih k)
 |ptr h1 h2 h3 h4 _ _ ih=>exact .ptr h1 h2 h3 h4 (ih k)
 |still h1 h2 _ ih=>exact .still h1 h2 (ih k)
 |func h1 h2 _ _ _ ih=>exact .func h1 h2 (ih k)
mutual
theorem Ok:∀{s:SVal} {st:St} {K:SVal->St->Prop},xZ s st K->∃s' st',iK st [s] [s'] st'/\K s' st'
 | .aD,st,K,h=>by
  unfold xZ at h
  exact⟨_,_,.aD .nil,h⟩
 | .aK f rows,st,K,h=>by
  unfold xZ at h
  exact⟨_,_,.aK .nil,h⟩
 | .own k s,st,K,h=>by
  unfold xZ at h
  split at h
  ·rename_i hk
   obtain⟨h1,h3⟩:=b8 h
   cases WE h1
   exact⟨_,_,.own hk .nil,dB h3⟩
  ·exact h.elim
 | .agg l,st,K,h=>by
  unfold xZ at h
  obtain⟨l',st',h1,h2⟩:=jl h
  exact⟨_,_,.agg h1 .nil,h2⟩
 | .ptr k off,st,K,h=>by
  unfold xZ at h
  split at h
  ·rename_i hk
   obtain⟨l',st1,h1,h2,h3⟩:=iZ h
   obtain⟨h4,h5⟩:=b8 h3
   exact⟨_,_,.ptr hk h1 (h2 _ _ hk) h4 .nil,dB h5⟩
  ·rename_i hk
   obtain⟨h4,h5⟩:=b8 h
   exact⟨_,_,.still hk h4 .nil,h5⟩
  ·exact h.elim
 | .func fn x y,st,K,h=>by
  cases fn<;>unfold xZ at h
  case func f=>
   obtain⟨x',st1,h1,h2⟩:=jl h
   obtain⟨y',st2,h3,h4⟩:=jl h2
   exact⟨_,_,.func h1 h3 .nil,h4⟩
  all_goals exact h.elim
 | .bool b,st,K,h=>by
  unfold xZ at h
  exact⟨_,_,.same .nil,h⟩
 | .int k n,st,K,h=>by
  unfold xZ at h
  exact⟨_,_,.same .nil,h⟩
 | .str s,st,K,h=>by
  unfold xZ at h
  exact⟨_,_,.same .nil,h⟩
 | .nilPtr,st,K,h=>by
  unfold xZ at h
  exact⟨_,_,.same .nil,h⟩
 | .fY,st,K,h=>by
  unfold xZ at h
  exact⟨_,_,.same .nil,h⟩
 | .eJ,st,K,h=>by
  unfold xZ at h
  exact⟨_,_,.same .nil,h⟩
 | .nilIface,st,K,h=>by
  unfold xZ at h
  exact⟨_,_,.same .nil,h⟩
 | .bR row off,st,K,h=>by
  unfold xZ at h
  exact⟨_,_,.same .nil,h⟩
 | .iface t v,st,K,h=>by
  unfold xZ at h
  exact⟨_,_,.same .nil,h⟩
 | .dZ l,st,K,h=>by
  unfold xZ at h
  exact⟨_,_,.same .nil,h⟩
 | .fv _ _ _ _,_,_,h=>by
  unfold xZ at h
  exact h.elim
 | .map _,_,_,h=>by
  unfold xZ at h
  exact h.elim
theorem jl:∀{l:List SVal} {st:St} {K:List SVal->St->Prop},Gz l st K->∃l' st',iK st l l' st'/\K l' st'
 |[],st,K,h=>by
  unfold Gz at h
  exact⟨_,_,.nil,h⟩
 |s::r,st,K,h=>by
  unfold Gz at h
  obtain⟨s',st1,h1,h2⟩:=Ok h
  obtain⟨r',st2,h3,h4⟩:=jl h2
  exact⟨_,_,h1.app h3,h4⟩
end
section
variable (P:Program) (E:Env)
noncomputable def Gc (fr:Fr) (st:St):List ResultVar->(List SVal->Prop)->Prop
 |[],K=>K []
 | .tmp t::l,K=>cF (fr.get t) fun s=>Gc fr st l fun ss=>K (s::ss)
 | .cell b t::l,K=>cF (fr.get b) fun p=>Ic st p fun cs=>cF (vw E t cs) fun s=>Gc fr st l fun ss=>K (s::ss)
theorem nA {fr:Fr} {st:St}:∀{l:List ResultVar} {K:List SVal->Prop},Gc E fr st l K->∃ss,pG E fr st l ss/\K ss
 |[],K,h=>⟨_,.nil,h⟩
 | .tmp t::l,K,h=>by
  obtain⟨s,h1,g⟩:=aH h
  obtain⟨ss,h2,g⟩:=nA g
  exact⟨_,.tmp h1 h2,g⟩
 | .cell b t::l,K,h=>by
  obtain⟨p,h1,g⟩:=aH h
  obtain⟨cs,h2,g⟩:=C4 g
  obtain⟨s,h3,g⟩:=aH g
  obtain⟨ss,h4,g⟩:=nA g
  exact⟨_,.cell h1 h2 (vv h3) h4,g⟩
structure FzR (l:List SVal) (st:St) (K:List SVal->Prop):Prop where
 out:∃l' st',iK st l l' st'/\aB l'=true/\K l'
theorem dH {l:List SVal} {st:St} {K:List SVal->Prop} (h:Gz l st fun l' _=>aB l'=true/\K l'):FzR l st K:=
 ⟨jl h⟩
theorem qx {st:St}:∀l:List SVal,iK st l l st
 |[]=> .nil
 |_::r=> .same (qx r)
theorem nX {l:List SVal} {st:St} {K:List SVal->Prop} (h:aB l=true) (k:K l):FzR l st K:=
 ⟨l,st,qx l,h,k⟩
noncomputable def UX (rs:List ResultVar) (Ψ:SVal->Prop) (x:Ex) (fr:Fr) (st:St):Prop:=match x with
 | .exit _=>False
 |_=>Gc E fr st rs fun ss=>FzR ss st fun ss'=>match ss' with
  |[v]=>Ψ v
  |vs=>Ψ (.dZ vs)
noncomputable def w6:Nat->List SVal->Option (List (Nat×SVal))
 |_,[]=>some []
 |i,s::r=>match w6 (i+1) r with
  |some t=>some ((i,s)::t)
  |none=>none
theorem qN:∀{l:List SVal} {i:Nat} {t:List (Nat×SVal)},w6 i l=some t->t=LC i l
 |[],i,t,h=>by cases h;rfl
 |s::r,i,t,h=>by
  unfold w6 at h
  split at h
  ·rename_i t' h'
   cases h
   rw[qN h']
   rfl
  ·cases h
noncomputable def xF (fn:Func) (args:List SVal) (Ψ:SVal->Prop):Prop:=match fn with
 |{ntmps:=n,results:=rs,body:=some b,.. }=>yes (Nat.ble args.length n)<|cF (w6 0 args) fun t=>xC P E 0 b ⟨n,t⟩ ⟨[],0,0,[],[]⟩ (UX E rs.toList Ψ)
 |_=>False
def Has (f:FuncId) (args:List SVal) (Ψ:SVal->Prop):Prop:=∃s,lF P f args s/\Ψ s
theorem Bw {ss:List SVal} (h:aB ss=true):closed (oY ss)=true:=by
 match ss,h with
 |[],_=>rfl
 |[v],h=>exact(Wa .. ▸h:_/\_).1
 |a::b::r,h=>exact h
theorem R1 {rs:List ResultVar} {Ψ:SVal->Prop} {x:Ex} {fr:Fr} {st:St} (h:UX E rs Ψ x fr st):sJ x=true/\∃ss,pG E fr st rs ss/\∃ss' st2,iK st ss ss' st2/\aB ss'=true/\Ψ (oY ss'):=by
 unfold UX at h
 split at h
 ·exact h.elim
 ·rename_i hx
  obtain⟨ss,h1,g⟩:=nA E h
  obtain⟨ss',st2,h2,hcl,g⟩:=g.out
  refine⟨?_,ss,h1,ss',st2,h2,hcl,?_⟩
  ·cases x with
   |exit j=>exact(hx j rfl).elim
   |normal=>rfl
   |ret=>rfl
  ·split at g
   ·exact g
   ·rename_i hv
    match ss',hv,g with
    |[],_,g=>exact g
    |[v],hv,_=>exact(hv v rfl).elim
    |a::b::r,_,g=>exact g
theorem US (hE:bz P E) {f:FuncId} {fn:Func} (hf:E.funcs.get f=some fn) {args:List SVal} {Ψ:SVal->Prop} (hc:aB args=true) (h:xF P E fn args Ψ):Has P f args Ψ:=by
 unfold xF at h
 split at h
 ·obtain⟨h1,g⟩:=b8 h
  obtain⟨t,h2,g⟩:=aH g
  cases qN h2
  obtain⟨x,fr',st',h3,h4⟩:=jw P E 0 hE g
  obtain⟨h5,ss,h6,ss',st2,h7,hcl,h8⟩:=R1 E h4
  refine⟨oY ss',Q9 hE hf rfl hc ?_ ?_,h8⟩
  ·unfold entry
   rw[show args.length+(_-args.length)=_ from X9 (Ww h1)]
   exact h3 _ ⟨h5,ss,h6,ss',st2,h7,rfl⟩
  ·exact Bw hcl
 ·exact h.elim
theorem Lo {f:FuncId} {args args':List SVal} {s:SVal} {st:St} {K:SVal->St->Prop} (h:lF P f args' s) (ha:cH args=args') (k:K s st):eU P f args st K:=
 ⟨s,st,fun _ _ _ _ _ _ _ ho hc hf hev he=>Mz ho hc hf hev (he▸ha) h,k⟩
theorem Pj {f:FuncId} {args args':List SVal} {s:SVal} {st:St} {K:SVal->St->Prop} (h:lF P f args' s) (k:Gz args st fun l st'=>l=args'/\K s st'):eU P f args st K:=by
 obtain⟨l',st',h1,h2,h3⟩:=jl k
 subst h2
 exact⟨s,st',fun _ _ _ _ _ _ _ ho hc hf hev he=>Au ho hc hf hev (he▸h1) h,h3⟩
end
structure Span where
 lo:Int
 hi:Int
structure Edge where
 lo:Int
 hi:Int
 to:Int
structure bj where
 acc:Bool
 aI:List Edge
structure bM where
 null:Bool
 sE:Bool
 rY:Bool
 ints:List Span
 bC:List Span
 strs:List bj
structure aV (V:Type) where
 items:List V
 rest:List V
structure dy (V:Type) where
 label:List UInt8
 dR:Int
 val:V
structure cW (V:Type) where
 set:List bj
 val:V
structure aF (V:Type) where
 fields:List (dy V)
 aw:List (cW V)
structure bt (V:Type) where
 any:Bool
 sc:bM
 lists:List (aV V)
 structs:List (aF V)
structure Vl (V:Type) where
 v:bt V
 d:bt V
def VT:Nat->Type
 |0=>Empty
 |n+1=>Vl (VT n)
def cD (s:Span):List SVal:=[.int .i64 s.lo,.int .i64 s.hi]
def cR (e:Edge):List SVal:=[.int .u8 e.lo,.int .u8 e.hi,.int .i64 e.to]
def gT (s:bj):List SVal:=[.bool s.acc,.aK false (s.aI.map cR)]
def aE (l:List bj):SVal:= .aK false (l.map gT)
def a7 (l:List Span):SVal:= .aK false (l.map cD)
def cq (s:bM):List SVal:=[.bool s.null,.bool s.sE,.bool s.rY,a7 s.ints,a7 s.bC,aE s.strs]
section
variable {V:Type} (e:V->List SVal)
def aS (c:aV V):List SVal:=[.aK false (c.items.map e),.aK false (c.rest.map e)]
def cZ (f:dy V):List SVal:= .str f.label:: .int .i64 f.dR::e f.val
def dI (k:cW V):List SVal:=aE k.set::e k.val
def aG (c:aF V):List SVal:=[.aK false (c.fields.map (cZ e)),.aK false (c.aw.map (dI e))]
def cg (v:bt V):List SVal:=[.bool v.any,.bool v.sc.null,.bool v.sc.sE,.bool v.sc.rY,a7 v.sc.ints,a7 v.sc.bC,aE v.sc.strs,.aK false (v.lists.map (aS e)),.aK false (v.structs.map (aG e))]
def tP (v:Vl V):List SVal:=[.bool v.v.any,.bool v.v.sc.null,.bool v.v.sc.sE,.bool v.v.sc.rY,a7 v.v.sc.ints,a7 v.v.sc.bC,aE v.v.sc.strs,.aK false (v.v.lists.map (aS e)),.aK false (v.v.structs.map (aG e)),
 .bool v.d.any,.bool v.d.sc.null,.bool v.d.sc.sE,.bool v.d.sc.rY,a7 v.d.sc.ints,a7 v.d.sc.bC,aE v.d.sc.strs,.aK false (v.d.lists.map (aS e)),.aK false (v.d.structs.map (aG e))]
end
def eVT:(n:Nat)->VT n->List SVal
 |0,v=>Empty.elim v
 |n+1,v=>tP (eVT n) v
theorem GU {rows:List (List SVal)} (h:∀r∈rows,aB r=true):aL rows=true:=by
 induction rows with
 |nil=>rfl
 |cons r rows ih=>
  rw[aL,h r (.head _),ih fun x hx=>h x (.tail _ hx)]
  rfl
class Cl {α:Type} (f:α->List SVal):Prop where
 cl:∀x,aB (f x)=true
section
variable {α:Type} (f:α->List SVal) [h:Cl f]
theorem cl (x:α):aB (f x)=true:=h.cl x
theorem eM (l:List α):aL (l.map f)=true:=
 GU fun r hr=>by
  obtain⟨x,_,rfl⟩:=WQ.1 hr
  exact h.cl x
theorem clS (b:Bool) (l:List α):closed (.aK b (l.map f))=true:=eM f l
theorem clA (x:α):closed (.agg (f x))=true:=h.cl x
theorem clA1 (x:α):aB [.agg (f x)]=true:=by rw[aB,clA f x];rfl
theorem clA2 {β:Type} (g:β->List SVal) [k:Cl g] (x:α) (y:β):aB [.agg (f x),.agg (g y)]=true:=by rw[aB,clA f x,clA1 g y];rfl
theorem cG (m:Nat) (l:List α):js m (l.map f)=true:=gM m _ (eM f l)
theorem c9 (m:Nat) (x:α):cX m (f x)=true:=bq m _ (h.cl x)
end
instance :Cl cD:=⟨fun _=>rfl⟩
instance :Cl cR:=⟨fun _=>rfl⟩
instance :Cl gT:=⟨fun s=>by simp only[gT,aB,closed,eM cR,V3]⟩
theorem bN (l:List Span):closed (a7 l)=true:=eM cD l
theorem cj (l:List bj):closed (aE l)=true:=eM gT l
instance :Cl cq:=⟨fun s=>by simp only[cq,aB,closed,bN,cj,V3]⟩
section
variable {V:Type} {e:V->List SVal} [h:Cl e]
instance :Cl (aS e):=⟨fun c=>by simp only[aS,aB,closed,eM e,V3]⟩
instance :Cl (cZ e):=⟨fun f=>by simp only[cZ,aB,closed,cl e,V3]⟩
instance :Cl (dI e):=⟨fun f=>by simp only[dI,aB,cj,cl e,V3]⟩
instance :Cl (aG e):=⟨fun c=>by simp only[aG,aB,closed,eM (cZ e),eM (dI e),V3]⟩
instance :Cl (cg e):=⟨fun v=>by simp only[cg,aB,closed,bN,cj,eM (aS e),eM (aG e),V3]⟩
instance :Cl (tP e):=⟨fun v=>by simp only[tP,aB,closed,bN,cj,eM (aS e),eM (aG e),V3]⟩
end
theorem TD:∀(n:Nat) (v:VT n),aB (eVT n v)=true
 |0,v=>Empty.elim v
 |n+1,v=>haveI:Cl (eVT n):=⟨TD n⟩;cl (tP (eVT n)) v
instance (n:Nat):Cl (eVT n):=⟨TD n⟩
def et:bM:=⟨false,false,false,[],[],[]⟩
def TL (V:Type):bt V:=⟨false,et,[],[]⟩
theorem brt {b:Bool} {p q:Prop} (h:b=true) (h1:p): @Bool.rec (fun _=>Prop) q p b:=by
 subst h;exact h1
theorem brf {b:Bool} {p q:Prop} (h:b=false) (h2:q): @Bool.rec (fun _=>Prop) q p b:=by
 subst h;exact h2
section
variable {c:Prop} [Decidable c] {p q:Prop}
theorem aO (h1:c->p) (h2:¬c->q): @Bool.rec (fun _=>Prop) q p (decide c):=dm (fun h=>h1 (Wp h)) fun h=>h2 (of_decide_eq_false h)
theorem LA (h:c) (h1:p): @Bool.rec (fun _=>Prop) q p (decide c):=brt (Xd h) h1
theorem BV (h:¬c) (h2:q): @Bool.rec (fun _=>Prop) q p (decide c):=brf (Xu h) h2
theorem eB (h1:¬c->p) (h2:c->q): @Bool.rec (fun _=>Prop) q p (!decide c):=by
 by_cases h:c
 ·exact brf (by rw[Xd h];rfl) (h2 h)
 ·exact brt (by rw[Xu h];rfl) (h1 h)
theorem bnt (h:¬c) (h1:p): @Bool.rec (fun _=>Prop) q p (!decide c):=eB (fun _=>h1) fun h'=>(h h').elim
theorem bnf (h:c) (h2:q): @Bool.rec (fun _=>Prop) q p (!decide c):=eB (fun h'=>(h' h).elim) fun _=>h2
end
section
variable {b:Bool} {p q:Prop}
theorem dx (h1:b=false->p) (h2:b=true->q): @Bool.rec (fun _=>Prop) q p (!b):=by
 cases b with
 |true=>exact h2 rfl
 |false=>exact h1 rfl
theorem bmt (h:b=false) (h1:p): @Bool.rec (fun _=>Prop) q p (!b):=by subst h;exact h1
theorem bmf (h:b=true) (h2:q): @Bool.rec (fun _=>Prop) q p (!b):=by subst h;exact h2
end
structure Fits (lo:Nat) (fr:Fr) (st:St) (fr1:Fr) (st1:St):Prop where
 fr:Hl st1.next fr1 fr
 st:kS lo st1 st
structure qR {ι:Type} (P:Program) (lo:Nat) (F:ι->Fr) (S:ι->St) (m:ι->Nat) (i:ι) (fr:Fr) (st:St):Prop where
 out:∃j,m j<m i/\∀z K,R P lo z (F j) (S j) K->R P lo z fr st K
theorem SS {ι:Type} {P:Program} {lo:Nat} {F:ι->Fr} {S:ι->St} {m:ι->Nat} {i:ι} {fr:Fr} {st:St} (j:ι) (h:m j<m i) (k:Fits lo fr st (F j) (S j)):qR P lo F S m i fr st:=⟨j,h,fun _ _ g=>R.less k.fr k.st g⟩
theorem Pq {ι:Type} {P:Program} {lo:Nat} {F:ι->Fr} {S:ι->St} {m:ι->Nat} {i:ι} {fr fr':Fr} {st st':St} (g:∀z K,R P lo z fr' st' K->R P lo z fr st K) (h:qR P lo F S m i fr' st'):qR P lo F S m i fr st:=by
 obtain⟨j,h1,h2⟩:=h.out
 exact⟨j,h1,fun z K r=>g z K (h2 z K r)⟩
def NO {ι:Type} (P:Program) (lo:Nat) (F:ι->Fr) (S:ι->St) (m:ι->Nat) (i:ι) (K:Ex->Fr->St->Prop) (x:Ex) (fr:Fr) (st:St):Prop:=match x with
 | .normal=>qR P lo F S m i fr st
 | .exit id=>K (.exit id) fr st
 | .ret=>K .ret fr st
theorem Du {ι:Type} {P:Program} {lo:Nat} {z:Code} {K:Ex->Fr->St->Prop} (F:ι->Fr) (S:ι->St) (m:ι->Nat) (h:∀i,R P lo z (F i) (S i) (NO P lo F S m i K)):∀(n:Nat) (i:ι),m i<n->R P lo (.loop z) (F i) (S i) K
 |0,i,hi=>by omega
 |n+1,i,hi=>by
  refine R.loop (R.mono (h i) fun x fr st hx=> ?_)
  cases x with
  |normal=>
   obtain⟨j,h1,h2⟩:=hx.out
   exact⟨h2 _ _ (Du F S m h n j ii)⟩
  |exit id=>exact hx
  |ret=>exact hx
theorem RD {ι:Type} {P:Program} {E:Env} (hE:bz P E) {lo:Nat} {z:Code} {fr:Fr} {st:St} {K:Ex->Fr->St->Prop} (F:ι->Fr) (S:ι->St) (m:ι->Nat) (i:ι) (h0:Fits lo fr st (F i) (S i)) (h:∀i,xC P E lo z (F i) (S i) (NO P lo F S m i K)):fg P lo z fr st K:=
 ⟨R.less h0.fr h0.st (Du F S m (fun i=>jw P E lo hE (h i)) _ i (WW _))⟩
def Mp (m:Nat) (t:List (Nat×SVal)):List (Nat×SVal)->Prop
 |[]=>True
 |p::r=>bB t p.1=some p.2/\nb m p.2=true/\Mp m t r
theorem tv {m:Nat} {t:List (Nat×SVal)}:∀{t1:List (Nat×SVal)},Mp m t t1->∀k s,bB t1 k=some s->bB t k=some s/\nb m s=true
 |[],_,k,s,h=>by cases h
 |p::r,⟨h1,h2,h3⟩,k,s,h=>by
  rw[b9] at h
  split at h
  ·rename_i e
   cases h
   subst e
   exact⟨h1,h2⟩
  ·exact tv h3 k s h
def mb (m:Nat) (t:Hp):Hp->Prop
 |[]=>True
 |p::r=>bB t p.1=some p.2/\gN m p.2=true/\p.1<m/\mb m t r
theorem fF {m:Nat} {t:Hp}:∀{t1:Hp},mb m t t1->∀k o,bB t1 k=some o->bB t k=some o/\gN m o=true/\k<m
 |[],_,k,s,h=>by cases h
 |p::r,⟨h1,h2,h3,h4⟩,k,s,h=>by
  rw[b9] at h
  split at h
  ·rename_i e
   cases h
   subst e
   exact⟨h1,h2,h3⟩
  ·exact fF h4 k s h
theorem fits0 {n next next1:Nat} {t t1:List (Nat×SVal)} {h h1:Hp} (hf:Mp next1 t t1) (hh:mb next1 h h1) (hn:next1<=next):Fits 0 ⟨n,t⟩ ⟨h,next,0,[],[]⟩ ⟨n,t1⟩ ⟨h1,next1,0,[],[]⟩ where
 fr:=⟨rfl,tv hf⟩
 st:={
  next:=hn
  low:=Wd _
  cE:=rfl
  mark:=rfl
  log:=rfl
  Vv:=fun k hk=>by cases hk
  heap:=fF hh
  same:=fun k hk=>by omega}
theorem gB.symm {a b:Fr} (h:gB a b):gB b a:=⟨h.n.symm,fun t=>(h.get t).symm⟩
theorem gB.trans {a b c:Fr} (h:gB a b) (k:gB b c):gB a c:=⟨h.n.trans k.n,fun t=>(h.get t).trans (k.get t)⟩
theorem gB.ev {a b:Fr} (h:gB a b):Fw a=Fw b:=by
 funext x
 cases x with
 |tmp t=>exact h.get t
 |const v=>rfl
 |global g=>rfl
 |func f=>rfl
theorem gB.want {a b:Fr} (h:gB a b) (all:List Oper) (g:Option (Nat×Bool)):l6 all a g=l6 all b g:=by
 cases g with
 |none=>rfl
 |some p=>
  show eR (all[p.1]?) (fun q=>eR q.dst fun d=>eR (a.get d) fun v=>gZ p.2 v)=eR (all[p.1]?) (fun q=>eR q.dst fun d=>eR (b.get d) fun v=>gZ p.2 v)
  have:(fun d=>eR (a.get d) fun v=>gZ p.2 v)=fun d=>eR (b.get d) fun v=>gZ p.2 v:=by
   funext d
   rw[h.get d]
  rw[this]
theorem gB.put {a b a':Fr} (h:gB a b) {d:Option Nat} {s:SVal} (hp:ra a d s=some a'):∃b',ra b d s=some b'/\gB a' b':=by
 cases d with
 |none=>
  cases iW hp
  exact⟨b,rfl,h⟩
 |some d=>
  have h1:=fu (gJ hp)
  have hb:ra b (some d) s=some ⟨b.n,(d,s)::b.t⟩:=by
   show Af (Nat.ble (Nat.succ d) b.n) _=_
   rw[show Nat.ble (Nat.succ d) b.n=true from XD (h.n▸h1.1)]
   rfl
  refine⟨_,hb,?_⟩
  have h2:=fu (gJ hb)
  exact⟨h1.2.1.trans (h.n.trans h2.2.1.symm),fun t=>by rw[h1.2.2 t,h2.2.2 t,h.get t]⟩
theorem gz.eqv {P:Program} {ops:Array Oper} {before:List Nat} {sup:List ft} {l:List Oper} {k:Nat} {a a':Fr} {st st':St} {acc acc':List ft} (h:gz P ops before sup l k a st acc a' st' acc'):∀{b:Fr},gB a b->∃b',gB a' b'/\gz P ops before sup l k b st acc b' st' acc':=by
 induction h with
 |nil=>exact fun h=>⟨_,h,.nil⟩
 |skip h1 h2 _ ih=>
  intro b hb
  obtain⟨b1,h3,h4⟩:=hb.put h2
  obtain⟨b',h5,h6⟩:=ih h4
  exact⟨b',h5,.skip ((hb.want _ _).symm.trans h1) h3 h6⟩
 |cons h1 h2 h3 _ ih=>
  intro b hb
  obtain⟨b1,h4,h5⟩:=hb.put h3
  obtain⟨b',h6,h7⟩:=ih h5
  exact⟨b',h6,.cons ((hb.want _ _).symm.trans h1) (hb.ev▸h2) h4 h7⟩
theorem S9.eqv {lo:Nat} {D:List Deferred} {B:Nat} {c:Ctx} {a b:Fr} {st:St} {x:Act} {w:World} (h:S9 lo D B c a st x w) (e:gB b a):S9 lo D B c b st x w:=
 ⟨h.rep,h.wf,h.yb,⟨h.fr.size.trans e.n.symm,fun t s hs=>h.fr.get t s (e.get t▸hs),h.fr.defers⟩,h.Gl,h.base,h.low,h.mark⟩
theorem W.outEq {P:Program} {lo:Nat} {z:Code} {fr a a':Fr} {st st':St} {x:Ex} (h:∀Φ:Ex->Fr->St->Prop,Φ x a st'->W P lo z fr st Φ) (e:gB a' a):∀Φ:Ex->Fr->St->Prop,Φ x a' st'->W P lo z fr st Φ:=by
 intro Φ hΦ ro B D c w y he hro Q hq
 refine h (fun x' f s=>x'=x/\f=a/\s=st') ⟨rfl,rfl,rfl⟩ he hro fun x' f s D' c' y' w' hx he' hs ht hn=> ?_
 obtain⟨rfl,rfl,rfl⟩:=hx
 exact hq x' a' s D' c' y' w' hΦ (he'.eqv e) hs ht (e.n.trans hn)
noncomputable def BW (P:Program) (E:Env) (before:List Nat) (sup:List ft) (all:List Oper) (l:List Oper):Nat->Fr->St->List ft->(Fr->St->List ft->Prop)->Prop:=
 List.rec (motive:=fun _=>Nat->Fr->St->List ft->(Fr->St->List ft->Prop)->Prop) (fun _ fr st acc K=>K fr st acc)
  (fun o _ ih k fr st acc K=>yu all fr o.guard fun b fr=>match b with
   |true=>match st with
    |⟨heap,next,mark,log,cE⟩=>xOp P E o.op (Fw fr) ⟨heap,next,next,[],jX before k acc (eQ before k next sup cE)⟩ fun s st1=>match st1 with
     |⟨heap1,next1,_,log1,_⟩=>oG fr o.dst s fun fr=>ih (Nat.succ k) fr ⟨heap1,next1,mark,below mark log1++log,cE⟩ (ni k next next1 log1 acc) K
   |false=>oG fr o.dst (.dZ []) fun fr=>ih (Nat.succ k) fr st acc K) l
theorem ud {P:Program} {E:Env} (hE:bz P E) {before:List Nat} {sup:List ft} {ops:Array Oper}:∀{l:List Oper} {k:Nat} {fr:Fr} {st:St} {acc:List ft} {K:Fr->St->List ft->Prop},BW P E before sup ops.toList l k fr st acc K->
  ∃a a' st' acc',gz P ops before sup l k fr st acc a st' acc'/\gB a' a/\K a' st' acc'
 |[],k,fr,st,acc,K,h=>⟨_,_,_,_,.nil,gB.refl _,h⟩
 |o::l,k,fr,st,acc,K,h=>by
  have h:yu ops.toList fr o.guard fun b fr=>match b with
   |true=>match st with
    |⟨heap,next,mark,log,cE⟩=>xOp P E o.op (Fw fr) ⟨heap,next,next,[],jX before k acc (eQ before k next sup cE)⟩ fun s st1=>match st1 with
     |⟨heap1,next1,_,log1,_⟩=>oG fr o.dst s fun fr=>BW P E before sup ops.toList l (Nat.succ k) fr ⟨heap1,next1,mark,below mark log1++log,cE⟩ (ni k next next1 log1 acc) K
   |false=>oG fr o.dst (.dZ []) fun fr=>BW P E before sup ops.toList l (Nat.succ k) fr st acc K:=h
  obtain⟨b,fr1,h1,h2,g⟩:=B4 h
  cases b with
  |true=>
   obtain⟨heap,next,mark,log,cE⟩:=st
   obtain⟨s,st1,h3,g⟩:=L4 P E hE g
   obtain⟨heap1,next1,mark1,log1,ban1⟩:=st1
   obtain⟨fr',h4,g⟩:=pS g
   obtain⟨a,a',st',acc',h5,h6,h7⟩:=ud hE g
   have h8:gz P ops before sup (o::l) k fr1 ⟨heap,next,mark,log,cE⟩ acc a st' acc':= .cons h2 (h3 o rfl) h4 h5
   obtain⟨b',h9,h10⟩:=h8.eqv h1
   exact⟨b',a',st',acc',h10,h6.trans h9,h7⟩
  |false=>
   obtain⟨fr',h4,g⟩:=pS g
   obtain⟨a,a',st',acc',h5,h6,h7⟩:=ud hE g
   have h8:gz P ops before sup (o::l) k fr1 st acc a st' acc':= .skip h2 h4 h5
   obtain⟨b',h9,h10⟩:=h8.eqv h1
   exact⟨b',a',st',acc',h10,h6.trans h9,h7⟩
theorem Sa {P:Program} {E:Env} (hE:bz P E) {lo id:Nat} {ops:Array Oper} {fr:Fr} {st:St} {K:Fr->St->Prop} (before:List Nat) (sup:List ft) (hb:(Region.before ops).toList=before) (hrel:Kd ops.toList fr.n=true)
  (h:BW P E before sup ops.toList ops.toList 0 fr st [] fun fr st acc=>gP before sup acc=true/\K fr st):Jz P lo id ops fr st K:=by
 subst hb
 obtain⟨a,a',st',acc',h1,h2,h3,h4⟩:=ud hE h
 exact⟨.normal,a',st',W.outEq (fun Φ hΦ=>W.draw' hE.mixed sup hrel ⟨a,st',acc',h1,h3,hΦ⟩) h2,rfl,h4⟩
def xR (σ:Nat->Nat):Fn->Fn
 | .yield k=> .yield (σ k)
 |f=>f
mutual
def du (σ:Nat->Nat):SVal->SVal
 | .ptr k off=> .ptr (σ k) off
 | .fv k s i off=> .fv (σ k) s i off
 | .own k s=> .own (σ k) s
 | .map k=> .map (σ k)
 | .bR row off=> .bR (cz σ row) off
 | .aK f rows=> .aK f (lR σ rows)
 | .func fn x y=> .func (xR σ fn) (cz σ x) (cz σ y)
 | .iface t v=> .iface t (du σ v)
 | .agg l=> .agg (cz σ l)
 | .dZ l=> .dZ (cz σ l)
 | .bool b=> .bool b
 | .int k n=> .int k n
 | .str s=> .str s
 | .nilPtr=> .nilPtr
 | .aD=> .aD
 | .eJ=> .eJ
 | .fY=> .fY
 | .nilIface=> .nilIface
def cz (σ:Nat->Nat):List SVal->List SVal
 |[]=>[]
 |s::r=>du σ s::cz σ r
def lR (σ:Nat->Nat):List (List SVal)->List (List SVal)
 |[]=>[]
 |row::r=>cz σ row::lR σ r
end
theorem jz (σ:Nat->Nat):∀l:List SVal,(cz σ l).length=l.length
 |[]=>rfl
 |_::r=>W4 (· +1) (jz σ r)
theorem eD (σ:Nat->Nat):∀l:List (List SVal),(lR σ l).length=l.length
 |[]=>rfl
 |_::r=>W4 (· +1) (eD σ r)
theorem CZ {σ:Nat->Nat} {l:List (List SVal)}:lR σ l=[]↔l=[]:=by
 cases l with
 |nil=>exact⟨fun _=>rfl,fun _=>rfl⟩
 |cons a r=>exact⟨(fun h=>by cases h),(fun h=>by cases h)⟩
section
variable {c d:Ctx} {σ:Nat->Nat} {m:Nat} (hρ:∀k,k<m->c.ρ (σ k)=d.ρ k) (hfz:c.fz=d.fz)
include hρ hfz
mutual
theorem Den.du:∀(s:SVal) (v:Value),nb m s=true->(Den c (du σ s) v↔Den d s v)
 | .bool _,_,_=>Xs
 | .int _ _,_,_=>Xs
 | .str _,_,_=>Xs
 | .nilPtr,_,_=>Xs
 | .aD,_,_=>Xs
 | .eJ,_,_=>Xs
 | .fY,_,_=>Xs
 | .nilIface,_,_=>Xs
 | .ptr k off,v,h=>by
  unfold Sv.du Den
  rw[hρ k (Wp h)]
 | .fv k s i off,v,h=>by
  unfold Sv.du Den
  rw[hρ k (Wp h)]
 | .own k s,v,h=>by
  unfold Sv.du Den
  rw[hρ k (Wp h)]
 | .map k,v,h=>by
  unfold Sv.du Den
  rw[hρ k (Wp h)]
 | .bR row off,v,h=>by
  unfold Sv.du Den
  exact⟨fun⟨b,base,h1,h2⟩=>⟨b,base,h1,(b7.du b row base h).1 h2⟩,fun⟨b,base,h1,h2⟩=>⟨b,base,h1,(b7.du b row base h).2 h2⟩⟩
 | .aK full rows,v,h=>by
  unfold Sv.du Den
  rw[CZ,eD]
  constructor
  ·rintro(h1|⟨b,base,size,cap,h1,h2,h3,h4⟩)
   ·exact .inl h1
   ·exact .inr ⟨b,base,size,cap,h1,h2,h3,(bO.du b size rows base h).1 h4⟩
  ·rintro(h1|⟨b,base,size,cap,h1,h2,h3,h4⟩)
   ·exact .inl h1
   ·exact .inr ⟨b,base,size,cap,h1,h2,h3,(bO.du b size rows base h).2 h4⟩
 | .func fn x y,v,h=>by
  rw[nb,Wa,Wa] at h
  have h1:=fun vs=>aQ.du x vs h.1.2
  have h2:=fun vs=>aQ.du y vs h.2
  cases fn
  case yield k=>
   unfold Sv.du xR Den
   show(∃b,c.ρ (σ k)=some (Loc.box b)/\_)↔∃b,d.ρ k=some (Loc.box b)/\_
   rw[hρ k (Wp h.1.1)]
  all_goals
   unfold Sv.du xR Den
   exact⟨fun⟨xs,ys,g1,g2,g3⟩=>⟨xs,ys,(h1 xs).1 g1,(h2 ys).1 g2,g3⟩,fun⟨xs,ys,g1,g2,g3⟩=>⟨xs,ys,(h1 xs).2 g1,(h2 ys).2 g2,g3⟩⟩
 | .iface t s,v,h=>by
  unfold Sv.du Den
  exact⟨fun⟨u,h1,h2⟩=>⟨u,(Den.du s u h).1 h1,h2⟩,fun⟨u,h1,h2⟩=>⟨u,(Den.du s u h).2 h1,h2⟩⟩
 | .agg l,v,h=>by
  unfold Sv.du Den
  exact⟨fun⟨u,h1,h2⟩=>⟨u,(aQ.du l u h).1 h1,h2⟩,fun⟨u,h1,h2⟩=>⟨u,(aQ.du l u h).2 h1,h2⟩⟩
 | .dZ l,v,h=>by
  unfold Sv.du Den
  exact⟨fun⟨u,h1,h2⟩=>⟨u,(aQ.du l u h).1 h1,h2⟩,fun⟨u,h1,h2⟩=>⟨u,(aQ.du l u h).2 h1,h2⟩⟩
theorem aQ.du:∀(l:List SVal) (vs:List Value),cX m l=true->(aQ c (cz σ l) vs↔aQ d l vs)
 |[],vs,_=>Xs
 |s::r,vs,h=>by
  rw[cX,Wa] at h
  unfold cz aQ
  exact⟨fun⟨v,l,h1,h2,h3⟩=>⟨v,l,(Den.du s v h.1).1 h1,(aQ.du r l h.2).1 h2,h3⟩,fun⟨v,l,h1,h2,h3⟩=>⟨v,l,(Den.du s v h.1).2 h1,(aQ.du r l h.2).2 h2,h3⟩⟩
theorem b7.du (b:Nat):∀(row:List SVal) (i:Nat),cX m row=true->(b7 c b (cz σ row) i↔b7 d b row i)
 |[],_,_=>Xs
 |s::r,i,h=>by
  rw[cX,Wa] at h
  unfold cz b7
  rw[hfz]
  exact⟨fun⟨⟨u,h1,h0,h2⟩,h3⟩=>⟨⟨u,h1,h0,(Den.du s u h.1).1 h2⟩,(b7.du b r (i+1) h.2).1 h3⟩,fun⟨⟨u,h1,h0,h2⟩,h3⟩=>⟨⟨u,h1,h0,(Den.du s u h.1).2 h2⟩,(b7.du b r (i+1) h.2).2 h3⟩⟩
theorem bO.du (b size:Nat):∀(rows:List (List SVal)) (i:Nat),js m rows=true->(bO c b size (lR σ rows) i↔bO d b size rows i)
 |[],_,_=>Xs
 |row::r,i,h=>by
  rw[js,Wa] at h
  unfold lR bO
  rw[jz]
  exact⟨fun⟨h1,h2,h3⟩=>⟨h1,(b7.du b row i h.1).1 h2,(bO.du b size r (i+size) h.2).1 h3⟩,fun⟨h1,h2,h3⟩=>⟨h1,(b7.du b row i h.1).2 h2,(bO.du b size r (i+size) h.2).2 h3⟩⟩
end
end
end Sv
namespace Sv
open Go Go.RowKit
def u6 (σ:Nat->Nat):List (SVal×SVal)->List (SVal×SVal)
 |[]=>[]
 |p::r=>(du σ p.1,du σ p.2)::u6 σ r
theorem sh (σ:Nat->Nat):∀l:List (SVal×SVal),(u6 σ l).length=l.length
 |[]=>rfl
 |_::r=>W4 (· +1) (sh σ r)
theorem u5 (σ:Nat->Nat):∀(l:List (SVal×SVal)) (i:Nat),(u6 σ l)[i]? =(l[i]?).map fun p=>(du σ p.1,du σ p.2)
 |[],_=>by simp[u6]
 |p::r,0=>by simp[u6]
 |p::r,i+1=>by simpa[u6] using u5 σ r i
theorem uZ (σ:Nat->Nat):∀(l:List SVal) (i:Nat),(cz σ l)[i]? =(l[i]?).map (du σ)
 |[],_=>by simp[cz]
 |p::r,0=>by simp[cz]
 |p::r,i+1=>by simpa[cz] using uZ σ r i
theorem uY (σ:Nat->Nat):∀(l:List (List SVal)) (i:Nat),(lR σ l)[i]? =(l[i]?).map (cz σ)
 |[],_=>by simp[lR]
 |p::r,0=>by simp[lR]
 |p::r,i+1=>by simpa[lR] using uY σ r i
def xQ (σ:Nat->Nat):List (Nat×SVal)->List (Nat×SVal)
 |[]=>[]
 |p::r=>(p.1,du σ p.2)::xQ σ r
theorem uW (σ:Nat->Nat) (k:Nat):∀t:List (Nat×SVal),bB (xQ σ t) k=(bB t k).map (du σ)
 |[]=>rfl
 |p::r=>by
  show bB ((p.1,du σ p.2)::xQ σ r) k=_
  rw[b9,b9,uW σ k r]
  by_cases h:p.1=k
  ·rw[HP h,HP h];rfl
  ·rw[TP h,TP h]
def fw (σ:Nat->Nat):bo->bo
 | .cells l=> .cells (cz σ l)
 | .still l=> .still (cz σ l)
 | .row m rows s z=> .row m (lR σ rows) s z
 | .map es=> .map (u6 σ es)
 | .loop r=> .loop ⟨⟨r.fr.n,xQ σ r.fr.t⟩,r.ps,r.assign,r.body,r.state,r.lS⟩
 | .lU g l=> .lU g (cz σ l)
def plainO:bo->Bool
 | .loop _=>true
 |_=>true
theorem eT.du {c d:Ctx} {σ:Nat->Nat} {m:Nat} (hρ:∀k,k<m->c.ρ (σ k)=d.ρ k) (hfz:c.fz=d.fz) {o:bo} (hp:plainO o=true) (h:gN m o=true) (l:Loc) (w:World):eT c (fw σ o) l w↔eT d o l w:=by
  cases o with
  |loop r=>
    cases l with
    |row=>exact Xs
    |box b=>
      have hs:∀tmps,mW c ⟨r.fr.n,xQ σ r.fr.t⟩ tmps↔mW d r.fr tmps:=fun tmps=>by
        constructor
        · rintro⟨h1,h2⟩
          refine⟨h1,fun t s hs=> ?_⟩
          obtain⟨v,h3,h4⟩:=h2 t (Sv.du σ s) (by
            show bB (xQ σ r.fr.t) t=_
            rw[uW,show bB r.fr.t t=some s from hs];rfl)
          exact⟨v,h3,(Den.du hρ hfz _ _ (tH h hs)).1 h4⟩
        · rintro⟨h1,h2⟩
          refine⟨h1,fun t s hs=> ?_⟩
          have hs:bB (xQ σ r.fr.t) t=some s:=hs
          rw[uW] at hs
          cases hq:bB r.fr.t t with
          |none=>rw[hq] at hs;cases hs
          |some q=>
            rw[hq] at hs
            cases hs
            obtain⟨v,h3,h4⟩:=h2 t q hq
            exact⟨v,h3,(Den.du hρ hfz _ _ (tH h hq)).2 h4⟩
      show(∃x,_/\sW c _ x)↔∃x,_/\sW d r x
      constructor
      · rintro⟨x,h1,h2⟩
        exact⟨x,h1,⟨(hs _).1 h2.r9,h2.ps,h2.assign,h2.body,h2.state,h2.lS,h2.one,h2.two⟩⟩
      · rintro⟨x,h1,h2⟩
        exact⟨x,h1,⟨(hs _).2 h2.r9,h2.ps,h2.assign,h2.body,h2.state,h2.lS,h2.one,h2.two⟩⟩
  |lU g cs=>
    cases l with
    |box=>exact Xs
    |row ob st sz u=>
      exact⟨fun⟨h0,h3,a,e,f,h4,h1,h2⟩=>⟨h0,h3,a,e,f,h4,h1,(aQ.du hρ hfz cs _ h).1 h2⟩,fun⟨h0,h3,a,e,f,h4,h1,h2⟩=>⟨h0,h3,a,e,f,h4,h1,(aQ.du hρ hfz cs _ h).2 h2⟩⟩
  |cells cs=>
    cases l with
    |row=>exact Xs
    |box b=>
      show(∃arr e,_/\aQ c (cz σ cs) _/\∀i v,c.fz b i≠some v)↔∃arr e,_/\aQ d cs _/\∀i v,d.fz b i≠some v
      rw[hfz]
      exact⟨fun⟨a,e,h1,h2,h3⟩=>⟨a,e,h1,(aQ.du hρ hfz cs _ h).1 h2,h3⟩,fun⟨a,e,h1,h2,h3⟩=>⟨a,e,h1,(aQ.du hρ hfz cs _ h).2 h2,h3⟩⟩
  |still cs=>
    cases l with
    |row=>exact Xs
    |box b=>
      show(∃arr e,_/\aQ c (cz σ cs) _/\∀(i:Nat) (v:Value),arr[i]? =some v->c.fz b i=some v)↔∃arr e,_/\aQ d cs _/\∀(i:Nat) (v:Value),arr[i]? =some v->d.fz b i=some v
      rw[hfz]
      exact⟨fun⟨a,e,h1,h2,h3⟩=>⟨a,e,h1,(aQ.du hρ hfz cs _ h).1 h2,h3⟩,fun⟨a,e,h1,h2,h3⟩=>⟨a,e,h1,(aQ.du hρ hfz cs _ h).2 h2,h3⟩⟩
  |map es=>
    cases l with
    |row=>exact Xs
    |box b=>
      show(∃a e,_/\nc c (u6 σ es) _)↔∃a e,_/\nc d es _
      have:∀l,nc c (u6 σ es) l↔nc d es l:=fun l=>by
        unfold nc
        rw[sh]
        constructor
        · rintro⟨h1,h2⟩
          refine⟨h1,fun i p hp=> ?_⟩
          obtain⟨n1,n2⟩:=tI h (V6 hp)
          obtain⟨e,h3,h4,h5⟩:=h2 i (Sv.du σ p.1,Sv.du σ p.2) (by rw[u5,hp];rfl)
          exact⟨e,h3,(Den.du hρ hfz _ _ n1).1 h4,(Den.du hρ hfz _ _ n2).1 h5⟩
        · rintro⟨h1,h2⟩
          refine⟨h1,fun i p hp=> ?_⟩
          rw[u5] at hp
          cases hq:es[i]? with
          |none=>rw[hq] at hp;cases hp
          |some q=>
            rw[hq] at hp
            cases hp
            obtain⟨n1,n2⟩:=tI h (V6 hq)
            obtain⟨e,h3,h4,h5⟩:=h2 i q hq
            exact⟨e,h3,(Den.du hρ hfz _ _ n1).2 h4,(Den.du hρ hfz _ _ n2).2 h5⟩
      exact⟨fun⟨a,e,h1,h2⟩=>⟨a,e,h1,(this _).1 h2⟩,fun⟨a,e,h1,h2⟩=>⟨a,e,h1,(this _).2 h2⟩⟩
  |row m' rows s z=>
    cases l with
    |box=>exact Xs
    |row ob st sz u=>
      have hel:∀arr,ez c (lR σ rows) sz arr↔ez d rows sz arr:=fun arr=>by
        unfold ez
        constructor
        · intro h1 i row hr
          obtain⟨h2,h3⟩:=h1 i (cz σ row) (by rw[uY,hr];rfl)
          have hn:=tF h (V6 hr)
          refine⟨by rw[jz] at h2;exact h2,fun j s hs=> ?_⟩
          obtain⟨v,h4,h5,h6⟩:=h3 j (Sv.du σ s) (by rw[uZ,hs];rfl)
          exact⟨v,h4,h5,(Den.du hρ hfz _ _ (tG hn (V6 hs))).1 h6⟩
        · intro h1 i row hr
          rw[uY] at hr
          cases hq:rows[i]? with
          |none=>rw[hq] at hr;cases hr
          |some q=>
            rw[hq] at hr
            cases hr
            obtain⟨h2,h3⟩:=h1 i q hq
            have hn:=tF h (V6 hq)
            refine⟨by rw[jz];exact h2,fun j s hs=> ?_⟩
            rw[uZ] at hs
            cases ht:q[j]? with
            |none=>rw[ht] at hs;cases hs
            |some t=>
              rw[ht] at hs
              cases hs
              obtain⟨v,h4,h5,h6⟩:=h3 j t ht
              exact⟨v,h4,h5,(Den.du hρ hfz _ _ (tG hn (V6 ht))).2 h6⟩
      have hin:∀b arr e cap,Jx c (lR σ rows) z b sz u w arr e cap↔Jx d rows z b sz u w arr e cap:=fun b arr e cap=>
        ⟨fun h1=>⟨by rw[<-eD σ rows];exact h1.val,h1.cells,h1.size,by rw[<-eD σ rows];exact h1.fits,(hel arr).1 h1.elems,fun i v hv=>by rw[<-eD σ rows];exact h1.fz i v (by rw[hfz];exact hv)⟩,
         fun h1=>⟨by rw[eD σ rows];exact h1.val,h1.cells,h1.size,by rw[eD σ rows];exact h1.fits,(hel arr).2 h1.elems,fun i v hv=>by rw[eD σ rows];exact h1.fz i v (by rw[<-hfz];exact hv)⟩⟩
      cases ob with
      |none=>
        show(st=s/\sz=m'/\lR σ rows=[]/\_)↔(st=s/\sz=m'/\rows=[]/\_)
        rw[CZ]
      |some b=>
        exact⟨fun⟨h1,h2,a,e,cap,h3⟩=>⟨h1,h2,a,e,cap,(hin _ _ _ _).1 h3⟩,fun⟨h1,h2,a,e,cap,h3⟩=>⟨h1,h2,a,e,cap,(hin _ _ _ _).2 h3⟩⟩
def tc:Nat->List bo->Hp
 |_,[]=>[]
 |i,o::r=>(i,o)::tc (i+1) r
theorem jk:∀(l:List bo) (i n:Nat),bB (tc i l) n=if i<=n then l[n-i]? else none
 |[],i,n=>by split<;>rfl
 |o::r,i,n=>by
  rw[tc,b9,jk r (i+1) n]
  by_cases e:i=n
  ·subst e;simp
  ·rw[TP e]
   by_cases h:i<=n
   ·rw[HP ii,HP h]
    have:n-i=(n-(i+1))+1:=by omega
    rw[this];simp
   ·rw[TP ii,TP h]
def gH (objs:List bo):St:=⟨tc 0 objs,objs.length,0,[],[]⟩
theorem eI (objs:List bo) (n:Nat):(gH objs).look n=objs[n]? :=by
 show bB (tc 0 objs) n=_
 rw[jk,HP (Wd _)]
 rfl
structure xi (P:Program) (f:FuncId) (objs:List bo) (args:List SVal) (s:SVal) (objs':List bo):Prop where
 sem:hJ P f args (gH objs) s (gH objs')
 len:objs'.length=objs.length
 po:∀o∈objs,plainO o=true/\gN objs.length o=true
 po':∀o∈objs',plainO o=true/\gN objs.length o=true
 na:cX objs.length args=true
 ns:nb objs.length s=true
noncomputable def hU (σ:Nat->Nat):List Nat->List bo->St->St
 |k::ks,o::os,st=>hU σ ks os (st.put k (fw σ o))
 |_,_,st=>st
theorem nE {st:St} {k:Nat} {o o1:bo} (hk:st.look k=some o1) (n:Nat):(st.put k o).look n=if n=k then some o else st.look n:=by
 have hb:ck k st.cE=false:=by
  rw[look_eq] at hk
  cases hb:ck k st.cE with
  |false=>rfl
  |true=>rw[hb] at hk;cases hk
 rw[look_eq,look_eq]
 show(if ck n st.cE=true then none else bB (st.put k o).heap n)=_
 rw[nF]
 by_cases e:n=k
 ·subst e
  rw[hb,HP rfl,HP rfl]
  rfl
 ·rw[TP e,TP e]
theorem nD {σ:Nat->Nat}:∀{ks:List Nat} {os:List bo} {st:St},ks.length=os.length->ks.Nodup->(∀k∈ks,∃o,st.look k=some o)->
  eS st (hU σ ks os st)/\(hU σ ks os st).next=st.next/\(∀n,n∉ks->(hU σ ks os st).look n=st.look n)/\∀(i k:Nat) (o:bo),ks[i]? =some k->os[i]? =some o->(hU σ ks os st).look k=some (fw σ o)
 |[],[],st,_,_,_=>⟨eS.refl _,rfl,fun _ _=>rfl,fun i k o h _=>by simp at h⟩
 |[],_::_,st,h,_,_=>by simp at h
 |_::_,[],st,h,_,_=>by simp at h
 |k::ks,o::os,st,hl,hn,hk=>by
  obtain⟨o1,h1⟩:=hk k (.head _)
  rw[Yd] at hn
  have hlk:=nE (o:=fw σ o) h1
  obtain⟨g1,g2,g3,g4⟩:=nD (σ:=σ) (ks:=ks) (os:=os) (st:=st.put k (fw σ o)) (by simpa using hl) hn.2 fun n hmem=>by
   rw[hlk]
   split
   ·exact⟨_,rfl⟩
   ·exact hk n (.tail _ hmem)
  refine⟨(dA _ h1).trans g1,g2,fun n hmem=> ?_,fun i n o' hi ho=> ?_⟩
  ·rw[V9,not_or] at hmem
   show(hU σ ks os (st.put k (fw σ o))).look n=_
   rw[g3 n hmem.2,hlk,TP hmem.1]
  ·show(hU σ ks os (st.put k (fw σ o))).look n=_
   cases i with
   |zero=>
    simp at hi ho
    subst hi ho
    rw[g3 k hn.1,hlk,HP rfl]
   |succ i=>exact g4 i n o' (by simpa using hi) (by simpa using ho)
end Sv
