/- For ConcreteOnly and ConcreteBack: values of data, their only instance. -/
import Derived.Test.YtaagahmkmcnhaaaGreatDoorNd
set_option linter.unusedVariables false
set_option linter.unusedSimpArgs false
set_option linter.unusedSectionVars false
namespace Go.Proofs.YtaagahmkmcnhaaaGreatDoor
open Sv
theorem N2 {a:List Bool}:∀{n c:Nat} {out o:List Int},Nd a n c out=some o->∀x∈o,x∈out\/((c:Int)<=x/\x<c+n):=by
 intro n
 induction n with
 |zero=>
  intro c out o h
  cases h
  exact fun x hx=> .inl hx
 |succ n ih=>
  intro c out o h
  have e1:((c:Int)+1)=((c+1:Nat):Int):=by omega
  unfold Nd at h
  obtain⟨j,x,hj,_,hx,h⟩:=gS h
  cases x with
  |true=>
   rw[Th rfl] at h
   obtain⟨_,h⟩:=ah h
   obtain⟨_,h⟩:=ay h
   rw[e1] at h
   intro y hy
   rcases ih h y hy with g|g
   ·rcases Tz.1 g with g|g
    ·exact .inl g
    ·rw[To.1 g]
     exact .inr ⟨TM _,by omega⟩
   ·exact .inr ⟨by omega,by omega⟩
  |false=>
   rw[Ti (by decide),e1] at h
   intro y hy
   rcases ih h y hy with g|g
   ·exact .inl g
   ·exact .inr ⟨by omega,by omega⟩
theorem D0 {c:aM Va} {v bs:List Int} (e:oI c v=some bs):∀x∈bs,0<=x/\x<256:=by
 unfold oI at e
 obtain⟨_,e⟩:=ah e
 obtain⟨a1,_,e⟩:=aa e
 obtain⟨_,e⟩:=ah e
 obtain⟨a2,_,e⟩:=aa e
 intro x hx
 rcases N2 (c:=0) e x hx with g|g
 ·cases g
 ·omega
structure M5 (P:List Int->Prop) (todo:List (List Int)) (seen:List (List UInt8×Unit)) (vs:List (List Int)):Prop where
 nd:vs.Nodup
 ok:∀v∈vs,P v
 td:∀v∈todo,P v
 kn:∀v∈vs,∀k,zX v=some k->cH k seen≠none
 le:todo.length<=vs.length
section
variable {n:Nat} (hn:n<1000000000) {c:aM Va} (hc:SCk n c) {P:List Int->Prop} {B:Nat} (hP:∀v,P v->Qf c v) (hS:∀v b u,P v->0<=b->b<256->AF c v b=some u->P u) (hB:∀vs:List (List Int),vs.Nodup->(∀v∈vs,P v)->vs.length<=B) (hB0:B<500000000)
include hn hc hP hS hB hB0
theorem vF {v:List Int} (hv:P v):∀{bs:List Int} {todo:List (List Int)} {seen:List (List UInt8×Unit)} {vs:List (List Int)},(∀b∈bs,0<=b/\b<256)->M5 P todo seen vs->bu (C2 c v bs todo seen) fun p=>∃vs',M5 P p.1 p.2 vs'/\vs'.length+todo.length=vs.length+p.1.length
 |[],todo,seen,vs,_,h=>aj ⟨vs,h,rfl⟩
 |b::r,todo,seen,vs,hb,h=>by
  have hb':=fun x hx=>hb x (Tm b hx)
  obtain⟨w,hw,hwok⟩:=Dq hn hc (hP v hv) (b:=b)
  have hwP:=hS v b w hv (hb b (Tn ..)).1 (hb b (Tn ..)).2 hw
  unfold C2
  rw[hw,HP]
  obtain⟨k,hk,_⟩:=hwok.key hn hc
  rw[hk,HP]
  split
  ·exact vF hv hb' h
  ·rename_i hf
   have hle:=hB vs h.nd h.ok
   have htd:=h.le
   have hnew:∀x∈vs,x≠w:=fun x hx e=>h.kn x hx k (by rw[e];exact hk) hf
   have h':M5 P (todo++[w]) (seen++[(k,())]) (vs++[w]):=by
    refine⟨?_,fun x hx=> ?_,fun x hx=> ?_,fun x hx k' hk'=> ?_,by simp;omega⟩
    ·rw[U8]
     exact⟨h.nd,by simp,fun x hx y hy=>by rw[To.1 hy];exact hnew x hx⟩
    ·rcases Tz.1 hx with hx|hx
     ·exact h.ok x hx
     ·rw[To.1 hx];exact hwP
    ·rcases Tz.1 hx with hx|hx
     ·exact h.td x hx
     ·rw[To.1 hx];exact hwP
    ·rcases Tz.1 hx with hx|hx
     ·have:=h.kn x hx k' hk'
      cases hq:cH k' seen with
      |none=>exact absurd hq this
      |some u=>rw[vc hq];exact fun e=>by cases e
     ·rw[To.1 hx,hk] at hk'
      cases hk'
      rw[qk hf]
      exact fun e=>by cases e
   refine b7 ii ((vF hv (bs:=r) hb' h').mono fun p ⟨vs',q1,q2⟩=>⟨vs',q1,?_⟩)
   rw[Tt,Tt,TQ] at q2
   omega
theorem C1 (hH:∀v,P v->IJ c v=some 1):∀{f:Nat} {todo:List (List Int)} {seen:List (List UInt8×Unit)} {vs:List (List Int)},M5 P todo seen vs->B+1+todo.length<=f+vs.length->EU c f todo seen=some true
 |0,todo,seen,vs,h,hf=>by
  have:=hB vs h.nd h.ok
  omega
 |f+1,todo,seen,vs,h,hf=>by
  have hle:=hB vs h.nd h.ok
  have htd:=h.le
  unfold EU
  rw[aP ii]
  by_cases h0:(todo.length:Int)>0
  ·rw[Th h0]
   obtain⟨v,hv⟩:∃v,todo[todo.length-1]? =some v:=⟨_,Tj ii⟩
   have hvP:=h.td v (Ts hv)
   obtain⟨bs,hbs,_⟩:=tG hc (hP v hvP)
   have hbl:bs.length<=1000000000:=by
    obtain⟨bs',e1,e2⟩:=tG hc (hP v hvP)
    rw[hbs] at e1
    cases e1
    omega
   rw[show(todo.length:Int)-1=((todo.length-1:Nat):Int) by omega,cz hv,hH v hvP,HP,Th rfl,hbs,HP,aP hbl]
   have hl:(todo.take (todo.length-1)).length=todo.length-1:=by rw[VV];omega
   have h':M5 P (todo.take (todo.length-1)) seen vs:=⟨h.nd,h.ok,fun x hx=>h.td x (List.mem_of_mem_take hx),h.kn,by omega⟩
   obtain⟨p,hp,vs',q1,q2⟩:=vF hn hc hP hS hB hB0 hvP (D0 hbs) h'
   rw[hp,HP]
   exact C1 hH q1 ii
  ·rw[Ti h0]
end
theorem nk_ac {n:Nat} {k:dH Va} (h:Gd n k.set) {s:Int} {b:UInt8} (w:List UInt8):l4 k.set (nk k s b.toNat) w=l4 k.set s (b::w):=by
 unfold nk
 by_cases g:s<0
 ·rw[Th g]
  unfold l4
  rw[Th ii,Th g]
 ·rw[Ti g]
  have e2:l4 k.set s (b::w)=ac k.set (dl k.set s.toNat b.toNat) w:=by
   unfold l4
   rw[Ti g]
   rfl
  rw[e2]
  cases hx:k.set[s.toNat]? with
  |none=>
   have hd:dl k.set s.toNat b.toNat=k.set.length:=by
    unfold dl
    rw[hx]
   rw[hd,gw (Tp _)]
   rfl
  |some x=>
   have hw':=h.wf x (Ts hx)
   have hd:dl k.set s.toNat b.toNat=(fZ b.toNat x.aF k.set.length).toNat:=by
    unfold dl
    rw[hx]
   rw[hd]
   show l4 k.set (fZ b.toNat x.aF (-1)) w=_
   by_cases hb:∃y,Na x.aF b.toNat y
   ·obtain⟨y,hy⟩:=hb
    rw[s8 hw' hy,s8 hw' hy]
    obtain⟨e,he,_,_,hey⟩:=hy
    have:=(hw'.one e he).2.1
    unfold l4
    rw[Ti ii]
   ·rw[uZ fun y hy=>hb ⟨y,hy⟩,uZ fun y hy=>hb ⟨y,hy⟩,T9,gw (Tp _)]
    rfl
structure Dw (c:aM Va) (k:dH Va):Prop where
 one:c.az=[k]
 vl:VL 20000 k.set
 mA:∀w:List UInt8,ac k.set 0 w=true↔∀f∈c.fields,f.label≠w
 fl:c.fields.length<=100
 Np:∀f∈c.fields,f.label.length<=80
 xa:c.fields.Pairwise fun x y=>Op.bytesLess x.label y.label=true
theorem Dw.sck {c:aM Va} {k:dH Va} (h:Dw c k):SCk 20000 c:=⟨by rw[h.one];show(1:Nat)<=100;omega,h.fl,fun x hx=>by rw[h.one] at hx;rw[To.1 hx];exact h.vl.gd,h.Np⟩
structure rF (c:aM Va) (k:dH Va) (u:List UInt8) (v:List Int):Prop where
 ok:Qf c v
 cls:∃s,v[0]? =some s/\∀w,l4 k.set s w=ac k.set 0 (u++w)
 fld:∀(j:Nat) (f:dO Va),c.fields[j]? =some f->v[1+j]? =some (if u<+:f.label then(u.length:Int) else -1)
theorem Qc {c:aM Va} {v u:List Int} {b:Int} (hv:v.length=c.az.length+c.fields.length) (e:AF c v b=some u):u.length=v.length/\(∀(q:Nat) (k:dH Va) (s:Int),c.az[q]? =some k->v[q]? =some s->u[q]? =some (nk k s b))/\∀(q:Nat) (f:dO Va) (n:Int),c.fields[q]? =some f->v[c.az.length+q]? =some n->u[c.az.length+q]? =some (Nk f n b):=by
 unfold AF at e
 obtain⟨_,e⟩:=ah e
 obtain⟨o1,h1,e⟩:=aa e
 obtain⟨_,e⟩:=ah e
 obtain⟨o2,h2,e⟩:=aa e
 obtain⟨_,e⟩:=ah e
 obtain⟨o1',h1',h1''⟩:=AG (n:=v.length) (i:=0) (out:=List.replicate v.length 0) (by simp)
 rw[show((0:Nat):Int)=0 from rfl,h1] at h1'
 cases h1'
 have ho1:o1=List.replicate v.length (-1):=by rw[h1''];rfl
 have hat:∀p,p<v.length->o1[p]? =some (-1):=fun p hp=>by rw[ho1,Uk,Th hp]
 obtain⟨a1,a2,a3⟩:=MW (i:=0) (fun p _ hp=>hat p ii) h2
 obtain⟨b1,b2,b3⟩:=MX (m:=c.az.length) (i:=0) (fun p hp1 hp2=>by rw[a2 p (.inr ii)];exact hat p ii) e
 have hlen:u.length=v.length:=by rw[b1,a1,ho1,Ty]
 refine⟨hlen,fun q k s hk hs=> ?_,fun q f n hf hn=> ?_⟩
 ·have hq:q<c.az.length:=(Tk.1 hk).1
  obtain⟨t,ht⟩:∃t,u[q]? =some t:=⟨_,Tj ii⟩
  rw[ht]
  rw[b2 q ii] at ht
  rw[a3 q k s t hk (by rw[Ue];exact hs) (by rw[Ue];exact ht)]
 ·have hq:q<c.fields.length:=(Tk.1 hf).1
  obtain⟨t,ht⟩:∃t,u[c.az.length+q]? =some t:=⟨_,Tj ii⟩
  rw[ht,b3 q f n t hf (by rw[Ur];exact hn) (by rw[Ur];exact ht)]
theorem pT {u l:List UInt8} {b:UInt8}:(u++[b]<+:l)↔u<+:l/\l[u.length]? =some b:=by
 constructor
 ·rintro⟨t,rfl⟩
  refine⟨⟨b::t,by simp⟩,by simp⟩
 ·rintro⟨⟨t,rfl⟩,h⟩
  cases t with
  |nil=>simp at h
  |cons x t=>
   simp at h
   subst h
   exact⟨t,by simp⟩
theorem rF.step {c:aM Va} {k:dH Va} (h:Dw c k) {u:List UInt8} {v w:List Int} {b:UInt8} (hv:rF c k u v) (e:AF c v b.toNat=some w):rF c k (u++[b]) w:=by
 have hlen:=hv.ok.len
 have h1:c.az.length=1:=by rw[h.one];rfl
 obtain⟨e1,e2,e3⟩:=Qc hlen e
 obtain⟨w',hw',hok⟩:=Dq ii h.sck hv.ok (b:=b.toNat)
 rw[e] at hw'
 cases hw'
 obtain⟨s,s1,s2⟩:=hv.cls
 refine⟨hok,⟨nk k s b.toNat,e2 0 k s (by rw[h.one];rfl) s1,fun t=> ?_⟩,fun j f hf=> ?_⟩
 ·rw[nk_ac h.vl.gd,s2,TP]
  rfl
 ·have hn:=hv.fld j f hf
  have:=e3 j f _ hf (by rw[h1];exact hn)
  rw[h1] at this
  rw[this]
  congr 1
  unfold Nk
  by_cases g:u<+:f.label
  ·rw[Th g,Th ii,T9]
   cases hy:f.label[u.length]? with
   |none=>
    rw[Ti fun z=>by rw[(pT.1 z).2] at hy;cases hy]
   |some y=>
    show(if(y.toNat:Int)=b.toNat then(u.length:Int)+1 else -1)=_
    by_cases z:y=b
    ·subst z
     rw[Th rfl,Th (pT.2 ⟨g,hy⟩),Tt,TQ]
     omega
    ·rw[Ti fun q=>z (UInt8.toNat_inj.1 ii),Ti fun q=>z (by have:=(pT.1 q).2;rw[hy] at this;exact TD this)]
  ·rw[Ti g,Ti ii,Ti fun z=>g (pT.1 z).1]
theorem rF.start {c:aM Va} {k:dH Va} (h:Dw c k) (hne:0<k.set.length):rF c k [] (List.replicate (c.az.length+c.fields.length) 0):=by
 have h1:c.az.length=1:=by rw[h.one];rfl
 refine⟨⟨List.replicate c.az.length 0,List.replicate c.fields.length 0,0,by rw[VR],VK.zero fun x hx=>by rw[h.one] at hx;rw[To.1 hx];exact hne,by omega,VF.start⟩,⟨0,by rw[Uk,Th ii],fun w=>rfl⟩,fun j f hf=> ?_⟩
 have:=(Tk.1 hf).1
 rw[Uk,Th ii,Th (List.nil_prefix)]
 rfl
theorem Dw.Se {c:aM Va} {k:dH Va} (h:Dw c k) (u:List UInt8):∃w,ac k.set 0 (u++w)=true:=by
 refine⟨List.replicate 81 0,(h.mA _).2 fun f hf e=> ?_⟩
 have:=h.Np f hf
 rw[e,Tt,Ty] at this
 omega
theorem rF.uniq {c:aM Va} {k:dH Va} (h:Dw c k) {u u':List UInt8} {v v':List Int} (hv:rF c k u v) (hv':rF c k u' v') (e1:∀w:List UInt8,ac k.set 0 (u++w)=ac k.set 0 (u'++w)) (e2:∀f∈c.fields,(if u<+:f.label then(u.length:Int) else -1)=if u'<+:f.label then(u'.length:Int) else -1):v=v':=by
 have h1:c.az.length=1:=by rw[h.one];rfl
 have l1:=hv.ok.len
 have l2:=hv'.ok.len
 obtain⟨s,s1,s2⟩:=hv.cls
 obtain⟨s',s3,s4⟩:=hv'.cls
 refine Vc fun i=> ?_
 cases i with
 |zero=>
  obtain⟨w,hw⟩:=h.Se u
  have g1:l4 k.set s w=true:=by rw[s2,hw]
  have g2:l4 k.set s' w=true:=by rw[s4,<-e1,hw]
  have pos:∀{t:Int},l4 k.set t w=true->0<=t/\t.toNat<k.set.length:=fun{t} g=>by
   unfold l4 at g
   by_cases z:t<0
   ·rw[Th z] at g;cases g
   ·rw[Ti z] at g
    refine⟨by omega,?_⟩
    rcases TX t.toNat k.set.length with y|y
    ·exact y
    ·rw[gw y] at g;cases g
  obtain⟨p1,p2⟩:=pos g1
  obtain⟨p3,p4⟩:=pos g2
  have:=(h.vl.J4 ii).2 s.toNat s'.toNat p2 p4 fun x=>by
   have a:=s2 x
   have b:=s4 x
   unfold l4 at a b
   rw[Ti ii] at a b
   rw[a,b,e1]
  rw[s1,s3,show s=s' by omega]
 |succ i=>
  rcases TX i c.fields.length with g|g
  ·have a:=hv.fld i _ (Tj g)
   have b:=hv'.fld i _ (Tj g)
   rw[Nat.add_comm] at a b
   rw[a,b,e2 _ (TT g)]
  ·rw[T2 ii,T2 ii]
theorem Dw.few {c:aM Va} {k:dH Va} (h:Dw c k) (vs:List (List Int)) (hnd:vs.Nodup) (hP:∀v∈vs,∃u,rF c k u v):vs.length<=c.fields.length*81+1:=by
 have hbl:=vS (n:=80) (W:=c.fields.map (·.label)) fun w hw=>by
  obtain⟨f,hf,rfl⟩:=T4.1 hw
  exact h.Np f hf
 rw[Tr] at hbl
 have hex:∃g:List Int->List UInt8,∀v∈vs,rF c k (g v) v:=⟨fun v=>if z:v∈vs then(hP v z).choose else[],fun v z=>by
  simp only[z,VH]
  exact(hP v z).choose_spec⟩
 obtain⟨g,hg⟩:=hex
 have out:∀u,u∉ph (c.fields.map (·.label))->(∀w,ac k.set 0 (u++w)=true)/\∀f∈c.fields,¬u<+:f.label:=fun u hu=>⟨fun w=>(h.mA _).2 fun f hf e=>hu (qA (v:=w) (by rw[<-e];exact T4.2 ⟨f,hf,rfl⟩)),fun f hf ⟨t,e⟩=>hu (qA (v:=t) (by rw[e];exact T4.2 ⟨f,hf,rfl⟩))⟩
 have hp:=uo (m:=vs.length) (n:=(ph (c.fields.map (·.label))).length+1) (fun i=>(ph (c.fields.map (·.label))).idxOf (g (vs.getD i []))) (fun i hi=>by
  have:=List.idxOf_le_length (a:=g (vs.getD i [])) (l:=ph (c.fields.map (·.label)))
  omega) fun i j hi hj e=>by
  have gi:vs.getD i []=vs[i]:=b9 (Tj hi)
  have gj:vs.getD j []=vs[j]:=b9 (Tj hj)
  have vi:=hg _ (TT hi)
  have vj:=hg _ (TT hj)
  have e:(ph (c.fields.map (·.label))).idxOf (g (vs.getD i []))=(ph (c.fields.map (·.label))).idxOf (g (vs.getD j [])):=e
  rw[gi,gj] at e
  have heq:vs[i]=vs[j]:=by
   by_cases a:g vs[i]∈ph (c.fields.map (·.label))
   ·by_cases b:g vs[j]∈ph (c.fields.map (·.label))
    ·have e1:=US (TY.2 a)
     have e2:=US (TY.2 b)
     have:g vs[i]=g vs[j]:=by
      rw[<-e1,<-e2]
      simp only[e]
     rw[<-this] at vj
     exact vi.uniq h vj (fun _=>rfl) fun _ _=>rfl
    ·have a1:=TY.2 a
     have a2:¬(ph (c.fields.map (·.label))).idxOf (g vs[j])<_:=fun x=>b (TY.1 x)
     omega
   ·by_cases b:g vs[j]∈ph (c.fields.map (·.label))
    ·have a1:=TY.2 b
     have a2:¬(ph (c.fields.map (·.label))).idxOf (g vs[i])<_:=fun x=>a (TY.1 x)
     omega
    ·obtain⟨x1,x2⟩:=out _ a
     obtain⟨y1,y2⟩:=out _ b
     exact vi.uniq h vj (fun w=>by rw[x1,y1]) fun f hf=>by rw[Ti (x2 f hf),Ti (y2 f hf)]
  rcases U0 i j with z|z|z
  ·exact absurd heq (T5.1 hnd i j hi hj z)
  ·exact z
  ·exact absurd heq.symm (T5.1 hnd j i hj hi z)
 omega
theorem GZ {u:List UInt8}:∀{l:List (dO Va)},(l.Pairwise fun x y=>Op.bytesLess x.label y.label=true)->(l.countP fun f=>decide (f.label=u))=if∃f∈l,f.label=u then 1 else 0
 |[],_=>by simp
 |x::r,h=>by
  have h':=TW.1 h
  have ih:=GZ (u:=u) h'.2
  rw[UH,ih]
  by_cases g:x.label=u
  ·have hno:¬∃f∈r,f.label=u:=fun⟨f,hf,e⟩=>by
    have:=h'.1 f hf
    rw[g,e,fV] at this
    cases this
   rw[Ti hno,Th (Uc g),Th ⟨x,Tn ..,g⟩]
  ·rw[Uf g,Ti nf]
   by_cases z:∃f∈r,f.label=u
   ·obtain⟨f,hf,e⟩:=z
    rw[Th ⟨f,hf,e⟩,Th ⟨f,Tm _ hf,e⟩]
   ·have hno:¬∃f∈x::r,f.label=u:=fun⟨f,hf,e⟩=>by
     rcases Tv.1 hf with rfl|hf
     ·exact g e
     ·exact z ⟨f,hf,e⟩
    rw[Ti z,Ti hno]
theorem Cq {v:List Int} {m:Nat} {u:List UInt8}:∀{fs:List (dO Va)} {i n:Nat},(∀(j:Nat) (f:dO Va),fs[j]? =some f->v[m+i+j]? =some (if u<+:f.label then(u.length:Int) else -1))->(∀f∈fs,f.label.length<=80)->n+fs.length<=1000->rj v m fs i n=some ((n+fs.countP fun f=>decide (f.label=u):Nat):Int)
 |[],i,n,_,_,_=>rfl
 |f::r,i,n,h,hl,hn=>by
  rw[Tu] at hn
  have e1:((i:Int)+1)=((i+1:Nat):Int):=by omega
  have e2:((n:Int)+1)=((n+1:Nat):Int):=by omega
  have h0:=h 0 f rfl
  have hlf:=hl f (Tn ..)
  rw[Ur] at h0
  have ih:∀{n':Nat},n'+r.length<=1000->rj v m r ((i+1:Nat):Int) n'=some ((n'+r.countP fun f=>decide (f.label=u):Nat):Int):=fun{n'} hn'=>Cq (fun j g hg=>by
   have:=h (j+1) g (by simpa using hg)
   rwa [show m+i+(j+1)=m+(i+1)+j by omega] at this) (fun g hg=>hl g (Tm _ hg)) hn'
  unfold rj
  rw[show(m:Int)+(i:Int)=((m+i:Nat):Int) by omega,cz h0,aP ii,e1,e2,UH]
  have key:(if u<+:f.label then(u.length:Int) else -1)=(f.label.length:Int)↔f.label=u:=by
   by_cases g:u<+:f.label
   ·rw[Th g]
    exact⟨fun e=>(g.eq_of_length ii).symm,fun e=>by rw[e]⟩
   ·rw[Ti g]
    exact⟨fun e=>by omega,fun e=>(g (by rw[e];exact List.prefix_refl u)).elim⟩
  by_cases g:f.label=u
  ·rw[Th (key.2 g),aP ⟨by omega,by omega⟩,ih ii,Th (Uc g)]
   congr 2
   omega
  ·rw[Ti fun z=>g (key.1 z),ih ii,Uf g,Ti nf,Ur]
theorem Dw.hit1 {c:aM Va} {k:dH Va} (h:Dw c k) {u:List UInt8} {v:List Int} (hv:rF c k u v):IJ c v=some 1:=by
 have h1:c.az.length=1:=by rw[h.one];rfl
 have hfl:=h.fl
 obtain⟨s,s1,s2⟩:=hv.cls
 obtain⟨w,hw⟩:=h.Se u
 have g1:l4 k.set s w=true:=by rw[s2,hw]
 have hs0:0<=s:=by
  unfold l4 at g1
  by_cases z:s<0
  ·rw[Th z] at g1;cases g1
  ·omega
 have hsl:s.toNat<k.set.length:=by
  unfold l4 at g1
  rw[Ti ii] at g1
  rcases TX s.toNat k.set.length with y|y
  ·exact y
  ·rw[gw y] at g1;cases g1
 obtain⟨x,hx⟩:∃x,k.set[s.toNat]? =some x:=⟨_,Tj hsl⟩
 have hacc:x.acc=ac k.set 0 u:=by
  have:=s2 []
  unfold l4 at this
  rw[Ti ii,TK] at this
  rw[<-this]
  unfold ac
  rw[hx]
 have es:s=(s.toNat:Int):=by omega
 have hF:∀n:Nat,n<=1->rj v (c.az.length:Int) c.fields 0 (n:Int)=some ((n+c.fields.countP fun f=>decide (f.label=u):Nat):Int):=fun n hn=>Cq (i:=0) (fun j f hf=>by rw[h1,Ur];exact hv.fld j f hf) h.Np ii
 rw[GZ h.xa] at hF
 have hK:qd v [k] 0 0=some (if ac k.set 0 u then 1 else 0):=by
  unfold qd
  rw[oA s1,Th hs0,oA s1,es,P4,hx,HP,hacc]
  unfold qd
  cases ac k.set 0 u with
  |true=>rw[Th rfl,Th rfl,aP ⟨by omega,by omega⟩];rfl
  |false=>rw[Ti nf,Ti nf]
 have hc1:(([k]:List (dH Va)).length:Int)=(c.az.length:Int):=by rw[h.one]
 unfold IJ
 rw[aP ii]
 show((qd v c.az 0 0).bind fun n=>(aN c.fields).bind fun _=>rj v c.az.length c.fields 0 n)=_
 rw[h.one,hK,HP,aP ii,hc1]
 by_cases g:∃f∈c.fields,f.label=u
 ·have hn:ac k.set 0 u=false:=by
   cases z:ac k.set 0 u with
   |false=>rfl
   |true=>
    obtain⟨f,hf,e⟩:=g
    exact((h.mA u).1 z f hf e).elim
  rw[hn,Ti nf]
  have:=hF 0 ii
  rw[Th g] at this
  exact this
 ·have hn:ac k.set 0 u=true:=(h.mA u).2 fun f hf e=>g ⟨f,hf,e⟩
  rw[hn,Th rfl]
  have:=hF 1 ii
  rw[Ti g] at this
  exact this
theorem Dw.fit {c:aM Va} {k:dH Va} (h:Dw c k):Mn c=some true:=by
 have h1:c.az.length=1:=by rw[h.one];rfl
 have hfl:=h.fl
 have hne:0<k.set.length:=by
  rcases Ui k.set.length with z|z
  ·obtain⟨w,hw⟩:=h.Se []
   rw[TH.1 z,eI] at hw
   cases hw
  ·exact z
 have hs:=rF.start h hne
 obtain⟨key,hk,_⟩:=hs.ok.key ii h.sck
 have hkl:=h.vl.gd.len
 unfold Mn
 rw[aP ii,h.one]
 unfold EV
 rw[aP ii,Ti ii,h.vl.ok,HP,Th rfl]
 unfold EV SC
 rw[aP ii,aP ii,aP ii,hk,HP]
 refine C1 ii h.sck (P:=fun v=>∃u,rF c k u v) (B:=c.fields.length*81+1) (fun v ⟨u,hv⟩=>hv.ok) (fun v b w ⟨u,hv⟩ b0 b1 e=>⟨u++[UInt8.ofNat b.toNat],hv.step h (by rw[qa b0 b1];exact e)⟩) (fun vs h1 h2=>h.few vs h1 h2) ii (fun v ⟨u,hv⟩=>h.hit1 hv) (vs:=[List.replicate (c.az.length+c.fields.length) 0]) ⟨by simp,fun x hx=>by rw[To.1 hx];exact⟨[],hs⟩,fun x hx=>by rw[To.1 hx];exact⟨[],hs⟩,fun x hx k' hk'=> ?_,Tp _⟩ (by unfold G2;simp only[TQ];omega)
 rw[To.1 hx,hk] at hk'
 cases hk'
 simp[cH]
set_option maxRecDepth 100000
theorem Rw {n:Nat} {a b:List ba} (ha:VL n a) (hb:VL n b) (hn:n<=20000):∃r,Im a b=some r/\VL 500000000 r/\∀w:List UInt8,ac r 0 w=(ac a 0 w||ac b 0 w):=by
 have h1:=ha.gd.len
 have h2:=hb.gd.len
 have hpn:mi a b<=500000000:=by
  have:(a.length+2)*(b.length+2)<=20002*20002:=UI ii ii
  unfold mi
  omega
 unfold Im
 by_cases g1:a=[]
 ·subst g1
  obtain⟨r,e1,e2⟩:=lk hb.gd.toAB ii
  subst e2
  rw[Th (show(([]:List ba).length:Int)=0 from rfl),hb.lQ,HP,e1]
  exact⟨r,rfl,hb.mono ii,fun w=>by rw[eI,UW]⟩
 ·rw[Ti (by have:=Up.2 g1;omega)]
  by_cases g2:b=[]
  ·subst g2
   obtain⟨r,e1,e2⟩:=lk ha.gd.toAB ii
   subst e2
   rw[Th (show(([]:List ba).length:Int)=0 from rfl),ha.lQ,HP,e1]
   exact⟨r,rfl,ha.mono ii,fun w=>by rw[eI,UU]⟩
  ·rw[Ti (by have:=Up.2 g2;omega)]
   obtain⟨r,r1,r2,r3⟩:=mh ha hb hn (is:=Io) (op:=fun x y=>x||y) fun x y=>by cases x<;>cases y<;>rfl
   exact⟨r,r1,r2.mono hpn,r3⟩
structure Qh (W:List (List UInt8)) (l:List ba):Prop where
 vl:VL (W.length*81+1) l
 mA:∀w:List UInt8,ac l 0 w=true↔w∈W
theorem Qh.nil:Qh [] []:=⟨VL.nil _,fun w=>by rw[eI];exact⟨fun h=>(by cases h),fun h=>by cases h⟩⟩
theorem so {n:Nat} {W:List (List UInt8)} (hW:∀w∈W,w.length<=80) {l:List ba} (h:VL n l) (hn:n<800000000) (c:Bool) (hl:∀w:List UInt8,w∉W->ac l 0 w=c):VL (W.length*81+1) l:=by
 have hb:=vS (n:=80) hW
 have hc:=h.count hn (ph W) fun u v hu hv w=>by
  rw[hl (u++w) fun g=>hu (qA g),hl (v++w) fun g=>hv (qA g)]
 exact h.self.mono ii
theorem Qh.push {W:List (List UInt8)} {l:List ba} (h:Qh W l) {s:List UInt8} (hs:s.length<=80) (hW:∀w∈W,w.length<=80) (h40:W.length<=100):∃w r,oa s=some w/\Im l w=some r/\Qh (W++[s]) r:=by
 obtain⟨w,w1,w2,w3⟩:=yY (s:=s) ii
 obtain⟨r,r1,r2,r3⟩:=Rw (n:=20000) (h.vl.mono ii) (w2.mono ii) (Tp _)
 have hlang:∀x:List UInt8,ac r 0 x=true↔x∈W++[s]:=fun x=>by
  rw[r3,w3,UT,h.mA,Ul,Tz,To]
 have hW':∀x∈W++[s],x.length<=80:=fun x hx=>by
  rcases Tz.1 hx with hx|hx
  ·exact hW x hx
  ·rw[To.1 hx];exact hs
 refine⟨w,r,w1,r1,so hW' r2 ii false fun x hx=> ?_,hlang⟩
 cases z:ac r 0 x with
 |false=>rfl
 |true=>exact(hx ((hlang x).1 z)).elim
theorem Fl:gC AE=some true:=by kernel_rfl
theorem Qa:VL 1 AE:=VL.of ⟨Tp _,fun s hs=>by
 rw[To.1 hs]
 decide,fun s hs e he=>by
 rw[To.1 hs] at he
 rw[To.1 he]
 exact⟨by decide,by decide,by decide,by decide⟩⟩ ii Fl
theorem yR:∀w:List UInt8,ac AE 0 w=true
 |[]=>rfl
 |b::w=>by
  have hb:=qx b
  have hd:dl AE 0 b.toNat=0:=by
   show(fZ (b.toNat:Int) [⟨0,255,0⟩] 1).toNat=0
   show(if(0:Int)<=(b.toNat:Int)/\(b.toNat:Int)<=255 then(0:Int) else 1).toNat=0
   rw[Th ⟨hb.1,by omega⟩]
   rfl
  show ac AE (dl AE 0 b.toNat) w=true
  rw[hd]
  exact yR w
theorem Qh.not {W:List (List UInt8)} {l:List ba} (h:Qh W l) (hW:∀w∈W,w.length<=80) (h40:W.length<=100):∃r,K1 l=some r/\VL 20000 r/\∀w:List UInt8,ac r 0 w=true↔w∉W:=by
 obtain⟨r,r1,r2,r3⟩:=xK (n:=20000) (Qa.mono ii) (h.vl.mono ii) (Tp _)
 have hlang:∀w:List UInt8,ac r 0 w=true↔w∉W:=fun w=>by
  rw[r3,yR,TU,Bool.not_eq_true',<-h.mA]
  cases ac l 0 w<;>simp
 have hpn:mi AE l<800000000:=by
  have:=h.vl.gd.len
  have:(AE.length+2)*(l.length+2)<=3*20002:=UI (by decide) ii
  unfold mi
  omega
 have hc:=so hW r2 hpn true fun w hw=>(hlang w).2 hw
 refine⟨r,?_,hc.mono ii,hlang⟩
 unfold K1 MU
 rw[HP,r1]
def fw {α β:Type} (R:α->β->Prop):List α->List β->Prop
 |[],[]=>True
 |a::l,b::r=>R a b/\fw R l r
 |_,_=>False
theorem fw.len {α β:Type} {R:α->β->Prop}:∀{l:List α} {r:List β},fw R l r->l.length=r.length
 |[],[],_=>rfl
 |[],_::_,h=>h.elim
 |_::_,[],h=>h.elim
 |a::l,b::r,h=>by rw[Tu,Tu,fw.len h.2]
theorem fw.mem {α β:Type} {R:α->β->Prop}:∀{l:List α} {r:List β},fw R l r->(∀b∈r,∃a∈l,R a b)/\∀a∈l,∃b∈r,R a b
 |[],[],_=>⟨fun b h=>(by cases h),fun a h=>by cases h⟩
 |[],_::_,h=>h.elim
 |_::_,[],h=>h.elim
 |a::l,b::r,h=>by
  obtain⟨h1,h2⟩:=fw.mem h.2
  refine⟨fun x hx=> ?_,fun x hx=> ?_⟩
  ·rcases Tv.1 hx with rfl|hx
   ·exact⟨a,Tn ..,h.1⟩
   ·obtain⟨y,y1,y2⟩:=h1 x hx
    exact⟨y,Tm _ y1,y2⟩
  ·rcases Tv.1 hx with rfl|hx
   ·exact⟨b,Tn ..,h.1⟩
   ·obtain⟨y,y1,y2⟩:=h2 x hx
    exact⟨y,Tm _ y1,y2⟩
def cu (other:Va):Nat->aO->Va->Prop
 |0,_,_=>False
 |n+1,d,x=>(d.c.kind<=4/\∃one,AP d=some (one,0)/\Qg 81 one/\x= .mk ⟨false,one,[],[]⟩ ⟨false,one,[],[]⟩)
  \/(d.c.kind=5/\∃l,x= .mk ⟨false,bw,[⟨l,[]⟩],[]⟩ ⟨false,bw,[⟨l,[]⟩],[]⟩/\fw (cu other n) d.c.items l)
  \/(d.c.kind=6/\∃(fs:List (dO Va)) (k:dH Va),x= .mk ⟨false,bw,[],[⟨fs,[k]⟩]⟩ ⟨false,bw,[],[⟨fs,[k]⟩]⟩/\k.val=other/\Dw ⟨fs,[k]⟩ k/\fw (fun(m:Mem aO) (f:dO Va)=>f.label=m.label/\f.fj=1/\cu other n m.data f.val) d.c.members fs)
theorem Gi {rec:aO->Option Va} {R:aO->Va->Prop}:∀{l:List aO} {out:List Va},(∀d∈l,∃x,rec d=some x/\R d x)->l.length+out.length<=1000->∃xs,fw R l xs/\Qw rec l out=plain ⟨false,bw,[⟨out++xs,[]⟩],[]⟩
 |[],out,_,_=>⟨[],trivial,by unfold Qw;rw[TK]⟩
 |d::l,out,h,hl=>by
  rw[Tu] at hl
  obtain⟨x,h1,h2⟩:=h d (Tn ..)
  obtain⟨xs,g1,g2⟩:=Gi (rec:=rec) (R:=R) (l:=l) (out:=out++[x]) (fun y hy=>h y (Tm _ hy)) (by simp;omega)
  refine⟨x::xs,⟨h2,g1⟩,?_⟩
  unfold Qw
  rw[h1,HP,dI ii,g2,TP]
  rfl
theorem Gh {rec:aO->Option Va} {R:aO->Va->Prop} {other:Va}:∀{l:List (Mem aO)} {out:List (dO Va)} {fs:List ba},Qh (out.map (·.label)) fs->(∀f∈out,f.label.length<=80)->(∀m∈l,m.label.length<=80/\∃x,rec m.data=some x/\R m.data x)->l.length+out.length<=100->∃(gs:List (dO Va)) (n:List ba),fw (fun(m:Mem aO) (f:dO Va)=>f.label=m.label/\f.fj=1/\R m.data f.val) l gs/\ofM rec other l out fs=plain ⟨false,bw,[],[⟨out++gs,[⟨n,other⟩]⟩]⟩/\VL 20000 n/\∀w:List UInt8,ac n 0 w=true↔∀f∈out++gs,f.label≠w
 |[],out,fs,hf,ho,_,hl=>by
  obtain⟨r,r1,r2,r3⟩:=hf.not (fun w hw=>by obtain⟨f,hf,rfl⟩:=T4.1 hw;exact ho f hf) (by rw[Tr];simp at hl;omega)
  refine⟨[],r,trivial,?_,r2,fun w=> ?_⟩
  ·unfold ofM
   rw[r1,HP,TK]
  ·rw[r3,TK]
   exact⟨fun h f hf e=>h (T4.2 ⟨f,hf,e⟩),fun h g=>by obtain⟨f,hf,e⟩:=T4.1 g;exact h f hf e⟩
 |m::l,out,fs,hf,ho,hm,hl=>by
  rw[Tu] at hl
  obtain⟨hlab,x,h1,h2⟩:=hm m (Tn ..)
  obtain⟨w,r,w1,w2,w3⟩:=hf.push hlab (fun w hw=>by obtain⟨f,hf,rfl⟩:=T4.1 hw;exact ho f hf) (by rw[Tr];omega)
  obtain⟨gs,n,g1,g2,g3,g4⟩:=Gh (rec:=rec) (R:=R) (other:=other) (l:=l) (out:=out++[⟨m.label,1,x⟩]) (fs:=r) (by rw[Un];exact w3) (fun f hf=>by
   rcases Tz.1 hf with hf|hf
   ·exact ho f hf
   ·rw[To.1 hf];exact hlab) (fun y hy=>hm y (Tm _ hy)) (by simp;omega)
  rw[TP] at g2 g4
  refine⟨⟨m.label,1,x⟩::gs,n,⟨⟨rfl,rfl,h2⟩,g1⟩,?_,g3,g4⟩
  unfold ofM
  rw[h1,HP,dI ii,w1,HP,w2,HP,g2]
  rfl
theorem Dm {R:Mem aO->dO Va->Prop} (hR:∀m f,R m f->f.label=m.label):∀{l:List (Mem aO)} {r:List (dO Va)},fw R l r->(l.Pairwise fun x y=>Op.bytesLess x.label y.label=true)->r.Pairwise fun x y=>Op.bytesLess x.label y.label=true
 |[],[],_,_=>List.Pairwise.nil
 |[],_::_,h,_=>h.elim
 |_::_,[],h,_=>h.elim
 |m::l,f::r,h,hp=>by
  have hp':=TW.1 hp
  refine TW.2 ⟨fun g hg=> ?_,Dm hR h.2 hp'.2⟩
  obtain⟨y,y1,y2⟩:=(fw.mem h.2).1 g hg
  rw[hR _ _ h.1,hR _ _ y2]
  exact hp'.1 y y1
theorem zJ {other:Va}:∀{f n:Nat} {d:aO},ko n d->n<f->n<=15->∃x,Ju other f d=some x/\cu other f d x
 |0,n,d,_,h,_=>by omega
 |f+1,n,d,hd,hf,hn=>by
  have hc:=hd.c
  have hil:=hc.il
  have hml:=hc.ml
  have kid:∀y,xe n y->∃x,Ju other f y=some x/\cu other f y x:=fun y hy=>by
   cases n with
   |zero=>exact hy.elim
   |succ n=>exact zJ hy ii ii
  unfold Ju
  by_cases k5:d.c.kind=5
  ·obtain⟨xs,h1,h2⟩:=Gi (rec:=Ju other f) (R:=cu other f) (l:=d.c.items) (out:=[]) (fun y hy=>kid y (hc.it y hy)) (by simp;omega)
   rw[Th k5,aP ii,h2]
   exact⟨_,rfl,.inr (.inl ⟨k5,xs,rfl,h1⟩)⟩
  ·rw[Ti k5]
   by_cases k6:d.c.kind=6
   ·obtain⟨gs,n',h1,h2,h3,h4⟩:=Gh (rec:=Ju other f) (R:=cu other f) (other:=other) (l:=d.c.members) (out:=[]) (fs:=[]) Qh.nil (fun g hg=>by cases hg) (fun m hm=>⟨(hc.me m hm).1,kid m.data (hc.me m hm).2⟩) (by simp;omega)
    rw[Th k6,aP ii,h2]
    have hl:=h1.len
    refine⟨_,rfl,.inr (.inr ⟨k6,gs,⟨n',other⟩,rfl,rfl,⟨rfl,h3,h4,by show gs.length<=100;omega,fun g hg=> ?_,Dm (fun m f h=>h.1) h1 hc.xa⟩,h1⟩)⟩
    obtain⟨m,m1,m2⟩:=h1.mem.1 g hg
    rw[m2.1]
    exact(hc.me m m1).1
   ·rw[Ti k6]
    have hchk:lU d=some 0:=pb hd ii ii ii
    have hk:=hc.k
    obtain⟨one,h1,h2⟩:=sU (n:=80) ii hchk ⟨hk.1,by omega⟩ hc.str
    rw[h1]
    exact⟨_,rfl,.inl ⟨by omega,one,h1,h2,rfl⟩⟩
theorem kY {n:Nat} (hn:n<900000) {d:aO} (h:lU d=some 0) (hk:1<=d.c.kind/\d.c.kind<=4) (hl:d.c.str.length<=n) {one:bX} (e:AP d=some (one,0)) {x:cJ aO} (hx:kD one x):x.kind=d.c.kind/\(x.kind=2->x.num=d.c.num)/\(x.kind=3->x.num=d.c.num)/\(x.kind=4->x.str=d.c.str):=by
 obtain⟨_,h2,h3⟩:=ur (C4 h)
 have nomem:∀{a b c:Bool} {e:cJ aO},kD ⟨a,b,c,[],[],[]⟩ e->(e.kind=1/\a=true)\/(e.kind=2/\e.num=0/\b=true)\/(e.kind=2/\e.num=1/\c=true):=fun{a b c e} g=>by
  rcases g with g|g|g|⟨_,g⟩|⟨_,g⟩
  ·exact .inl g
  ·exact .inr (.inl g)
  ·exact .inr (.inr g)
  ·exact(rH _ g).elim
  ·rw[show(bX.mk a b c [] [] []).strs=[] from rfl,eI] at g;cases g
 unfold AP at e
 rw[h,HP,Th rfl] at e
 by_cases k1:d.c.kind=1
 ·rw[Th k1] at e
  cases e
  rcases nomem hx with g|g|g
  ·exact⟨by omega,by omega,by omega,by omega⟩
  ·cases g.2.2
  ·cases g.2.2
 ·rw[Ti k1] at e
  by_cases k2:d.c.kind=2
  ·rw[Th k2] at e
   cases e
   rcases nomem hx with g|g|g
   ·cases g.2
   ·have:=TF g.2.2
    exact⟨by omega,by omega,by omega,by omega⟩
   ·have:=TF g.2.2
    exact⟨by omega,by omega,by omega,by omega⟩
  ·rw[Ti k2] at e
   by_cases k3:d.c.kind=3
   ·rw[Th k3] at e
    unfold jK at e
    rw[Th k3] at e
    obtain⟨p,b1,e⟩:=aa e
    obtain⟨b3,b4,b5⟩:=vO (h3 k3) b1
    have e:some (Rp p.1,p.2)=some (one,0):=e
    rw[b3] at e
    obtain rfl:Rp p.1=one:=Ub Prod.fst (TD e)
    rcases hx with g|g|g|⟨g1,g⟩|⟨_,g⟩
    ·cases g.2
    ·cases g.2.2
    ·cases g.2.2
    ·have:=(b5 _).1 g
     exact⟨by omega,by omega,fun _=>this,by omega⟩
    ·rw[show(Rp p.1).strs=[] from rfl,eI] at g;cases g
   ·have k4:d.c.kind=4:=by omega
    rw[Ti k3,Th k4] at e
    unfold jK vP at e
    rw[Ti k3] at e
    obtain⟨l,l1,l2,l3⟩:=yY (s:=d.c.str) ii
    rw[l1] at e
    have e:some (scL l,(0:Int))=some (one,0):=e
    cases e
    rcases hx with g|g|g|⟨_,g⟩|⟨g1,g⟩
    ·cases g.2
    ·cases g.2.2
    ·cases g.2.2
    ·exact(rH _ g).elim
    ·have g:ac l 0 x.str=true:=g
     rw[l3] at g
     exact⟨by omega,by omega,by omega,fun _=>TF g⟩
theorem kT {P:aO->Prop} {c:cJ aO} (h:Nt P c) (hk:c.kind<=4):c.items=[]/\c.members=[]/\(c.kind≠4->c.str=[])/\(c.kind≠2->c.kind≠3->c.num=0):=by
 have h1:=h.il
 have h2:=h.ml
 have hk1:=h.k
 have ho:=h.only
 unfold jL at ho
 rw[aP ii,aP ii] at ho
 have one:jk c=some true->c.items=[]/\c.members=[]/\c.str=[]:=fun g=>by
  unfold jk at g
  by_cases a:c.str=[]
  ·rw[Th a] at g
   by_cases b:(c.items.length:Int)=0
   ·rw[Th b] at g
    have:=TF (TD g)
    exact⟨TH.1 ii,TH.1 ii,a⟩
   ·rw[Ti b] at g;cases g
  ·rw[Ti a] at g;cases g
 by_cases k2:c.kind=2
 ·rw[Th k2] at ho
  obtain⟨a,b,e⟩:=one ho
  exact⟨a,b,fun _=>e,fun z=>(z k2).elim⟩
 ·rw[Ti k2] at ho
  by_cases k3:c.kind=3
  ·rw[Th k3] at ho
   obtain⟨a,b,e⟩:=one ho
   exact⟨a,b,fun _=>e,fun _ z=>(z k3).elim⟩
  ·rw[Ti k3] at ho
   by_cases k4:c.kind=4
   ·rw[Th k4] at ho
    by_cases n0:c.num=0
    ·rw[Th n0] at ho
     by_cases b:(c.items.length:Int)=0
     ·rw[Th b] at ho
      have:=TF (TD ho)
      exact⟨TH.1 ii,TH.1 ii,fun z=>(z k4).elim,fun _ _=>n0⟩
     ·rw[Ti b] at ho;cases ho
    ·rw[Ti n0] at ho;cases ho
   ·rw[Ti k4,Ti ii,Ti ii,Th ii] at ho
    by_cases n0:c.num=0
    ·rw[Th n0] at ho
     obtain⟨a,b,e⟩:=one ho
     exact⟨a,b,fun _=>e,fun _ _=>n0⟩
    ·rw[Ti n0] at ho;cases ho
theorem lr {c d:cJ aO} (h1:c.kind=d.kind) (h2:c.num=d.num) (h3:c.str=d.str) (h4:c.items=d.items) (h5:c.members=d.members):c=d:=by
 cases c
 cases d
 simp only at h1 h2 h3 h4 h5
 subst h1 h2 h3 h4 h5
 rfl
theorem o9 {c d:aO} (h:c.c=d.c):c=d:=by
 cases c
 cases d
 have h:_=_:=h
 simp only[aO.c] at h
 rw[h]
theorem LF {n m:Nat} (hn:n<=15) (hm:m<=15) {c d:aO} (hc:ko m c) (hd:ko n d) (hk:d.c.kind<=4) {one:bX} (h1:AP d=some (one,0)) (h2:Qg 81 one):∃t,nW one c=some t/\(t=true↔c=d):=by
 have hchk:lU d=some 0:=pb hd ii ii ii
 have hdk:=hd.c.k
 obtain⟨t,ht⟩:=Cr (k:=1) ii (h2.v.mono (Tp _) ii) hm hc
 refine⟨t,ht,fun e=> ?_,fun e=> ?_⟩
 ·subst e
  obtain⟨⟨c1,c2⟩,oc,c3,c4⟩:=Cs ht
  obtain⟨oc',c5,c6⟩:=sU (n:=80) ii c1 c2 hc.c.str
  rw[c3] at c5
  cases c5
  obtain⟨s,s1,s2⟩:=eO (k:=1) (m:=1) (n:=81) ii ii c6.v h2.v
  rw[c4] at s1
  cases s1
  obtain⟨x,hx⟩:=c6.ex
  obtain⟨a1,a2,a3,a4⟩:=kY (n:=80) ii c1 c2 hc.c.str c3 hx
  obtain⟨b1,b2,b3,b4⟩:=kY (n:=80) ii hchk ⟨hdk.1,hk⟩ hd.c.str h1 (s2.1 rfl x hx)
  obtain⟨p1,p2,p3,p4⟩:=kT hc.c c2.2
  obtain⟨q1,q2,q3,q4⟩:=kT hd.c hk
  refine o9 (lr ii ?_ ?_ (by rw[p1,q1]) (by rw[p2,q2]))
  ·by_cases k2:x.kind=2
   ·rw[<-a2 k2,<-b2 k2]
   ·by_cases k3:x.kind=3
    ·rw[<-a3 k3,<-b3 k3]
    ·rw[p4 ii ii,q4 ii ii]
  ·by_cases k4:x.kind=4
   ·rw[<-a4 k4,<-b4 k4]
   ·rw[p3 ii,q3 ii]
 ·subst e
  obtain⟨s,s1,s2⟩:=eO (k:=1) (m:=1) (n:=81) ii ii h2.v h2.v
  have:=O4 h1 (by rw[s1,s2.2 fun e he=>he])
  rw[ht] at this
  exact TD this
theorem vz {α:Type} {g:α->Option Bool} {a:α} {t:Bool} (h:g a=some t):lT g [a]=some t:=by
 unfold lT oV
 rw[aP (by show(1:Nat)<=1000000000;omega)]
 unfold fg
 rw[h,HP]
 cases t with
 |true=>rw[Th rfl];rfl
 |false=>rw[Ti nf];rfl
theorem GB {e:Nat} (he:e<=15) {c:aO} (hc:ko e c):nW bw c=some false:=by
 obtain⟨t,ht⟩:=Cr (k:=1) ii (dW 1 15000) he hc
 cases t with
 |false=>exact ht
 |true=>exact(R4 (n:=18000) ii (by have:=hc.c.str;omega) ht).elim
theorem R2 {m e:Nat} (he:e<=15) {c:aO} (hc:ko e c):lP (m+1) pv.v c=some false:=by
 unfold lP
 rw[Ti (show¬pv.v.any=true from nf),show pv.v.sc=bw from rfl,GB he hc,HP,Ti nf]
 by_cases k5:c.c.kind=5
 ·rw[Th k5];rfl
 ·rw[Ti k5]
  by_cases k6:c.c.kind=6
  ·rw[Th k6];rfl
  ·rw[Ti k6]
theorem k9 {P:aO->Prop} {c:cJ aO} (h:Nt P c) (hk:c.kind=5):c.num=0/\c.str=[]/\c.members=[]:=by
 have h1:=h.il
 have h2:=h.ml
 have ho:=h.only
 unfold jL at ho
 rw[aP ii,aP ii,Ti ii,Ti ii,Ti ii,Th hk] at ho
 by_cases n0:c.num=0
 ·rw[Th n0] at ho
  by_cases a:c.str=[]
  ·rw[Th a] at ho
   have:=TF (TD ho)
   exact⟨n0,a,TH.1 ii⟩
  ·rw[Ti a] at ho;cases ho
 ·rw[Ti n0] at ho;cases ho
theorem iP {P:aO->Prop} {c:cJ aO} (h:Nt P c) (hk:c.kind=6):c.num=0/\c.str=[]/\c.items=[]:=by
 have h1:=h.il
 have h2:=h.ml
 have ho:=h.only
 unfold jL at ho
 rw[aP ii,aP ii,Ti ii,Ti ii,Ti ii,Ti ii,Th hk] at ho
 by_cases n0:c.num=0
 ·rw[Th n0] at ho
  by_cases a:c.str=[]
  ·rw[Th a] at ho
   by_cases b:(c.items.length:Int)=0
   ·exact⟨n0,a,TH.1 ii⟩
   ·rw[Ti b] at ho;cases ho
  ·rw[Ti a] at ho;cases ho
 ·rw[Ti n0] at ho;cases ho
theorem fw.at_ {α β:Type} {R:α->β->Prop}:∀{l:List α} {r:List β},fw R l r->∀{q:Nat} {a:α} {b:β},l[q]? =some a->r[q]? =some b->R a b
 |[],[],_,q,a,b,h,_=>by simp at h
 |[],_::_,h,_,_,_,_,_=>h.elim
 |_::_,[],h,_,_,_,_,_=>h.elim
 |x::l,y::r,h,0,a,b,h1,h2=>by cases h1;cases h2;exact h.1
 |x::l,y::r,h,q+1,a,b,h1,h2=>fw.at_ h.2 (q:=q) (by simpa using h1) (by simpa using h2)
theorem vU:∀{l:List (dO Va)},(l.Pairwise fun x y=>Op.bytesLess x.label y.label=true)->∀f∈l,∀g∈l,f.label=g.label->f=g
 |[],_,f,hf,_,_,_=>by cases hf
 |x::r,h,f,hf,g,hg,e=>by
  have h':=TW.1 h
  rcases Tv.1 hf with e1|hf1
  ·rcases Tv.1 hg with e2|hg1
   ·rw[e1,e2]
   ·have:=h'.1 g hg1
    rw[<-e1,e,fV] at this
    cases this
  ·rcases Tv.1 hg with e2|hg1
   ·have:=h'.1 f hf1
    rw[<-e2,e,fV] at this
    cases this
   ·exact vU h'.2 f hf1 g hg1 e
abbrev rJ (l:List (Mem aO)):Prop:=l.Pairwise fun x y=>Op.bytesLess x.label y.label=true
theorem Dg:∀{l:List (Mem aO)},rJ l->∀f∈l,∀g∈l,f.label=g.label->f=g
 |[],_,f,hf,_,_,_=>by cases hf
 |x::r,h,f,hf,g,hg,e=>by
  have h':=TW.1 h
  rcases Tv.1 hf with e1|hf1
  ·rcases Tv.1 hg with e2|hg1
   ·rw[e1,e2]
   ·have:=h'.1 g hg1
    rw[<-e1,e,fV] at this
    cases this
  ·rcases Tv.1 hg with e2|hg1
   ·have:=h'.1 f hf1
    rw[<-e2,e,fV] at this
    cases this
   ·exact Dg h'.2 f hf1 g hg1 e
theorem Dh:∀{l r:List (Mem aO)},rJ l->rJ r->(∀x,x∈l↔x∈r)->l=r
 |[],[],_,_,_=>rfl
 |[],b::r,_,_,h=>by have:=(h b).2 (Tn ..);cases this
 |a::l,[],_,_,h=>by have:=(h a).1 (Tn ..);cases this
 |a::l,b::r,hl,hr,h=>by
  have hl':=TW.1 hl
  have hr':=TW.1 hr
  have e:a=b:=by
   rcases Tv.1 ((h a).1 (Tn ..)) with e|h1
   ·exact e
   ·rcases Tv.1 ((h b).2 (Tn ..)) with e|h2
    ·exact e.symm
    ·have:=oU (hr'.1 a h1) (hl'.1 b h2)
     rw[fV] at this
     cases this
  subst e
  rw[Dh hl'.2 hr'.2 fun x=> ?_]
  refine⟨fun hx=> ?_,fun hx=> ?_⟩
  ·rcases Tv.1 ((h x).1 (Tm _ hx)) with e|h1
   ·have:=hl'.1 x hx
    rw[e,fV] at this
    cases this
   ·exact h1
  ·rcases Tv.1 ((h x).2 (Tm _ hx)) with e|h1
   ·have:=hr'.1 x hx
    rw[e,fV] at this
    cases this
   ·exact h1
def OfP (f n:Nat) (y:Va):Prop:=y=pv\/∃z,xe n z/\cu pv f z y
theorem z8:∀{m f n e:Nat} {d c:aO} {x:Va},cu pv f d x->ko n d->ko e c->n<=15->e<=15->n+2<=m->∃t,lP m x.v c=some t/\(t=true↔c=d)
 |0,_,_,_,_,_,_,_,_,_,_,_,h=>by omega
 |m+1,0,_,_,_,_,_,h,_,_,_,_,_=>h.elim
 |m+1,f+1,n,e,d,c,x,h,hd,hc,hn,he,hm=>by
  have hcc:=hc.c
  have hdc:=hd.c
  have hil:=hdc.il
  have hml:=hdc.ml
  have hz:=GB he hc
  have rec1:∀{z w:aO} {y:Va},xe n z->cu pv f z y->xe e w->∃t,lP m y.v w=some t/\(t=true↔w=z):=fun{z w y} h1 h2 h3=>by
   cases n with
   |zero=>exact h1.elim
   |succ n=>
    cases e with
    |zero=>exact h3.elim
    |succ e=>exact z8 h2 h1 h3 ii ii ii
  have recz:∀{w:aO},xe e w->lP m pv.v w=some false:=fun{w} h3=>by
   obtain⟨m,rfl⟩:∃k,m=k+1:=⟨m-1,by omega⟩
   cases e with
   |zero=>exact h3.elim
   |succ e=>exact R2 (e:=e) ii h3
  have hr:S5 (OfP f n) e (lP m):=fun y w hy hw=>by
   rcases hy with rfl|⟨z,z1,z2⟩
   ·exact⟨false,recz hw⟩
   ·obtain⟨t,ht,_⟩:=rec1 z1 z2 hw
    exact⟨t,ht⟩
  rcases h with⟨hk,one,h1,h2,rfl⟩|⟨hk,l,rfl,h1⟩|⟨hk,fs,k,rfl,h1,h2,h3⟩
  ·obtain⟨t,ht,h4⟩:=LF hn he hc hd hk h1 h2
   refine⟨t,?_,h4⟩
   unfold lP
   show(if false=true then some true else(nW one c).bind _)=_
   rw[Ti nf,ht,HP]
   cases t with
   |true=>rw[Th rfl]
   |false=>
    rw[Ti nf]
    by_cases k5:c.c.kind=5
    ·rw[Th k5];rfl
    ·rw[Ti k5]
     by_cases k6:c.c.kind=6
     ·rw[Th k6];rfl
     ·rw[Ti k6]
  ·have hl:=h1.len
   have hH:HL (OfP f n) ⟨l,[]⟩:=⟨by show l.length<=1000;omega,by show(0:Nat)<=1000;omega,fun y hy=>by
    obtain⟨z,z1,z2⟩:=h1.mem.2|>fun _=>(show∃z∈d.c.items,cu pv f z y from(h1.mem.1 y hy))
    exact .inr ⟨z,hdc.it z z1,z2⟩,fun y hy=>by cases hy⟩
   unfold lP
   show∃t,(if false=true then some true else(nW bw c).bind _)=_/\_
   rw[Ti nf,hz,HP,Ti nf]
   by_cases k5:c.c.kind=5
   ·rw[Th k5]
    obtain⟨t,ht,h4⟩:=O0 hr hH hcc
    refine⟨t,vz ht,h4.trans ⟨fun g=> ?_,fun g=> ?_⟩⟩
    ·obtain⟨g1,g2⟩:=g
     have g1:(c.c.items.length:Int)=l.length:=g1.elim id fun g=>(by have:=g.2;simp at this)
     obtain⟨p1,p2,p3⟩:=k9 hcc k5
     obtain⟨q1,q2,q3⟩:=k9 hdc hk
     refine o9 (lr ii ii (by rw[p2,q2]) (Vc fun q=> ?_) (by rw[p3,q3]))
     by_cases hq:q<l.length
     ·have hy:l[q]? =some l[q]:=Tj hq
      have hw:c.c.items[q]? =some c.c.items[q]:=Tj ii
      have hz:d.c.items[q]? =some d.c.items[q]:=Tj ii
      obtain⟨y,y1,y2⟩:=g2 q _ hw
      rw[s6 (c:=⟨l,[]⟩) hy (by show l.length<=1000;omega)] at y1
      obtain rfl:l[q]=y:=Ub Prod.fst (TD y1)
      obtain⟨t,ht,h5⟩:=rec1 (hdc.it _ (TT _)) (h1.at_ hz hy) (hcc.it _ (Ts hw))
      rw[y2] at ht
      rw[hw,hz,h5.1 (TD ht).symm]
     ·rw[T2 ii,T2 ii]
    ·subst g
     refine⟨.inl (by show(c.c.items.length:Int)=l.length;omega),fun q z hz=> ?_⟩
     have hq:=(Tk.1 hz).1
     have hy:l[q]? =some l[q]:=Tj ii
     refine⟨l[q],s6 (c:=⟨l,[]⟩) hy (by show l.length<=1000;omega),?_⟩
     obtain⟨t,ht,h5⟩:=rec1 (hdc.it _ (Ts hz)) (h1.at_ hz hy) (hcc.it _ (Ts hz))
     rw[ht,h5.2 rfl]
   ·rw[Ti k5]
    refine⟨false,?_,fun g=>(by cases g),fun g=>(by rw[g] at k5;exact(k5 hk).elim)⟩
    by_cases k6:c.c.kind=6
    ·rw[Th k6];rfl
    ·rw[Ti k6]
  ·have hl:=h3.len
   obtain⟨m1,m2⟩:=h3.mem
   have hS:HS (OfP f n) ⟨fs,[k]⟩:=⟨by show fs.length<=1000;omega,by show(1:Nat)<=1000;omega,fun y hy=>by
    obtain⟨z,z1,z2⟩:=m1 y hy
    exact .inr ⟨z.data,(hdc.me z z1).2,z2.2.2⟩,fun y hy=>by
    rw[To.1 hy]
    exact .inl h1,fun y hy=>by rw[To.1 hy];exact h2.vl,fun w=>by
    by_cases g:∃f∈fs,f.label=w
    ·exact .inl g
    ·exact .inr ⟨k,To.2 rfl,(h2.mA w).2 fun f hf e=>g ⟨f,hf,e⟩⟩⟩
   unfold lP
   show∃t,(if false=true then some true else(nW bw c).bind _)=_/\_
   rw[Ti nf,hz,HP,Ti nf]
   by_cases k6:c.c.kind=6
   ·rw[Ti ii,Th k6]
    obtain⟨t,ht,h4⟩:=OY hr hS hcc
    refine⟨t,vz ht,h4.trans ⟨fun g=> ?_,fun g=> ?_⟩⟩
    ·obtain⟨g1,g2⟩:=g
     obtain⟨p1,p2,p3⟩:=iP hcc k6
     obtain⟨q1,q2,q3⟩:=iP hdc hk
     have sub:∀w∈c.c.members,w∈d.c.members:=fun w hw=>by
      obtain⟨r,r1,r2⟩:=g2 w hw
      obtain⟨r',r3,r4⟩:=pC hS (w:=w.label) (by have:=(hcc.me w hw).1;omega)
      rw[r1] at r3
      cases r3
      rcases r4 with⟨y,y1,y2,rfl⟩|⟨_,y,y1,_,rfl⟩
      ·obtain⟨z,z1,z2,z3,z4⟩:=m1 y y1
       obtain⟨t,ht,h5⟩:=rec1 (hdc.me z z1).2 z4 (hcc.me w hw).2
       have r2:lP m y.val.v w.data=some true:=r2
       rw[r2] at ht
       have e1:=h5.1 (TD ht).symm
       have e2:w=z:=by
        cases w
        cases z
        simp only at e1 y2 z2
        rw[e1,<-y2,z2]
       rw[e2]
       exact z1
      ·rw[To.1 y1] at r2
       have r2:lP m k.val.v w.data=some true:=r2
       rw[h1,recz (hcc.me w hw).2] at r2
       cases r2
     refine o9 (lr ii ii (by rw[p2,q2]) (by rw[p3,q3]) (Dh hcc.xa hdc.xa fun w=>⟨sub w,fun hw=> ?_⟩))
     obtain⟨y,y1,y2,_⟩:=m2 w hw
     obtain⟨z,z1,z2⟩:=g1 y y1
     have:=Dg hdc.xa z (sub z z1) w hw (by rw[z2,y2])
     rw[<-this]
     exact z1
    ·subst g
     refine⟨fun y hy=> ?_,fun w hw=> ?_⟩
     ·obtain⟨z,z1,z2,_⟩:=m1 y hy
      exact⟨z,z1,z2.symm⟩
     ·obtain⟨r,r1,r2⟩:=pC hS (w:=w.label) (by have:=(hcc.me w hw).1;omega)
      obtain⟨z,z1,z2,z3,z4⟩:=m2 w hw
      refine⟨r,r1,?_⟩
      rcases r2 with⟨y,y1,y2,rfl⟩|⟨g,_⟩
      ·obtain rfl:=vU h2.xa y y1 z z1 (by rw[y2,z2])
       obtain⟨t,ht,h5⟩:=rec1 (hdc.me w hw).2 z4 (hcc.me w hw).2
       show lP m y.val.v w.data=_
       rw[ht,h5.2 rfl]
      ·exact(g z z1 z2).elim
   ·rw[Ti k6]
    refine⟨false,?_,fun g=>(by cases g),fun g=>(by rw[g] at k6;exact(k6 hk).elim)⟩
    by_cases k5:c.c.kind=5
    ·rw[Th k5];rfl
    ·rw[Ti k5]
theorem oB:iy bw=some true:=by kernel_rfl
theorem tj.valid {k n:Nat} (hk:k<=12) {s:bX} (h:tj k n s):iy s=some true:=by
 unfold iy
 rw[yC hk ⟨h.sb.i,h.sb.f⟩ h.cn,HP,Th rfl,h.vl.ok]
theorem orN_z {k:Nat} (hk:k<=12) {n:cO} (h:sJ k n) (hc:CN n):orN n ⟨[],[]⟩=some n:=by
 have h1:=h.i.1
 have h2:=h.f.1
 obtain⟨r,e,_⟩:=ec hk h
 have e':=jm hc e
 unfold orN mJ
 rw[Th (by show n.ints.length+0<1000000000;omega),HP,Th (by show n.bz.length+0<1000000000;omega),HP]
 show fG ⟨n.ints++[],n.bz++[]⟩=_
 rw[TK,TK,e,e']
theorem Qv {n:Nat} {l:List ba} (h:VL n l) (hn:n<=20000):Im l []=some l:=by
 have h1:=h.gd.len
 obtain⟨r,e1,e2⟩:=lk h.gd.toAB ii
 subst e2
 unfold Im
 by_cases g1:r=[]
 ·subst g1
  rfl
 ·rw[Ti (by have:=Up.2 g1;omega),Th (show(([]:List ba).length:Int)=0 from rfl),h.lQ,HP,e1]
theorem Ah {k n:Nat} (hk:k<=12) (hn:n<=20000) {s:bX} (h:tj k n s):wX s=some s:=by
 unfold wX Rx combine
 rw[h.lQ hk,HP,show mD bw=some bw by unfold mD;rw[oB];rfl,HP]
 show(Io s.null false).bind _=_
 rw[show Io s.null false=some s.null by cases s.null<;>rfl,HP]
 show(Io s.py false).bind _=_
 rw[show Io s.py false=some s.py by cases s.py<;>rfl,HP]
 show(Io s.px false).bind _=_
 rw[show Io s.px false=some s.px by cases s.px<;>rfl,HP]
 show(orN ⟨s.ints,s.bz⟩ ⟨[],[]⟩).bind _=_
 rw[orN_z hk ⟨h.sb.i,h.sb.f⟩ h.cn,HP]
 show(Im s.strs []).bind _=_
 rw[Qv h.vl hn]
 rfl
theorem gF {k n:Nat} (hk:k<=12) (hn:n<=1000000000) {s:bX} (h:tj k n s):fQ s s=some true:=by
 have h1:=h.sb.i.1
 have h2:=h.sb.f.1
 unfold fQ
 rw[Th (by cases s.null<;>rfl),Th (by cases s.py<;>rfl),Th (by cases s.px<;>rfl),iT ii,HP,Th rfl,iT ii,HP,Th rfl,kU h.vl.gd.toAB hn]
structure AL (o:Va):Prop where
 vd:o.d=o.v
 lQ:Cu o.v=some true
 ch:kh o.v=some []
 can:∀n,jw (n+1) o.v=some (o.v,true)
 Qt:∀n,ep (n+1) o.v o.v=some true
 bel:∀n,iG (n+1) o.v o.v=some true
theorem JW {x:Va} (h:x.d=x.v):x= .mk x.v x.v:=by
 cases x with
 |mk a b=>
  have h:b=a:=h
  rw[h]
  rfl
theorem cu.vd {o:Va}:∀{f:Nat} {d:aO} {x:Va},cu o f d x->x.d=x.v
 |0,_,_,h=>h.elim
 |f+1,d,x,h=>by
  rcases h with⟨_,one,_,_,rfl⟩|⟨_,l,rfl,_⟩|⟨_,fs,k,rfl,_⟩<;>rfl
theorem cu.OA {o:Va}:∀{f:Nat} {d:aO} {x:Va},cu o f d x->x.v.any=false
 |0,_,_,h=>h.elim
 |f+1,d,x,h=>by
  rcases h with⟨_,one,_,_,rfl⟩|⟨_,l,rfl,_⟩|⟨_,fs,k,rfl,_⟩<;>rfl
theorem oM {rec:bG Va->bG Va->Option Bool} {x:Va} (h:rec x.v x.v=some true) (hd:x.d=x.v):lE rec x x=some true:=by
 unfold lE
 rw[h,HP,Th rfl,hd,h]
theorem p5 {l:List Va} (h:l.length<=1000):fU ⟨l,[]⟩=some l:=by
 unfold fU mJ
 rw[Th (by show l.length+0<1000000000;omega)]
 show some (l++[])=_
 rw[TK]
theorem jt {n:Nat} {d:aO} (h:xe n d):∃m,n=m+1/\ko m d:=by
 cases n with
 |zero=>exact h.elim
 |succ m=>exact⟨m,rfl,h⟩
theorem cu.Qt {o:Va} (ho:AL o):∀{f k n:Nat} {d:aO} {x:Va},cu o f d x->ko n d->f<k->ep k x.v x.v=some true
 |0,_,_,_,_,h,_,_=>h.elim
 |f+1,0,_,_,_,_,_,h=>by omega
 |f+1,k+1,n,d,x,h,hd,hk=>by
  have hdc:=hd.c
  have hil:=hdc.il
  have hml:=hdc.ml
  have kid:∀{z:aO} {y:Va},xe n z->cu o f z y->lE (ep k) y y=some true:=fun{z y} h1 h2=>by
   obtain⟨m,_,h1⟩:=jt h1
   exact oM (cu.Qt ho h2 h1 ii) h2.vd
  rcases h with⟨_,one,_,h2,rfl⟩|⟨_,l,rfl,h1⟩|⟨_,fs,c,rfl,h1,h2,h3⟩
  ·unfold ep
   show(if(false==false)=true then(fQ one one).bind _ else _)=_
   rw[Th rfl,gF ii ii h2.v,HP,Th rfl]
   rfl
  ·have hl:=h1.len
   unfold ep
   show(if(false==false)=true then(fQ bw bw).bind _ else _)=_
   rw[Th rfl,gF (k:=1) (n:=1) ii ii (dW 1 1),HP,Th rfl]
   show wN (ep k) [] [] [⟨l,[]⟩] [⟨l,[]⟩] 0=_
   unfold wN
   rw[oA (x:=(⟨l,[]⟩:bg Va)) rfl,aP (by show l.length<=1000000000;omega),aP (by show l.length<=1000000000;omega),Th rfl,p5 ii,HP,HP,nO (fun y hy=>by
    obtain⟨z,z1,z2⟩:=h1.mem.1 y hy
    exact kid (hdc.it z z1) z2) ii,HP,Th rfl]
   rfl
  ·have hl:=h3.len
   unfold ep
   show(if(false==false)=true then(fQ bw bw).bind _ else _)=_
   rw[Th rfl,gF (k:=1) (n:=1) ii ii (dW 1 1),HP,Th rfl]
   show zx (ep k) [⟨fs,[c]⟩] [⟨fs,[c]⟩] 0=_
   unfold zx
   rw[oA (x:=(⟨fs,[c]⟩:aM Va)) rfl]
   unfold BB
   rw[nO (fun y hy=>by
    obtain⟨z,z1,_,_,z2⟩:=h3.mem.1 y hy
    unfold BC
    rw[Th rfl,Th rfl,kid (hdc.me z z1).2 z2]) (by show fs.length<=1000000000;omega),HP,Th rfl,nO (fun y hy=>by
    rw[To.1 hy]
    unfold BD
    obtain⟨k,rfl⟩:∃j,k=j+1:=⟨k-1,by omega⟩
    rw[kU h2.vl.gd.toAB ii,HP,Th rfl,h1,oM (ho.Qt k) ho.vd]) (by show(1:Nat)<=1000000000;omega),HP,Th rfl]
   rfl
theorem cu.bel {o:Va} (ho:AL o) {f n:Nat} {d:aO} {x:Va} (h:cu o f d x) (hd:ko n d) (hf:f<64) (m:Nat):iG (m+1) x.v x.v=some true:=by
 unfold iG
 rw[h.OA,Ti nf,Ti nf]
 show(Option.bind ((ep hY x.v x.v).bind fun c=>if c then ep hY zV zV else some false) _)=_
 rw[cu.Qt ho h hd (show f<hY from hf),HP,Th rfl,AR,HP,Th rfl]
theorem cu.bot {o:Va}:∀{f:Nat} {d:aO} {x:Va},cu o f d x->iL x.v=some false
 |0,_,_,h=>h.elim
 |f+1,d,x,h=>by
  rcases h with⟨_,one,_,h2,rfl⟩|⟨_,l,rfl,_⟩|⟨_,fs,k,rfl,_⟩
  ·unfold iL
   show((rZ one).bind fun c=>if c then some true else iE one)=_
   obtain⟨t,ht,_⟩:=It (k:=1) (n:=81) ii ii h2.v.sb
   obtain⟨e,he⟩:=h2.ex
   obtain⟨u,hu,hv⟩:=o7 (k:=1) (n:=81) ii ii h2.v
   have hu':u=false:=by
    cases u with
    |false=>rfl
    |true=>exact(hv.1 rfl e he).elim
   rw[ht,HP]
   cases t with
   |false=>rw[Ti nf,hu,hu']
   |true=>
    unfold rZ at ht
    cases g1:one.null with
    |true=>rw[g1,Th rfl] at ht;cases ht
    |false=>
     rw[g1,Ti nf] at ht
     cases g2:one.py with
     |true=>rw[g2,Th rfl] at ht;cases ht
     |false=>
      rw[g2,Ti nf] at ht
      cases g3:one.px with
      |true=>rw[g3,Th rfl] at ht;cases ht
      |false=>
       rw[g3,Ti nf] at ht
       obtain⟨_,ht⟩:=ah ht
       obtain⟨_,ht⟩:=ah ht
       obtain⟨_,ht⟩:=ah ht
       have:=TF (TD ht)
       have i0:one.ints=[]:=TH.1 ii
       have f0:one.bz=[]:=TH.1 ii
       have s0:one.strs=[]:=TH.1 ii
       rcases he with g|g|g|⟨_,g⟩|⟨_,g⟩
       ·rw[g1] at g;cases g.2
       ·rw[g2] at g;cases g.2.2
       ·rw[g3] at g;cases g.2.2
       ·rw[i0,f0] at g;exact(rH _ g).elim
       ·rw[s0,eI] at g;cases g
  ·rfl
  ·rfl
theorem B2 {α:Type} {is:α->α->Option Bool} {of:α->Option (bG Va)}:zS is of []=some []:=rfl
theorem B1 {α:Type} {is:α->α->Option Bool} {of:α->Option (bG Va)} {x:α}:zS is of [x]=some [x]:=by
 unfold zS Nl
 rw[aP (by show(1:Nat)<=1000000000;omega),aP (by show(1:Nat)<=1000000000;omega)]
 show((if(0:Int)=0 then some false else _:Option Bool).bind _).bind _=_
 rw[Th rfl,HP,Ti nf]
 rfl
theorem Mr {cv:Va->Option (Va×Bool)}:∀{r out:List Va},(∀x∈r,cv x=some (x,true)/\iL x.v=some false)->out.length+r.length<=1000->PM cv [] r true out=some (⟨out++r,[]⟩,true,true)
 |[],out,_,_=>by
  rw[TK]
  rfl
 |x::r,out,h,hl=>by
  rw[Tu] at hl
  obtain⟨h1,h2⟩:=h x (Tn ..)
  unfold PM
  rw[h1,HP,Th rfl,Th rfl,h2,HP,dI ii]
  show PM cv [] r true (out++[x])=_
  rw[Mr (fun y hy=>h y (Tm _ hy)) (by simp;omega),TP]
  rfl
theorem Md {cv:Va->Option (Va×Bool)} {ks:List (dH Va)} (hk:ks.length<=1000):∀{r out:List (dO Va)},(∀f∈r,cv f.val=some (f.val,true)/\iL f.val.v=some false)->out.length+r.length<=1000->Me cv ks r true out=PA cv true (out++r) ks []
 |[],out,_,_=>by
  unfold Me
  rw[aP ii,TK]
 |x::r,out,h,hl=>by
  rw[Tu] at hl
  obtain⟨h1,h2⟩:=h x (Tn ..)
  unfold Me
  rw[h1,HP,Th rfl,Th rfl,h2,HP,dI ii]
  show Me cv ks r true (out++[x])=_
  rw[Md hk (fun y hy=>h y (Tm _ hy)) (by simp;omega),TP]
  rfl
theorem Pz {cv:Va->Option (Va×Bool)} {fs:List (dO Va)} {k:dH Va} (h:cv k.val=some (k.val,true)) (hv:VL 20000 k.set):PA cv true fs [k] []=some (⟨fs,[k]⟩,true,true):=by
 unfold PA
 rw[h,HP,Th rfl]
 show((Im k.set []).bind _)=_
 rw[Qv hv (Tp _),HP]
 rfl
theorem cu.can {o:Va} (ho:AL o):∀{f k n:Nat} {d:aO} {x:Va},cu o f d x->ko n d->f<k->f<64->jw k x.v=some (x.v,true)
 |0,_,_,_,_,h,_,_,_=>h.elim
 |f+1,0,_,_,_,_,_,h,_=>by omega
 |f+1,k+1,n,d,x,h,hd,hk,hf=>by
  have hdc:=hd.c
  have hil:=hdc.il
  have hml:=hdc.ml
  have hcv:∀{y:Va},jw k y.v=some (y.v,true)->y.d=y.v->iG jr y.v y.v=some true->pa (jw k) y=some (y,true):=fun{y} h1 h2 h3=>by
   unfold pa
   rw[h1,HP,h2,h1,HP,Th rfl,Th rfl,h3,HP,<-JW h2]
  have kid:∀{z:aO} {y:Va},xe n z->cu o f z y->pa (jw k) y=some (y,true)/\iL y.v=some false:=fun{z y} h1 h2=>by
   obtain⟨m,_,h1⟩:=jt h1
   exact⟨hcv (cu.can ho h2 h1 ii ii) h2.vd (h2.bel ho h1 ii 63),h2.bot⟩
  have hz:=Ah (k:=1) (n:=1) ii ii (dW 1 1)
  rcases h with⟨_,one,_,h2,rfl⟩|⟨_,l,rfl,h1⟩|⟨_,fs,c,rfl,h1,h2,h3⟩
  ·unfold jw
   show(if false=true then _ else(wX one).bind fun sc=>_)=_
   rw[Ti nf,Ah ii ii h2.v,HP]
   rfl
  ·have hl:=h1.len
   have hcl:My (pa (jw k)) ⟨l,[]⟩=some (⟨l,[]⟩,true,true):=by
    unfold My
    rw[aP (by show l.length<=1000000000;omega)]
    exact Mr (out:=[]) (fun y hy=>by
     obtain⟨z,z1,z2⟩:=h1.mem.1 y hy
     exact kid (hdc.it z z1) z2) (by simp;omega)
   unfold jw
   show(if false=true then _ else(wX bw).bind fun sc=>_)=_
   rw[Ti nf,hz,HP]
   show QI (pa (jw k)) bw [] [⟨l,[]⟩] []=_
   unfold QI
   rw[hcl,HP,Th rfl,Th rfl,dI (by show(0:Nat)<1000000000;omega)]
   show cnE bw [⟨l,[]⟩] []=_
   unfold cnE
   rw[B1,HP,B2,HP]
   rfl
  ·have hl:=h3.len
   have hcs:Mw (pa (jw k)) ⟨fs,[c]⟩=some (⟨fs,[c]⟩,true,true):=by
    unfold Mw
    rw[aP (by show fs.length<=1000000000;omega)]
    show Me _ [c] fs true []=_
    rw[Md (by show(1:Nat)<=1000;omega) (fun y hy=>by
     obtain⟨z,z1,_,_,z2⟩:=h3.mem.1 y hy
     exact kid (hdc.me z z1).2 z2) (by simp;omega)]
    obtain⟨k,rfl⟩:∃j,k=j+1:=⟨k-1,by omega⟩
    exact Pz (by rw[h1];exact hcv (ho.can k) ho.vd (ho.bel 63)) h2.vl
   unfold jw
   show(if false=true then _ else(wX bw).bind fun sc=>_)=_
   rw[Ti nf,hz,HP]
   show QH (pa (jw k)) bw [] [⟨fs,[c]⟩] []=_
   unfold QH
   rw[hcs,HP,Th rfl,Th rfl,dI (by show(0:Nat)<1000000000;omega)]
   show cnE bw [] [⟨fs,[c]⟩]=_
   unfold cnE
   rw[B2,HP,B1,HP]
   rfl
theorem cu.make {o:Va} (ho:AL o) {f n:Nat} {d:aO} {x:Va} (h:cu o f d x) (hd:ko n d) (hf:f<64):(eQ x=some true->mw x=some (x,0))/\(eQ x=some false->mw x=some (pv,11)):=by
 refine⟨fun e=> ?_,fun e=> ?_⟩
 ·have hc:=cu.can ho h hd (show f<jr from hf) hf
  unfold mw
  rw[e,HP,Th rfl]
  unfold pa
  have hb:iG jr x.v x.v=some true:=h.bel ho hd hf 63
  rw[hc,HP,h.vd,hc,HP,Th rfl,Th rfl,hb,HP,<-JW h.vd]
  rfl
 ·unfold mw
  rw[e,HP,Ti nf]
theorem rX:AL pv:=by
 have hc:wX bw=some bw:=Ah (k:=1) (n:=1) ii ii (dW 1 1)
 have hs:fQ bw bw=some true:=gF (k:=1) (n:=1) ii ii (dW 1 1)
 refine⟨rfl,by kernel_rfl,by kernel_rfl,fun n=> ?_,fun n=> ?_,fun n=> ?_⟩
 ·unfold jw
  show(if false=true then _ else(wX bw).bind fun sc=>_)=_
  rw[Ti nf,hc,HP]
  rfl
 ·unfold ep
  show(if(false==false)=true then(fQ bw bw).bind _ else _)=_
  rw[Th rfl,hs,HP,Th rfl]
  rfl
 ·unfold iG
  show(if false=true then _ else if false=true then _ else Option.bind ((ep hY zV zV).bind fun c=>if c then ep hY zV zV else some false) _)=_
  rw[Ti nf,Ti nf,AR,HP,Th rfl,HP,Th rfl]
def fB {α:Type} (f:α->Nat):List α->Nat
 |[]=>0
 |x::r=>f x+fB f r
theorem tF {α:Type} {f:α->Nat} (p:Nat):∀{l:List α},fB (fun x=>p*f x) l=p*fB f l
 |[]=>rfl
 |x::r=>by
  unfold fB
  rw[tF p,Nat.mul_add]
theorem qN {α:Type}:∀{l:List α},fB (fun _=>0) l=0
 |[]=>rfl
 |x::r=>by
  unfold fB
  rw[qN]
def o8:Nat->aO->Nat
 |0,_=>1
 |n+1,d=>1+fB (o8 n) d.c.items+fB (fun m=>o8 n m.data) d.c.members
def ND (n:Nat) (d:aO):Nat:=3*2^n*o8 n d
def vcp:Nat->aO->Nat
 |0,_=>0
 |n+1,d=>ND n d
theorem QY:∀{n:Nat} {d:aO},3+2*(fB (vcp n) d.c.items+fB (fun m=>vcp n m.data) d.c.members)<=ND n d
 |0,d=>by
  show 3+2*(fB (fun _=>0) d.c.items+fB (fun _=>0) d.c.members)<=3*2^0*1
  rw[qN,qN]
  decide
 |n+1,d=>by
  show 3+2*(fB (fun x=>3*2^n*o8 n x) d.c.items+fB (fun m:Mem aO=>3*2^n*o8 n m.data) d.c.members)<=3*2^(n+1)*(1+fB (o8 n) d.c.items+fB (fun m:Mem aO=>o8 n m.data) d.c.members)
  rw[tF (f:=o8 n),tF (f:=fun m:Mem aO=>o8 n m.data)]
  have h1:1<=2^n:=VD (by simp)
  have h2:3*2^(n+1)=2*(3*2^n):=by rw[Nat.pow_succ];omega
  rw[h2]
  generalize 3*2^n=p at*
  generalize fB (o8 n) d.c.items=a
  generalize fB (fun m:Mem aO=>o8 n m.data) d.c.members=b
  have hp:3<=p:=by omega
  have e:2*p*(1+a+b)=2*p+2*(p*a)+2*(p*b):=by rw[Nat.mul_add,Nat.mul_add,Nat.mul_one,Nat.mul_assoc,Nat.mul_assoc]
  rw[e,Nat.mul_add]
  omega
theorem fw.imp {α β:Type} {R S:α->β->Prop}:∀{l:List α} {r:List β},(∀a∈l,∀b∈r,R a b->S a b)->fw R l r->fw S l r
 |[],[],_,_=>trivial
 |[],_::_,_,h=>h.elim
 |_::_,[],_,h=>h.elim
 |a::l,b::r,h,g=>⟨h a (Tn ..) b (Tn ..) g.1,fw.imp (fun x hx y hy=>h x (Tm _ hx) y (Tm _ hy)) g.2⟩
theorem fw.mapR {α β γ:Type} {R:α->γ->Prop} {g:β->γ}:∀{l:List α} {r:List β},fw (fun a b=>R a (g b)) l r->fw R l (r.map g)
 |[],[],_=>trivial
 |[],_::_,h=>h.elim
 |_::_,[],h=>h.elim
 |a::l,b::r,h=>⟨h.1,fw.mapR h.2⟩
def eV:Nat->Int->aO->Bool
 |0,level,_=>decide (level>16)
 |n+1,level,d=>decide (level>16)||(d.c.items.any (eV n (level+1))||(d.c.members.any (fun m=>eV n (level+1) m.data)||(decide (d.c.kind=6)&&decide (level+1>16))))
theorem or4 {w a b:Bool}:(((w||a)||a)||b)=(w||(a||b)):=by cases w<;>cases a<;>cases b<;>rfl
theorem or3 {w a b:Bool}:(((w||a)||b)||b)=(w||(a||b)):=by cases w<;>cases a<;>cases b<;>rfl
def Dear (rec:Wk->bG Va->Int->Option Wk) (level:Int) (x:Va) (c:Nat) (b:Bool):Prop:=x.d=x.v/\∀w:Wk,0<=w.dQ->w.dQ+(c:Int)<=1000000000->∃r,rec w x.v (level+1)=some r/\0<=r.dQ/\r.dQ<=w.dQ+(c:Int)/\r.bad=(w.bad||b)
theorem qJ {α:Type} {rec:Wk->bG Va->Int->Option Wk} {level:Int} (hl:0<=level/\level<=1000) {ca:α->Nat} {cb:α->Bool}:∀{zs:List α} {xs:List Va} {w:Wk},fw (fun a x=>Dear rec level x (ca a) (cb a)) zs xs->0<=w.dQ->w.dQ+((2*fB ca zs:Nat):Int)<=1000000000->∃r,qK rec level xs w=some r/\0<=r.dQ/\r.dQ<=w.dQ+((2*fB ca zs:Nat):Int)/\r.bad=(w.bad||zs.any cb)
 |[],[],w,_,h0,_=>⟨w,rfl,h0,by omega,by rw[VP,UU]⟩
 |[],_::_,_,h,_,_=>h.elim
 |_::_,[],_,h,_,_=>h.elim
 |a::zs,x::xs,w,h,h0,hw=>by
  have e:fB ca (a::zs)=ca a+fB ca zs:=rfl
  rw[e] at hw⊢
  obtain⟨⟨hd,hr⟩,h2⟩:=h
  obtain⟨r1,a1,a2,a3,a4⟩:=hr w h0 ii
  obtain⟨r2,b1,b2,b3,b4⟩:=hr r1 a2 ii
  obtain⟨r3,c1,c2,c3,c4⟩:=qJ hl (w:=r2) h2 b2 ii
  refine⟨r3,?_,c2,by omega,by rw[c4,b4,a4,List.any_cons,or4]⟩
  unfold qK
  rw[aP ⟨by omega,by omega⟩,a1,HP,hd,b1,HP,c1]
theorem A8 {rec:Wk->bG Va->Int->Option Wk} {level:Int}:∀{xs ys:List Va} {w:Wk},qK rec level (xs++ys) w=(qK rec level xs w).bind (qK rec level ys)
 |[],ys,w=>rfl
 |x::xs,ys,w=>by
  show qK rec level (x::(xs++ys)) w=_
  unfold qK
  simp only[Tl]
  refine Ub _ (funext fun _=>Ub _ (funext fun a=>Ub _ (funext fun b=> ?_)))
  exact A8
theorem J1 {ks:List (dH Va)} (hk:ks.length<=1000):∀{fs:List (dO Va)} {out:List Va},fs.length+out.length<=1000->NZ ks fs out=Rb ks (out++fs.map (·.val))
 |[],out,_=>by
  unfold NZ
  rw[aP ii,U9,TK]
 |f::fs,out,h=>by
  rw[Tu] at h
  unfold NZ
  rw[dI ii,J1 hk (by simp;omega),TP]
  rfl
theorem Mt {l:List Va} (h:l.length<=1000):kh ⟨false,bw,[⟨l,[]⟩],[]⟩=some l:=by
 unfold kh
 rw[aP (by show(1:Nat)<=1000000000;omega)]
 show SI [] [⟨l,[]⟩] []=_
 unfold SI
 rw[p5 h,HP]
 unfold pS
 rw[Th (by show 0+l.length<=1000000000;omega),HP]
 rfl
theorem E1 {fs:List (dO Va)} {k:dH Va} (h:fs.length<=900):kh ⟨false,bw,[],[⟨fs,[k]⟩]⟩=some (fs.map (·.val)++[k.val]):=by
 unfold kh
 rw[aP (by show(0:Nat)<=1000000000;omega)]
 show SH [⟨fs,[k]⟩] []=_
 unfold SH kQ
 rw[aP (by show fs.length<=1000000000;omega)]
 show((NZ [k] fs []).bind _)=_
 rw[J1 (by show(1:Nat)<=1000;omega) (by simp;omega)]
 unfold Rb
 rw[dI (by simp;omega)]
 show((some ([]++fs.map (·.val)++[k.val])).bind _)=_
 rw[HP,UC]
 unfold pS
 rw[Th (by simp;omega),HP]
 rfl
theorem GH {l:List (dO Va)} (h1:∀f∈l,f.fj=1) (h2:l.Pairwise fun x y=>Op.bytesLess x.label y.label=true) (hl:l.length<=1000):∀{r:List (dO Va)} {i:Nat},l.drop i=r->Cz l r (i:Int)=some true
 |[],i,_=>rfl
 |f::r,i,e=>by
  have e1:((i:Int)+1)=((i+1:Nat):Int):=by omega
  have hi:l[i]? =some f:=by
   rw[<-List.head?_drop,e]
   rfl
  have hlt:=(Tk.1 hi).1
  have hr:l.drop (i+1)=r:=by rw[<-List.tail_drop,e];rfl
  have hone:IN l f (i:Int)=some true:=by
   unfold IN
   by_cases g:(i:Int)>0
   ·rw[Th g,aP ⟨by omega,by omega⟩,show(i:Int)-1=((i-1:Nat):Int) by omega,cz (Tj (show i-1<l.length by omega))]
    have:=T5.1 h2 (i-1) i ii hlt ii
    rw[(Tk.1 hi).2] at this
    rw[this]
   ·rw[Ti g]
  unfold Cz
  rw[Th (h1 f (Ts hi)),hone,HP,Th rfl,e1]
  exact GH h1 h2 hl hr
theorem cu.lQ {o:Va}:∀{f n:Nat} {d:aO} {x:Va},cu o f d x->ko n d->Cu x.v=some true
 |0,_,_,_,h,_=>h.elim
 |f+1,n,d,x,h,hd=>by
  have hdc:=hd.c
  have hil:=hdc.il
  have hml:=hdc.ml
  rcases h with⟨_,one,_,h2,rfl⟩|⟨_,l,rfl,h1⟩|⟨_,fs,k,rfl,h1,h2,h3⟩
  ·exact h2.v.valid ii
  ·exact oB
  ·have hl:=h3.len
   have hf:nM fs=some true:=by
    unfold nM
    rw[aP ii]
    exact GH (i:=0) (fun g hg=>by obtain⟨z,_,_,z2,_⟩:=h3.mem.1 g hg;exact z2) h2.xa (by show fs.length<=1000;omega) rfl
   show R5 bw [⟨fs,[k]⟩]=_
   unfold R5
   show(nM fs).bind _=_
   rw[hf,HP,Th rfl,h2.fit,HP,Th rfl]
   exact oB
theorem AL.AO {o:Va} (ho:AL o) {k:Nat} {w:Wk} {level:Int} (h0:0<=w.dQ) (h1:w.dQ<=1000000000):∃r,wu (k+1) w o.v level=some r/\r.dQ=w.dQ+1/\r.bad=(w.bad||decide (level>16)):=by
 unfold wu vn
 rw[aP ⟨by omega,by omega⟩,HP]
 by_cases g:level>16
 ·rw[Th g,Uc g,Bool.or_true]
  exact⟨_,rfl,rfl,rfl⟩
 ·rw[Ti g,ho.lQ,HP,Th rfl,ho.ch,HP,Uf g,UU]
  exact⟨_,rfl,rfl,rfl⟩
theorem cu.AO {o:Va} (ho:AL o):∀{f k n:Nat} {d:aO} {x:Va} {w:Wk} {level:Int},cu o f d x->ko n d->n+2<=k->0<=level->level+n<=100->0<=w.dQ->w.dQ+(ND n d:Int)<=1000000000->∃r,wu k w x.v level=some r/\0<=r.dQ/\r.dQ<=w.dQ+(ND n d:Int)/\r.bad=(w.bad||eV f level d)
 |0,_,_,_,_,_,_,h,_,_,_,_,_,_=>h.elim
 |f+1,0,n,_,_,_,_,_,_,h,_,_,_,_=>by omega
 |f+1,k+1,n,d,x,w,level,h,hd,hk,hl0,GA,h0,hw=>by
  have hg:=h.lQ hd
  have hdc:=hd.c
  have hil:=hdc.il
  have hml:=hdc.ml
  have hc:=QY (n:=n) (d:=d)
  have kid:∀{z:aO} {y:Va},xe n z->cu o f z y->Dear (wu k) level y (vcp n z) (eV f (level+1) z):=fun{z y} h1 h2=>by
   obtain⟨m,rfl,h1⟩:=jt h1
   exact⟨h2.vd,fun w' g0 g1=>cu.AO ho h2 h1 ii ii ii g0 g1⟩
  unfold wu vn
  rw[aP ⟨by omega,by omega⟩,HP]
  by_cases g:level>16
  ·rw[Th g]
   exact⟨_,rfl,by show 0<=w.dQ+1;omega,by show w.dQ+1<=_;omega,by unfold eV;rw[Uc g,Bool.true_or,Bool.or_true]⟩
  ·rw[Ti g,hg,HP,Th rfl]
   have hdb:∀{b:Bool},(d.c.items.any (eV f (level+1))||(d.c.members.any (fun m=>eV f (level+1) m.data)||(decide (d.c.kind=6)&&decide (level+1>16))))=b->eV (f+1) level d=b:=fun{b} e=>by
    unfold eV
    rw[Uf g,UW,e]
   rcases h with⟨hk4,one,_,h2,rfl⟩|⟨hk5,l,rfl,h1⟩|⟨hk6,fs,c,rfl,h1,h2,h3⟩
   ·obtain⟨i0,m0,_⟩:=kT hdc hk4
    exact⟨⟨w.dQ+1,mx w.deep level,w.bad⟩,rfl,by show 0<=w.dQ+1;omega,by show w.dQ+1<=_;omega,by
     rw[hdb (b:=false) (by rw[i0,m0,Uf (by omega:¬d.c.kind=6)];rfl),UU]⟩
   ·have hl:=h1.len
    show∃r,(kh ⟨false,bw,[⟨l,[]⟩],[]⟩).bind _=some r/\_
    rw[Mt ii,HP,aP ii]
    obtain⟨r,r1,r2,r3,r4⟩:=qJ (ca:=vcp n) (cb:=eV f (level+1)) (w:=⟨w.dQ+1,mx w.deep level,w.bad⟩) ⟨hl0,by omega⟩ (fw.imp (fun z hz y hy g=>kid (hdc.it z hz) g) h1) (by show 0<=w.dQ+1;omega) (by show w.dQ+1+_<=_;omega)
    have r3:r.dQ<=w.dQ+1+_:=r3
    obtain⟨_,_,m0⟩:=k9 hdc hk5
    exact⟨r,r1,r2,by omega,by
     rw[r4,hdb (b:=d.c.items.any (eV f (level+1))) (by rw[m0,Uf (by omega:¬d.c.kind=6),VP,Bool.false_and,UU,UU])]⟩
   ·have hl:=h3.len
    show∃r,(kh ⟨false,bw,[],[⟨fs,[c]⟩]⟩).bind _=some r/\_
    rw[E1 ii,HP,aP (by simp;omega),A8]
    obtain⟨r,r1,r2,r3,r4⟩:=qJ (ca:=fun m:Mem aO=>vcp n m.data) (cb:=fun m:Mem aO=>eV f (level+1) m.data) (w:=⟨w.dQ+1,mx w.deep level,w.bad⟩) (xs:=fs.map (·.val)) ⟨hl0,by omega⟩ (fw.mapR (fw.imp (fun z hz y hy g=>kid (hdc.me z hz).2 g.2.2) h3)) (by show 0<=w.dQ+1;omega) (by show w.dQ+1+_<=_;omega)
    have r3:r.dQ<=w.dQ+1+_:=r3
    rw[r1,HP]
    obtain⟨k,rfl⟩:∃j,k=j+1:=⟨k-1,by omega⟩
    obtain⟨s,s1,s2,s3⟩:=ho.AO (k:=k) (w:=r) (level:=level+1) r2 ii
    obtain⟨t,t1,t2,t3⟩:=ho.AO (k:=k) (w:=s) (level:=level+1) ii ii
    obtain⟨_,_,i0⟩:=iP hdc hk6
    refine⟨t,?_,by omega,by omega,by
     rw[t3,s3,r4,or3,hdb (b:=d.c.members.any (fun m=>eV f (level+1) m.data)||decide (level+1>16)) (by rw[i0,Uc hk6,VP,UW,TU])]⟩
    unfold qK
    rw[aP ⟨by omega,by omega⟩,h1,s1,HP,ho.vd,t1,HP]
    rfl
theorem cu.sound {o:Va} (ho:AL o) {f n:Nat} {d:aO} {x:Va} (h:cu o f d x) (hd:ko n d) (hn:n<=15) (hs:ND n d<=1000000000):eQ x=some (!eV f 1 d):=by
 obtain⟨r,r1,_,_,r4⟩:=cu.AO ho (k:=18) (w:=⟨0,0,false⟩) (level:=1) h hd ii ii ii (by show(0:Int)<=0;omega) (by show(0:Int)+_<=_;omega)
 have r4:r.bad=(false||eV f 1 d):=r4
 rw[UW] at r4
 have e:iA x.v=some (!r.bad):=by
  unfold iA FE
  rw[r1]
  rfl
 unfold eQ
 rw[e,HP,h.vd,e,r4]
 cases eV f 1 d with
 |true=>rfl
 |false=>rfl
def Nb:Nat->aO->Prop
 |0,_=>False
 |f+1,d=>d.c.str.length<=80/\d.c.items.length<=40/\d.c.members.length<=40/\(∀x∈d.c.items,Nb f x)/\∀m∈d.c.members,m.label.length<=80/\Nb f m.data
theorem sw:∀{l:List (Mem aO)},(∀(j:Nat) (x y:Mem aO),l[j]? =some x->l[j+1]? =some y->Op.bytesLess x.label y.label=true)->rJ l
 |[],_=>List.Pairwise.nil
 |a::l,h=>by
  have hl:rJ l:=sw fun j x y h1 h2=>h (j+1) x y (by simpa using h1) (by simpa using h2)
  refine TW.2 ⟨?_,hl⟩
  cases l with
  |nil=>intro y hy;cases hy
  |cons b r=>
   have h1:=h 0 a b rfl rfl
   intro y hy
   rcases Tv.1 hy with rfl|hy
   ·exact h1
   ·exact oU h1 ((TW.1 hl).1 y hy)
def wa (l:List (Mem aO)) (i:Nat):Prop:=∀(j:Nat) (x y:Mem aO),j+1<i->l[j]? =some x->l[j+1]? =some y->Op.bytesLess x.label y.label=true
theorem wa.next {l:List (Mem aO)} {i:Nat} (h:wa l i) (h1:1<=i) {x y:Mem aO} (hx:l[i-1]? =some x) (hy:l[i]? =some y) (e:Op.bytesLess x.label y.label=true):wa l (i+1):=fun j a b hj ha hb=>by
 by_cases g:j+1<i
 ·exact h j a b g ha hb
 ·obtain rfl:i=j+1:=by omega
  rw[show j+1-1=j by omega] at hx
  rw[hx] at ha
  rw[hy] at hb
  cases ha
  cases hb
  exact e
theorem wa.xa {l:List (Mem aO)} {i:Nat} (h:wa l i) (hi:l.length<=i):rJ l:=sw fun j x y hx hy=>h j x y (by have:=(Tk.1 hy).1;omega) hx hy
theorem BQ {l:List (Mem aO)} (hl:l.length<=1000):∀{f i:Nat},1<=i->l.length+2<=f+i->i<=l.length+1->wa l i->bu (hN l f i) fun e=>e=0->rJ l
 |0,i,_,h1,h2,_=>by omega
 |f+1,i,h0,h1,h2,hs=>by
  have e1:((i:Int)+1)=((i+1:Nat):Int):=by omega
  unfold hN
  refine ak (fun g=>ar ⟨by omega,by omega⟩ (a7 ii ii fun x hx _=>a7 ii ii fun y hy _=>ak (fun g1=> ?_) fun _=>aj fun h=>by cases h)) fun g=>aj fun _=>hs.xa ii
  rw[show((i:Int)-1).toNat=i-1 by omega] at hx
  rw[show(i:Int).toNat=i by omega] at hy
  rw[e1]
  exact BQ hl ii ii ii (hs.next h0 hx hy g1)
theorem Ir {d:cJ aO} (h1:d.items.length<=1000) (h2:d.members.length<=1000):bu (jL d) fun b=>b=true->1<=d.kind/\d.kind<=6:=by
 unfold jL
 have nof:∀{P:Prop},bu (some false:Option Bool) fun b=>b=true->P:=fun{P}=>aj fun h=>by cases h
 exact ar ii (ar ii (ak (fun g=>(kz _).mono fun _ _ _=>by omega) fun _=>ak (fun g=>(kz _).mono fun _ _ _=>by omega) fun _=>ak (fun g=>ak (fun _=>ak (fun _=>aj fun _=>by omega) fun _=>nof) fun _=>nof) fun _=>ak (fun g=>ak (fun _=>ak (fun _=>aj fun _=>by omega) fun _=>nof) fun _=>nof) fun _=>ak (fun g=>ak (fun _=>ak (fun _=>ak (fun _=>aj fun _=>by omega) fun _=>nof) fun _=>nof) fun _=>nof) fun _=>ak (fun g=>ak (fun _=>(kz _).mono fun _ _ _=>by omega) fun _=>nof) fun _=>nof))
theorem KM {d:cJ aO} (h1:d.items.length<=1000) (h2:d.members.length<=1000):bu (qX d) fun e=>e=0->rJ d.members/\1<=d.kind/\d.kind<=6:=by
 have hO:(1<=d.kind/\d.kind<=6)->bu ((aN d.members).bind fun _=>hN d.members (d.members.length+1) 1) fun e=>e=0->rJ d.members/\1<=d.kind/\d.kind<=6:=fun hk=>ar ii ((BQ (l:=d.members) (f:=d.members.length+1) (i:=1) ii (Tp _) ii ii fun j _ _ hj=>by omega).mono fun e h he=>⟨h he,hk⟩)
 have bad:bu (some (1:Int)) fun e=>e=0->rJ d.members/\1<=d.kind/\d.kind<=6:=aj fun h=>by cases h
 unfold qX
 refine au (Ir h1 h2) fun b hb=> ?_
 cases b with
 |false=>exact aj fun h=>by cases h
 |true=>
  have hk:=hb rfl
  exact ak (fun _=>ak (fun _=>ak (fun _=>hO hk) fun _=>ak (fun _=>hO hk) fun _=>bad) fun _=>ak (fun _=>au (vb _) fun c _=>ak (fun _=>hO hk) fun _=>bad) fun _=>hO hk) fun h=>(h rfl).elim
def AK (level:Int) (d:aO):Prop:=∃n:Nat,level+n=16/\ko n d
theorem vH {rec:aO->Int->Option Int} {level:Int} (h0:0<=level) (h1:level<=100) {Q:aO->Prop}:∀{l:List aO},(∀x∈l,bu (rec x (level+1)) fun e=>e=0->Q x)->bu (lp rec level l) fun e=>e=0->∀x∈l,Q x
 |[],_=>aj fun _ x hx=>by cases hx
 |x::r,h=>by
  unfold lp
  refine ar ⟨by omega,by omega⟩ (au (h x (Tn ..)) fun e he=>ak (fun g=> ?_) fun g=>aj fun z=>(g z).elim)
  refine(vH h0 h1 fun y hy=>h y (Tm _ hy)).mono fun e' h' z y hy=> ?_
  rcases Tv.1 hy with rfl|hy
  ·exact he g
  ·exact h' z y hy
theorem L6 {d:aO} {level:Int} {g:Nat} (hl:0<=level) (hl':level<=16) (hb:Nb (g+1) d) (hw:qX d.c=some 0) (ha:rJ d.c.members) (hk:1<=d.c.kind/\d.c.kind<=6) (h1:∀x∈d.c.items,AK (level+1) x) (h2:∀m∈d.c.members,AK (level+1) m.data):AK level d:=by
 obtain⟨b1,b2,b3,b4,b5⟩:=hb
 obtain⟨o1,o2,o3⟩:=ur hw
 refine⟨(16-level).toNat,by omega,ko.of ⟨o1,hk,o2,o3,b1,b2,b3,ha,fun x hx=> ?_,fun m hm=>⟨(b5 m hm).1,?_⟩⟩⟩
 ·obtain⟨n,e,h⟩:=h1 x hx
  rw[show(16-level).toNat=n+1 by omega]
  exact h
 ·obtain⟨n,e,h⟩:=h2 m hm
  rw[show(16-level).toNat=n+1 by omega]
  exact h
theorem pd:∀{f g:Nat} {d:aO} {level:Int},Nb g d->1<=level->18<=level+f->level<=17->bu (jv f d level) fun e=>e=0->AK level d
 |0,_,_,_,_,_,h,h'=>by omega
 |f+1,0,_,_,h,_,_,_=>h.elim
 |f+1,g+1,d,level,hb,h0,hf,h17=>by
  have hb':=hb
  obtain⟨b1,b2,b3,b4,b5⟩:=hb'
  unfold jv
  refine ak (fun _=>aj fun h=>by cases h) fun h16=> ?_
  obtain⟨e,e1,e2⟩:=KM (d:=d.c) ii ii
  rw[e1,HP]
  refine ak (fun g0=> ?_) fun g0=>aj fun z=>(g0 z).elim
  subst g0
  obtain⟨ha,hk⟩:=e2 rfl
  have hch:pc d.c=some (d.c.items++d.c.members.map (·.data)):=by
   unfold pc
   rw[aP ii,aP ii,E2 ii]
  rw[hch,HP]
  refine ar (by simp;omega) ((vH (Q:=AK (level+1)) ii ii fun x hx=> ?_).mono fun e h z=>L6 ii ii hb e1 ha hk (fun x hx=>h z x (Tz.2 (.inl hx))) fun m hm=>h z m.data (Tz.2 (.inr (T4.2 ⟨m,hm,rfl⟩))))
  rcases Tz.1 hx with hx|hx
  ·exact pd (b4 x hx) ii ii ii
  ·obtain⟨m,hm,rfl⟩:=T4.1 hx
   exact pd (b5 m hm).2 ii ii ii
theorem Ms {g:Nat} {d:aO} (h:Nb g d):bu (lU d) fun e=>e=0->ko 15 d:=(pd (f:=18) (level:=1) h ii ii ii).mono fun e h1 h2=>by
 obtain⟨n,e1,e2⟩:=h1 h2
 rwa [show n=15 by omega] at e2
theorem KF {c:cJ aO} (h1:c.items.length<=1000) (h2:c.members.length<=1000):bu (plR c) fun b=>b=true->jL c=some true/\1<=c.kind/\c.kind<=6:=by
 have nof:∀{P:Prop},bu (some false:Option Bool) fun b=>b=true->P:=fun{P}=>aj fun h=>by cases h
 have ex:∀{x:Option Bool} {P:Prop},(bu x fun _=>True)->(x=some true->P)->bu x fun b=>b=true->P:=fun{x P} ⟨b,e,_⟩ k=>⟨b,e,fun h=>k (by rw[e,h])⟩
 unfold plR jL
 rw[aP (show c.items.length<=1000000000 by omega),aP (show c.members.length<=1000000000 by omega),aP (show c.items.length<=1000000000 by omega),aP (show c.members.length<=1000000000 by omega)]
 refine ak (fun _=>nof) fun k0=>ak (fun _=>nof) fun k7=>ak (fun k2=> ?_) fun k2=>ak (fun k3=> ?_) fun k3=>ak (fun n0=> ?_) fun _=>nof
 ·exact ex (kz c) fun e=>⟨by rw[Th k2,e],by omega,by omega⟩
 ·exact ex (kz c) fun e=>⟨by rw[Ti k2,Th k3,e],by omega,by omega⟩
 ·rw[Ti k2,Ti k3]
  refine ak (fun k4=> ?_) fun k4=>ak (fun s0=>ak (fun k5=> ?_) fun k5=>ak (fun i0=>ak (fun k6=> ?_) fun k6=> ?_) fun _=>nof) fun _=>nof
  ·refine ak (fun i0=>aj fun h=>⟨?_,by omega,by omega⟩) fun _=>nof
   rw[Th k4,Th n0,Th i0,h]
  ·refine aj fun h=>⟨?_,by omega,by omega⟩
   rw[Ti k4,Th k5,Th n0,Th s0,h]
  ·refine aj fun h=>⟨?_,by omega,by omega⟩
   rw[Ti k4,Ti k5,Th k6,Th n0,Th s0,Th i0]
  ·refine aj fun h=>⟨?_,by omega,by omega⟩
   rw[Ti k4,Ti k5,Ti k6,Th (show c.kind=1 by omega),Th n0]
   unfold jk
   rw[Th s0,Th i0,h]
theorem Kz {u:Int}:bu (KA u) fun b=>b=true-> -1000000000000000<=u/\u<=1000000000000000:=by
 unfold KA
 exact ak (fun h=>aj fun e=>⟨by omega,TF e⟩) fun _=>aj fun h=>by cases h
section
variable {rec:aO->Int->Option Int} {level:Int} {Q:aO->Prop}
theorem F9 (h0:0<=level) (h1:level<=100) {l:List (Mem aO)} (h:∀m∈l,bu (rec m.data (level+1)) fun e=>e=0->Q m.data):∀{f i:Nat},l.length+1<=f+i->i<=l.length->(∀(j:Nat) (m:Mem aO),j<i->l[j]? =some m->Q m.data)->bu (DA rec level l f i) fun e=>e=0->∀m∈l,Q m.data
 |0,i,hf,hi,_=>by omega
 |f+1,i,hf,hi,hq=>by
  have e1:((i:Int)+1)=((i+1:Nat):Int):=by omega
  unfold DA
  refine ak (fun g=>a7 ii ii fun x hx hm=>ar ⟨by omega,by omega⟩ (au (h x hm) fun e he=>ak (fun z=> ?_) fun z=>aj fun k=>(z k).elim)) fun g=>aj fun _ m hm=> ?_
  ·rw[e1]
   refine F9 h0 h1 h ii ii fun j m hj hm=> ?_
   by_cases k:j<i
   ·exact hq j m k hm
   ·obtain rfl:j=i:=by omega
    rw[show(j:Int).toNat=j by omega,hm] at hx
    cases hx
    exact he z
  ·obtain⟨j,hj⟩:=TJ.1 hm
   exact hq j m (by have:=(Tk.1 hj).1;omega) hj
theorem Gb (h0:0<=level) (h1:level<=100) {l:List aO} {ms:List (Mem aO)} (hms:ms.length<=1000) (h:∀x∈l,bu (rec x (level+1)) fun e=>e=0->Q x) (hm:∀m∈ms,bu (rec m.data (level+1)) fun e=>e=0->Q m.data):∀{f i:Nat},l.length+1<=f+i->i<=l.length->(∀(j:Nat) (x:aO),j<i->l[j]? =some x->Q x)->bu (DC rec level l ms f i) fun e=>e=0->(∀x∈l,Q x)/\∀m∈ms,Q m.data
 |0,i,hf,hi,_=>by omega
 |f+1,i,hf,hi,hq=>by
  have e1:((i:Int)+1)=((i+1:Nat):Int):=by omega
  unfold DC
  refine ak (fun g=>a7 ii ii fun x hx hm'=>ar ⟨by omega,by omega⟩ (au (h x hm') fun e he=>ak (fun z=> ?_) fun z=>aj fun k=>(z k).elim)) fun g=> ?_
  ·rw[e1]
   refine Gb h0 h1 hms h hm ii ii fun j m hj hm=> ?_
   by_cases k:j<i
   ·exact hq j m k hm
   ·obtain rfl:j=i:=by omega
    rw[show(j:Int).toNat=j by omega,hm] at hx
    cases hx
    exact he z
  ·refine(F9 h0 h1 hm (f:=ms.length+1) (i:=0) ii ii fun j _ hj=>by omega).mono fun e k z=>⟨fun x hx=> ?_,k z⟩
   obtain⟨j,hj⟩:=TJ.1 hx
   exact hq j x (by have:=(Tk.1 hj).1;omega) hj
theorem Ga (h0:0<=level) (h1:level<=100) {l:List aO} {ms:List (Mem aO)} (hms:ms.length<=1000) (h:∀x∈l,bu (rec x (level+1)) fun e=>e=0->Q x) (hm:∀m∈ms,bu (rec m.data (level+1)) fun e=>e=0->Q m.data):∀{f i:Nat},1<=i->ms.length+2<=f+i->i<=ms.length+1->wa ms i->bu (DB rec level l ms f i) fun e=>e=0->rJ ms/\(∀x∈l,Q x)/\∀m∈ms,Q m.data
 |0,i,_,hf,hi,_=>by omega
 |f+1,i,hi0,hf,hi,hs=>by
  have e1:((i:Int)+1)=((i+1:Nat):Int):=by omega
  unfold DB
  refine ak (fun g=>ar ⟨by omega,by omega⟩ (a7 ii ii fun x hx _=>a7 ii ii fun y hy _=>ak (fun g1=> ?_) fun _=>aj fun h=>by cases h)) fun g=> ?_
  ·rw[show((i:Int)-1).toNat=i-1 by omega] at hx
   rw[show(i:Int).toNat=i by omega] at hy
   rw[e1]
   exact Ga h0 h1 hms h hm ii ii ii (hs.next hi0 hx hy g1)
  ·exact(Gb h0 h1 hms h hm (f:=l.length+1) (i:=0) ii ii fun j _ hj=>by omega).mono fun e k z=>⟨hs.xa ii,k z⟩
end
theorem Ru {c:cJ aO} (h1:c.items.length<=1000) (h2:c.members.length<=1000) (ho:jL c=some true) (ha:rJ c.members) (hb:c.kind=2->c.num=0\/c.num=1) (hn:c.kind=3-> -1000000000000000<=c.num/\c.num<=1000000000000000):qX c=some 0:=by
 have hl:hN c.members (c.members.length+1) 1=some 0:=zE ha h2 (i:=1) (Tp _) ii ii
 have hO:((aN c.members).bind fun _=>hN c.members (c.members.length+1) 1)=some 0:=by
  rw[aP ii]
  exact hl
 unfold qX
 rw[ho,HP,Th rfl]
 by_cases k2:c.kind=2
 ·rw[Th k2]
  rcases hb k2 with z|z
  ·rw[Th z];exact hO
  ·rw[Ti ii,Th z];exact hO
 ·rw[Ti k2]
  by_cases k3:c.kind=3
  ·have hf:sH c.num=some true:=by
    unfold sH
    rw[Th (hn k3).1,Uc (hn k3).2]
   rw[Th k3,hf,HP,Th rfl]
   exact hO
  ·rw[Ti k3]
   exact hO
theorem ug:∀{f g:Nat} {d:aO} {level:Int},Nb g d->1<=level->18<=level+f->level<=17->bu (kW f d level) fun e=>e=0->AK level d
 |0,_,_,_,_,_,h,h'=>by omega
 |f+1,0,_,_,h,_,_,_=>h.elim
 |f+1,g+1,d,level,hb,h0,hf,h17=>by
  have hb':=hb
  obtain⟨b1,b2,b3,b4,b5⟩:=hb'
  have kB:level<=16->jL d.c=some true->(1<=d.c.kind/\d.c.kind<=6)->(d.c.kind=2->d.c.num=0\/d.c.num=1)->(d.c.kind=3-> -1000000000000000<=d.c.num/\d.c.num<=1000000000000000)->bu (Ni (kW f) level d.c) fun e=>e=0->AK level d:=fun h16 o1 hk o2 o3=>by
   unfold Ni
   refine ar ii (ar ii ?_)
   refine(Ga (Q:=AK (level+1)) ii ii ii (fun x hx=>ug (b4 x hx) ii ii ii) (fun m hm=>ug (b5 m hm).2 ii ii ii) (f:=d.c.members.length+1) (i:=1) (Tp _) ii ii fun j _ _ hj=>by omega).mono fun e h z=> ?_
   obtain⟨ha,hi,hm⟩:=h z
   exact L6 ii h16 hb (Ru ii ii o1 ha o2 o3) ha hk hi hm
  have bad:∀e:Int,e≠0->bu (some e) fun e=>e=0->AK level d:=fun e he=>aj fun z=>(he z).elim
  unfold kW rcC
  refine ak (fun _=>bad _ ii) fun h16=>au (KF ii ii) fun b hp=> ?_
  cases b with
  |false=>exact bad _ ii
  |true=>
   obtain⟨o1,hk⟩:=hp rfl
   refine ak (fun _=>ak (fun k2=>ak (fun z=>kB ii o1 hk (fun _=> .inl z) ii) fun _=>ak (fun z=>kB ii o1 hk (fun _=> .inr z) ii) fun _=>bad _ ii) fun k2=>ak (fun k3=>au Kz fun b hb=> ?_) fun k3=>kB ii o1 hk (fun z=>(k2 z).elim) fun z=>(k3 z).elim) fun h=>(h rfl).elim
   cases b with
   |false=>exact bad _ ii
   |true=>exact kB ii o1 hk (fun z=>(k2 z).elim) fun _=>hb rfl
theorem BL {g:Nat} {d:aO} (h:Nb g d):bu (Ic d) fun e=>e=0->ko 15 d:=(ug (f:=18) (level:=1) h ii ii ii).mono fun e h1 h2=>by
 obtain⟨n,e1,e2⟩:=h1 h2
 rwa [show n=15 by omega] at e2
def JB (n:Nat):Nat->aO->Prop
 |0,_=>True
 |f+1,d=>d.c.str.length<=n/\d.c.items.length<=n/\d.c.members.length<=n/\(∀x∈d.c.items,JB n f x)/\∀m∈d.c.members,m.label.length<=n/\JB n f m.data
def SzP:Nat->aO->Prop
 |0,_=>False
 |f+1,d=>d.c.items.length<=40/\d.c.members.length<=40/\(∀x∈d.c.items,SzP f x)/\∀m∈d.c.members,SzP f m.data
theorem kI {α:Type} {l:List α} {i:Nat} {x:α} (h:l[i]? =some x):l.drop i=x::l.drop (i+1):=by
 obtain⟨h1,h2⟩:=Tk.1 h
 rw[<-h2,TN h1]
theorem GO:∀{j:Nat} {d:aO},1<=o8 j d
 |0,d=>Tp _
 |j+1,d=>by unfold o8;omega
theorem uK {α:Type} {g:α->Nat}:∀{l:List α},(∀x∈l,1<=g x)->l.length<=fB g l
 |[],_=>Tp _
 |x::r,h=>by
  have:=h x (Tn ..)
  have:=uK fun y hy=>h y (Tm _ hy)
  unfold fB
  rw[Tu]
  omega
section
variable {rec:aO->Int->Option Int} {most:Int} {S:aO->Prop}
def Mea (S:aO->Prop) (d:aO) (k:Int) (r:Int):Prop:=1<=r/\r<=k+1/\(r<=k->S d/\∀j,(o8 j d:Int)<=r)
theorem FL (h0:0<=most) (h40:most<=40) {ms:List (Mem aO)} (hl:ms.length<=9223372036854775807) (h:∀m∈ms,∀k,0<=k->k<most->bu (rec m.data k) (Mea S m.data k)):∀{f i:Nat} {n:Int},1<=n->n<=most+1->ms.length+1<=f+i->i<=ms.length->bu (J0 rec most ms f i n) fun r=>n<=r/\r<=most+1/\(r<=most->(∀j,n+(fB (fun m=>o8 j m.data) (ms.drop i):Nat)<=r)/\∀m∈ms.drop i,S m.data)
 |0,i,n,_,_,hf,hi=>by omega
 |f+1,i,n,hn,hn',hf,hi=>by
  have e1:((i:Int)+1)=((i+1:Nat):Int):=by omega
  unfold J0
  refine ar ii (ak (fun g=>ak (fun g1=>a7 ii ii fun x hx hm=>ar ⟨by omega,by omega⟩ (au (h x hm (most-n) ii ii) fun k hk=>ar ⟨by have:=hk.1;omega,by have:=hk.2.1;omega⟩ ?_)) fun g1=>aj ⟨by omega,by omega,fun z=>by omega⟩) fun g=>aj ⟨by omega,by omega,fun z=> ?_⟩)
  ·obtain⟨k1,k2,k3⟩:=hk
   rw[e1]
   refine(FL h0 h40 hl h ii ii ii ii).mono fun r hr=> ?_
   obtain⟨r1,r2,r3⟩:=hr
   refine⟨by omega,r2,fun z=> ?_⟩
   obtain⟨s1,s2⟩:=r3 z
   obtain⟨k4,k5⟩:=k3 ii
   rw[show(i:Int).toNat=i by omega] at hx
   rw[kI hx]
   refine⟨fun j=> ?_,fun m hm=> ?_⟩
   ·have:=s1 j
    have:=k5 j
    have e:fB (fun m:Mem aO=>o8 j m.data) (x::ms.drop (i+1))=o8 j x.data+fB (fun m:Mem aO=>o8 j m.data) (ms.drop (i+1)):=rfl
    rw[e]
    omega
   ·rcases Tv.1 hm with rfl|hm
    ·exact k4
    ·exact s2 m hm
  ·rw[TV ii]
   exact⟨fun j=>by show n+((0:Nat):Int)<=n;omega,fun m hm=>by cases hm⟩
theorem FM (h0:0<=most) (h40:most<=40) {l:List aO} {ms:List (Mem aO)} (hl:l.length<=9223372036854775807) (hms:ms.length<=9223372036854775807) (h:∀x∈l,∀k,0<=k->k<most->bu (rec x k) (Mea S x k)) (hm:∀m∈ms,∀k,0<=k->k<most->bu (rec m.data k) (Mea S m.data k)):∀{f i:Nat} {n:Int},1<=n->n<=most+1->l.length+1<=f+i->i<=l.length->bu (Ra rec most l ms f i n) fun r=>n<=r/\r<=most+1/\(r<=most->(∀j,n+(fB (o8 j) (l.drop i):Nat)+(fB (fun m=>o8 j m.data) ms:Nat)<=r)/\(∀x∈l.drop i,S x)/\∀m∈ms,S m.data)
 |0,i,n,_,_,hf,hi=>by omega
 |f+1,i,n,hn,hn',hf,hi=>by
  have e1:((i:Int)+1)=((i+1:Nat):Int):=by omega
  have kM:=FL (S:=S) h0 h40 hms hm (f:=ms.length+1) (i:=0) (n:=n) hn hn' ii ii
  rw[Uu] at kM
  unfold Ra
  refine ar ii (ak (fun g=>ak (fun g1=>a7 ii ii fun x hx hm'=>ar ⟨by omega,by omega⟩ (au (h x hm' (most-n) ii ii) fun k hk=>ar ⟨by have:=hk.1;omega,by have:=hk.2.1;omega⟩ ?_)) fun g1=> ?_) fun g=> ?_)
  ·obtain⟨k1,k2,k3⟩:=hk
   rw[e1]
   refine(FM h0 h40 hl hms h hm ii ii ii ii).mono fun r hr=> ?_
   obtain⟨r1,r2,r3⟩:=hr
   refine⟨by omega,r2,fun z=> ?_⟩
   obtain⟨s1,s2,s3⟩:=r3 z
   obtain⟨k4,k5⟩:=k3 ii
   rw[show(i:Int).toNat=i by omega] at hx
   rw[kI hx]
   refine⟨fun j=> ?_,fun m hm=> ?_,s3⟩
   ·have:=s1 j
    have:=k5 j
    have e:fB (o8 j) (x::l.drop (i+1))=o8 j x+fB (o8 j) (l.drop (i+1)):=rfl
    rw[e]
    omega
   ·rcases Tv.1 hm with rfl|hm
    ·exact k4
    ·exact s2 m hm
  ·exact kM.mono fun r hr=>⟨hr.1,hr.2.1,fun z=>by have:=hr.1;omega⟩
  ·rw[TV ii]
   exact kM.mono fun r hr=>⟨hr.1,hr.2.1,fun z=>⟨fun j=>by have:=(hr.2.2 z).1 j;show n+((0:Nat):Int)+_<=r;omega,fun x hx=>(by cases hx),(hr.2.2 z).2⟩⟩
end
theorem zb {n:Nat} (hn:n<=9223372036854775807):∀{f:Nat} {d:aO} {most:Int},JB n f d->0<=most->most<=40->most+1<=f->bu (NY f d most) (Mea (SzP f) d most)
 |0,d,most,_,h0,_,hf=>by omega
 |f+1,d,most,hd,h0,h40,hf=>by
  obtain⟨w1,w2,w3,w4,w5⟩:=hd
  unfold NY
  refine(FM (S:=SzP f) h0 h40 ii ii (fun x hx k k0 k1=>zb hn (w4 x hx) k0 ii ii) (fun m hm k k0 k1=>zb hn (w5 m hm).2 k0 ii ii) (f:=d.c.items.length+1) (i:=0) (n:=1) ii ii ii ii).mono fun r hr=> ?_
  obtain⟨r1,r2,r3⟩:=hr
  refine⟨r1,r2,fun z=> ?_⟩
  obtain⟨s1,s2,s3⟩:=r3 z
  rw[Uu] at s1 s2
  have t:=s1 0
  have t1:=uK (g:=o8 0) (l:=d.c.items) fun x _=>GO
  have t2:=uK (g:=fun m:Mem aO=>o8 0 m.data) (l:=d.c.members) fun x _=>GO
  refine⟨⟨by omega,by omega,s2,s3⟩,fun j=> ?_⟩
  cases j with
  |zero=>show((1:Nat):Int)<=r;omega
  |succ j=>
   have:=s1 j
   unfold o8
   omega
theorem FT {rec:aO->Option Bool} {n:Nat} (hn:n<=9223372036854775807) {Q:aO->Prop} {ms:List (Mem aO)} (hms:ms.length<=1000) (hw:∀m∈ms,m.label.length<=n) (h:∀m∈ms,bu (rec m.data) fun b=>b=true->Q m.data):∀{f i:Nat},ms.length+1<=f+i->i<=ms.length->bu (Rf rec ms f i) fun b=>b=true->∀m∈ms.drop i,m.label.length<=80/\Q m.data
 |0,i,hf,hi=>by omega
 |f+1,i,hf,hi=>by
  have e1:((i:Int)+1)=((i+1:Nat):Int):=by omega
  unfold Rf
  refine ar ii (ak (fun g=>a7 ii ii fun x hx hm=>ar (by have:=hw x hm;omega) (ak (fun _=>aj fun z=>by cases z) fun g1=>a7 ii ii fun y hy _=> ?_)) fun g=>aj fun _ m hm=> ?_)
  ·rw[hx] at hy
   cases hy
   refine au (h x hm) fun b hb=> ?_
   cases b with
   |false=>exact aj fun z=>by cases z
   |true=>
    rw[Th rfl,e1]
    refine(FT hn hms hw h ii ii).mono fun b' h' z m hm=> ?_
    rw[show(i:Int).toNat=i by omega] at hx
    rw[kI hx] at hm
    rcases Tv.1 hm with rfl|hm
    ·exact⟨by omega,hb rfl⟩
    ·exact h' z m hm
  ·rw[TV ii] at hm
   cases hm
theorem FU {rec:aO->Option Bool} {n:Nat} (hn:n<=9223372036854775807) {Q:aO->Prop} {l:List aO} {ms:List (Mem aO)} (hl:l.length<=1000) (hms:ms.length<=1000) (hw:∀m∈ms,m.label.length<=n) (hi':∀x∈l,bu (rec x) fun b=>b=true->Q x) (h:∀m∈ms,bu (rec m.data) fun b=>b=true->Q m.data):∀{f i:Nat},l.length+1<=f+i->i<=l.length->bu (Rg rec l ms f i) fun b=>b=true->(∀x∈l.drop i,Q x)/\∀m∈ms,m.label.length<=80/\Q m.data
 |0,i,hf,hi=>by omega
 |f+1,i,hf,hi=>by
  have e1:((i:Int)+1)=((i+1:Nat):Int):=by omega
  unfold Rg
  refine ar ii (ak (fun g=>a7 ii ii fun x hx hm=>au (hi' x hm) fun b hb=> ?_) fun g=> ?_)
  ·cases b with
   |false=>exact aj fun z=>by cases z
   |true=>
    rw[Th rfl,e1]
    refine(FU hn hl hms hw hi' h ii ii).mono fun b' h' z=>⟨fun y hy=> ?_,(h' z).2⟩
    rw[show(i:Int).toNat=i by omega] at hx
    rw[kI hx] at hy
    rcases Tv.1 hy with rfl|hy
    ·exact hb rfl
    ·exact(h' z).1 y hy
  ·refine(FT hn hms hw h (f:=ms.length+1) (i:=0) ii ii).mono fun b hb z=>⟨fun x hx=> ?_,fun m hm=> ?_⟩
   ·rw[TV ii] at hx
    cases hx
   ·exact hb z m (by rw[Uu];exact hm)
theorem zi {n:Nat} (hn:n<=9223372036854775807):∀{f:Nat} {d:aO},JB n f d->SzP f d->bu (Qq f d) fun b=>b=true->Nb f d
 |0,d,_,h=>h.elim
 |f+1,d,hd,hs=>by
  obtain⟨w1,w2,w3,w4,w5⟩:=hd
  obtain⟨s1,s2,s3,s4⟩:=hs
  unfold Qq
  refine ar ii (ak (fun _=>aj fun z=>by cases z) fun g=> ?_)
  refine(FU hn (Q:=Nb f) ii ii (fun m hm=>(w5 m hm).1) (fun x hx=>zi hn (w4 x hx) (s3 x hx)) (fun m hm=>zi hn (w5 m hm).2 (s4 m hm)) (f:=d.c.items.length+1) (i:=0) ii ii).mono fun b hb z=> ?_
  obtain⟨h1,h2⟩:=hb z
  rw[Uu] at h1
  exact⟨by omega,s1,s2,h1,h2⟩
theorem oJ {n:Nat} (hn:n<=9223372036854775807) {d:aO} (h:JB n 50 d):bu (oK d) fun b=>b=true->Nb 50 d/\∀j,o8 j d<=40:=by
 unfold oK
 refine au (zb hn (f:=50) (most:=40) h ii ii ii) fun r hr=>ak (fun g=> ?_) fun _=>aj fun z=>by cases z
 obtain⟨h1,h2⟩:=hr.2.2 g
 exact(zi hn h h1).mono fun b hb z=>⟨hb z,fun j=>by have:=h2 j;omega⟩
section
variable {rec:aO->aO->Option Bool} {a b:cJ aO}
theorem FX (hl:a.members.length=b.members.length) (h1000:a.members.length<=1000) (h:∀(i:Nat) (x y:Mem aO),a.members[i]? =some x->b.members[i]? =some y->bu (rec x.data y.data) fun t=>t=true↔x.data=y.data):∀{f i:Nat},a.members.length+1<=f+i->i<=a.members.length->(∀j,j<i->a.members[j]? =b.members[j]?)->bu (Qr rec a b f i) fun t=>t=true↔a.members=b.members
 |0,i,hf,hi,_=>by omega
 |f+1,i,hf,hi,hp=>by
  have e1:((i:Int)+1)=((i+1:Nat):Int):=by omega
  have no:∀{x y:Mem aO},a.members[i]? =some x->b.members[i]? =some y->x≠y->bu (some false) fun t=>t=true↔a.members=b.members:=fun{x y} hx hy e=>aj ⟨fun z=>(by cases z),fun z=>by
   rw[z,hy] at hx
   cases hx
   exact(e rfl).elim⟩
  unfold Qr
  refine ar ii (ak (fun g=> ?_) fun g=>aj ⟨fun _=>Vc fun j=> ?_,fun _=>rfl⟩)
  ·have hx:a.members[i]? =some a.members[i]:=Tj ii
   have hy:b.members[i]? =some b.members[i]:=Tj ii
   rw[cz hx,cz hy]
   refine ak (fun g1=> ?_) fun g1=>no hx hy fun e=>g1 (by rw[e])
   rw[cz hx,cz hy]
   refine au (h i _ _ hx hy) fun t ht=> ?_
   cases t with
   |false=>exact no hx hy fun e=>by have:=ht.2 (by rw[e]);cases this
   |true=>
    rw[Th rfl,e1]
    refine FX hl h1000 h ii ii fun j hj=> ?_
    by_cases k:j<i
    ·exact hp j k
    ·obtain rfl:j=i:=by omega
     rw[hx,hy]
     have e2:=ht.1 rfl
     have:a.members[j]=b.members[j]:=by
      cases q:a.members[j]
      cases q':b.members[j]
      rw[q,q'] at g1 e2
      simp only at g1 e2
      rw[g1,e2]
     rw[this]
  ·by_cases k:j<a.members.length
   ·exact hp j ii
   ·rw[T2 ii,T2 ii]
theorem FY (hl:a.items.length=b.items.length) (h1000:a.items.length<=1000) (h:∀(i:Nat) (x y:aO),a.items[i]? =some x->b.items[i]? =some y->bu (rec x y) fun t=>t=true↔x=y) (hM:bu (Qr rec a b (a.members.length+1) 0) fun t=>t=true↔a.members=b.members):∀{f i:Nat},a.items.length+1<=f+i->i<=a.items.length->(∀j,j<i->a.items[j]? =b.items[j]?)->bu (Rm rec a b f i) fun t=>t=true↔a.items=b.items/\a.members=b.members
 |0,i,hf,hi,_=>by omega
 |f+1,i,hf,hi,hp=>by
  have e1:((i:Int)+1)=((i+1:Nat):Int):=by omega
  have no:∀{x y:aO},a.items[i]? =some x->b.items[i]? =some y->x≠y->bu (some false) fun t=>t=true↔a.items=b.items/\a.members=b.members:=fun{x y} hx hy e=>aj ⟨fun z=>(by cases z),fun z=>by
   rw[z.1,hy] at hx
   cases hx
   exact(e rfl).elim⟩
  unfold Rm
  refine ar ii (ak (fun g=> ?_) fun g=> ?_)
  ·have hx:a.items[i]? =some a.items[i]:=Tj ii
   have hy:b.items[i]? =some b.items[i]:=Tj ii
   rw[cz hx,cz hy]
   refine au (h i _ _ hx hy) fun t ht=> ?_
   cases t with
   |false=>exact no hx hy fun e=>by have:=ht.2 e;cases this
   |true=>
    rw[Th rfl,e1]
    refine FY hl h1000 h hM ii ii fun j hj=> ?_
    by_cases k:j<i
    ·exact hp j k
    ·obtain rfl:j=i:=by omega
     rw[hx,hy,ht.1 rfl]
  ·have he:a.items=b.items:=Vc fun j=>by
    by_cases k:j<a.items.length
    ·exact hp j ii
    ·rw[T2 ii,T2 ii]
   exact hM.mono fun t ht=>⟨fun z=>⟨he,ht.1 z⟩,fun z=>ht.2 z.2⟩
end
theorem zt:∀{f n m:Nat} {a b:aO},ko n a->ko m b->n<f->bu (Oe f a b) fun t=>t=true↔a=b
 |0,n,m,a,b,_,_,h=>by omega
 |f+1,n,m,a,b,ha,hb,hf=>by
  have ca:=ha.c
  have cb:=hb.c
  have a1:=ca.il
  have a2:=ca.ml
  have b1:=cb.il
  have b2:=cb.ml
  have no:∀{P:Prop},(P->False)->bu (some false) fun t=>t=true↔P:=fun{P} h=>aj ⟨fun z=>(by cases z),fun z=>(h z).elim⟩
  have kid:∀x y,xe n x->xe m y->bu (Oe f x y) fun t=>t=true↔x=y:=fun x y hx hy=>by
   obtain⟨n',rfl,hx⟩:=jt hx
   obtain⟨m',rfl,hy⟩:=jt hy
   exact zt hx hy ii
  unfold Oe sdC
  refine ak (fun e1=>ak (fun e2=>ak (fun e3=>ar ii (ar ii (ak (fun e4=>ar ii (ar ii (ak (fun e5=> ?_) fun e5=>no fun z=>e5 (by rw[z])))) fun e4=>no fun z=>e4 (by rw[z])))) fun e3=>no fun z=>e3 (by rw[z])) fun e2=>no fun z=>e2 (by rw[z])) fun e1=>no fun z=>e1 (by rw[z])
  refine(FY ii ii (fun i x y hx hy=>kid x y (ca.it x (Ts hx)) (cb.it y (Ts hy))) (FX ii ii (fun i x y hx hy=>kid x.data y.data (ca.me x (Ts hx)).2 (cb.me y (Ts hy)).2) (f:=a.c.members.length+1) (i:=0) ii ii fun j hj=>by omega) (f:=a.c.items.length+1) (i:=0) ii ii fun j hj=>by omega).mono fun t ht=>ht.trans ⟨fun z=>o9 (lr e1 e2 e3 z.1 z.2),fun z=>by rw[z];exact⟨rfl,rfl⟩⟩
theorem JE:iA zV=some true:=by kernel_rfl
theorem cu.sub {o:Va}:∀{f:Nat} {d:aO} {x:Va},cu o f d x->∃t,dA bw x.v.sc=some t/\t=true
 |0,_,_,h=>h.elim
 |f+1,d,x,h=>by
  have fin:∀{s:bX},tj 1 81 s->∃t,dA bw s=some t/\t=true:=fun{s} hs=>by
   obtain⟨t,t1,t2⟩:=eO (k:=1) (m:=1) (n:=81) ii ii (dW 1 81) hs
   exact⟨t,t1,t2.2 fun d hd=>(QB d hd).elim⟩
  rcases h with⟨_,one,_,h2,rfl⟩|⟨_,l,rfl,h1⟩|⟨_,fs,k,rfl,h1,h2,h3⟩
  ·exact fin h2.v
  ·exact fin (dW 1 81)
  ·exact fin (dW 1 81)
theorem cu.samz {o:Va}:∀{f n:Nat} {d:aO} {x:Va},cu o f d x->∃t,ep (n+1) zV x.v=some t
 |0,_,_,_,h=>h.elim
 |f+1,n,d,x,h=>by
  have hz:fQ bw bw=some true:=gF (k:=1) (n:=1) ii ii (dW 1 1)
  rcases h with⟨_,one,_,h2,rfl⟩|⟨_,l,rfl,h1⟩|⟨_,fs,k,rfl,h1,h2,h3⟩
  ·obtain⟨t,ht,_⟩:=xx (k:=1) (n:=1) ii ii (b:=one) (dW 1 1).sb
   unfold ep
   show∃t,(if(false==false)=true then(fQ bw one).bind _ else _)=some t
   rw[Th (show(false==false)=true from rfl),ht,HP]
   cases t with
   |false=>exact⟨false,rfl⟩
   |true=>exact⟨true,rfl⟩
  ·unfold ep
   show∃t,(if(false==false)=true then(fQ bw bw).bind _ else _)=some t
   rw[Th (show(false==false)=true from rfl),hz,HP]
   exact⟨false,rfl⟩
  ·unfold ep
   show∃t,(if(false==false)=true then(fQ bw bw).bind _ else _)=some t
   rw[Th (show(false==false)=true from rfl),hz,HP]
   exact⟨false,rfl⟩
theorem cu.belz {o:Va} {f:Nat} {d:aO} {x:Va} (h:cu o f d x):iG jr zV x.v=some true:=by
 obtain⟨t,ht⟩:=h.samz (n:=63)
 obtain⟨u,u1,u2⟩:=h.sub
 unfold jr iG
 show(if false=true then _ else if x.v.any=true then _ else Option.bind ((ep 64 zV x.v).bind fun c=>if c then ep hY zV zV else some false) _)=_
 rw[Ti nf,h.OA,Ti nf,ht,HP]
 cases t with
 |true=>rw[Th rfl,AR,HP,Th rfl]
 |false=>
  rw[Ti nf,HP,Ti nf]
  show Option.bind (dA bw x.v.sc) _=_
  rw[u1,u2,HP,Th rfl]
  rfl
theorem cu.gdR {o:Va} (ho:AL o) {f n:Nat} {d:aO} {x:Va} (h:cu o f d x) (hd:ko n d) (hf:f<64) (hs:eQ x=some true):yg x.v=some true:=by
 have h1:iA x.v=some true:=by
  unfold eQ at hs
  obtain⟨a,a1,a2⟩:=aa hs
  cases a with
  |true=>exact a1
  |false=>cases a2
 have hc:=cu.can ho h hd (show f<jr from hf) hf
 have hz:jw jr zV=some (zV,true):=rX.can 63
 have hm:mw (.mk x.v zV)=some (.mk x.v zV,0):=by
  unfold mw eQ
  show Option.bind ((iA x.v).bind fun a=>if a then iA zV else some false) _=_
  rw[h1,HP,Th rfl,JE,HP,Th rfl]
  unfold pa
  show Option.bind ((jw jr x.v).bind fun a=>(jw jr zV).bind fun b=>_) _=_
  rw[hc,HP,hz,HP,Th rfl,Th rfl,h.belz]
  rfl
 unfold yg jW
 rw[hm,HP,Th rfl]
 show((ep hY x.v x.v).bind fun c=>if c then ep hY zV zV else some false)=_
 rw[cu.Qt ho h hd (show f<hY from hf),HP,Th rfl,AR]
theorem PU {d:aO} (h:Nb 50 d) (hz:∀j,o8 j d<=40):∃p,PV d=some p/\(p.2=0->ko 15 d/\cu pv 18 d p.1/\eQ p.1=some true):=by
 obtain⟨e,e1,e2⟩:=Ms h
 unfold PV uE
 rw[e1,HP]
 by_cases g:e=0
 ·have hok:=e2 g
  rw[Th g]
  obtain⟨x,x1,x2⟩:=zJ (other:=pv) (f:=18) hok ii ii
  have hv:ND 15 d<=1000000000:=by
   have:=hz 15
   unfold ND
   have:3*2^15*o8 15 d<=3*2^15*40:=Nat.mul_le_mul_left _ this
   omega
  obtain⟨t,ht⟩:∃t,eQ x=some t:=⟨_,x2.sound rX hok ii hv⟩
  obtain⟨m1,m2⟩:=x2.make rX hok ii
  rw[x1,HP,ht,HP]
  cases t with
  |false=>exact⟨_,rfl,fun z=>by cases z⟩
  |true=>exact⟨(x,0),m1 ht,fun _=>⟨hok,x2,ht⟩⟩
 ·rw[Ti g]
  exact⟨_,rfl,fun z=>(g z).elim⟩
theorem GD {x:bG Va} {c:aO} {t:Bool} (hg:yg x=some true) (hc:ko 15 c) (h:lP 20 x c=some t):IK x c=some t:=by
 have hchk:lU c=some 0:=pb hc ii ii ii
 unfold IK
 rw[hg,HP,Th rfl,hchk,HP,Th rfl,h]
theorem IE {n:Nat} (hn:n<=9223372036854775807) {c d:aO} (hc:JB n 50 c) (hd:JB n 50 d):OQ c d=some true:=by
 obtain⟨s,s1,s2⟩:=oJ hn hc
 obtain⟨t,t1,t2⟩:=oJ hn hd
 unfold OQ
 rw[s1,HP]
 cases s with
 |false=>rw[Ti nf,fe]
 |true=>
  rw[Th rfl,t1,HP]
  cases t with
  |false=>rw[Ti nf,fe]
  |true=>
   obtain⟨bc,_⟩:=s2 rfl
   obtain⟨bd,zd⟩:=t2 rfl
   obtain⟨e,e1,e2⟩:=BL bc
   rw[Th rfl,e1,HP]
   by_cases g:e=0
   ·have hok:=e2 g
    obtain⟨p,p1,p2⟩:=PU bd zd
    rw[Th g,p1,HP]
    by_cases g1:p.2=0
    ·obtain⟨hd1,hx,hs⟩:=p2 g1
     have hgd:=hx.gdR rX hd1 ii hs
     obtain⟨a,a1,a2⟩:=z8 (m:=20) hx hd1 hok ii ii ii
     obtain⟨b,b1,b2⟩:=z8 (m:=20) hx hd1 hd1 ii ii ii
     obtain⟨u,u1,u2⟩:=zt (f:=20) hok hd1 ii
     have hb:b=true:=b2.2 rfl
     have hau:(a==u)=true:=by
      have:a=true↔u=true:=a2.trans u2.symm
      cases a<;>cases u<;>simp_all
     rw[Th g1,GD hgd hok a1,HP]
     unfold rP
     rw[u1,HP,Th hau,GD hgd hd1 b1,HP,Th hb,fe]
    ·rw[Ti g1,fe]
   ·rw[Ti g,fe]
end Go.Proofs.YtaagahmkmcnhaaaGreatDoor
