/- For ConcreteWithin: functions of the program, walked beside Lean functions that say what they compute. -/
import Derived.Test.YtcejopopgcglpaaGreatDoorMe
set_option linter.unusedVariables false
set_option linter.unusedSimpArgs false
set_option linter.unusedSectionVars false
namespace Go.Proofs.YtcejopopgcglpaaGreatDoor
open Sv
set_option maxRecDepth 100000
set_option maxHeartbeats 2000000
structure oS where
 label:List UInt8
 index:Int
structure dh where
 path:List oS
 kG:Int
def jU (s:oS):List SVal:=[.str s.label,.int .i64 s.index]
instance :Cl jU:=⟨fun _=>rfl⟩
def iJ (p:dh):List SVal:=[.aK false (p.path.map jU),.int .i64 p.kG]
instance :Cl iJ:=⟨fun p=>by simp only[iJ,aB,closed,eM jU,V3]⟩
def ti (ps:List dh) (path:List oS) (e:Int):Option (List dh):=(push ps ⟨path,e⟩).bind fun ps=>some ps
theorem cK {ps r:List dh} {path:List oS} {e:Int} {hid:Bool} (hm:ti ps path e=some r):sX Tryz.prog 31 2 [.bool hid] (ps.map iJ) [.ptr 1 0,.aK false (path.map jU),.int .i64 e] fun s r'=>s= .dZ []/\r'=r.map iJ:=by
 refine nU ae (fn:=Tryz.f31) rfl rfl (eM _ _) (by simp only[nb,cX,c9,cG,V3];rfl) (fun t=> ?_)
 unfold ti at hm
 refine z ?_
 obtain⟨hg1,hm⟩:=aC hm
 refine z ?_
 refine aM ({path:=path,kG:=e}) rfl (z ?_)
 cases hm
 exact msl
abbrev pF:=Va->List oS->List dh->Option (bA×List dh)
abbrev VC (hid:Bool) (rec:pF):Prop:=∀{x path ps r},rec x path ps=some r->sX Tryz.prog 32 2 [.bool hid] (ps.map iJ) [.ptr 1 0,.agg (ec x),.aK false (path.map jU)] fun s r'=>s= .agg (cS r.1)/\r'=r.2.map iJ
def xp (rec:pF) (path:List oS):List Va->Int->List dh->List bA->Option (bA×List dh)
 |[],_,ps,out=>some (.mk ⟨5,0,[],out,[]⟩,ps)
 |x::r,i,ps,out=>(aR path).bind fun _=>(push path ⟨[],i⟩).bind fun p=>(rec x p ps).bind fun q=>(push out q.1).bind fun out=>xp rec path r (i+1) q.2 out
def Cd (rec:pF) (c:aV Va) (path:List oS) (ps:List dh):Option (bA×List dh):=(aR c.rest).bind fun _=>if(c.rest.length:Int)>0 then(ti ps path 14).bind fun ps=>some (.mk ⟨5,0,[],[],[]⟩,ps)
 else(aR c.items).bind fun _=>xp rec path c.items 0 ps []
theorem Cc {hid:Bool} {rec:pF} (h:VC hid rec) {c:aV Va} {path:List oS} {ps:List dh} {r:bA×List dh} (hm:Cd rec c path ps=some r):sX Tryz.prog 59 2 [.bool hid] (ps.map iJ) [.ptr 1 0,.agg (aS aN c),.aK false (path.map jU)] fun s r'=>s= .agg (cS r.1)/\r'=r.2.map iJ:=by
 refine nU ae (fn:=Tryz.f59) rfl rfl (eM _ _) (by simp only[nb,cX,c9,cG,V3];rfl) (fun t=> ?_)
 unfold Cd at hm
 rcases path with _|⟨p0,path⟩
 refine z ?_
 obtain⟨hg1,hm⟩:=ah hm
 refine zd ?_ ?_<;>intro h2
 rw[HP h2] at hm
 obtain⟨v3,e3,hm⟩:=aa hm
 refine bu 1 2 t (cK e3) rfl rfl rfl rfl rfl (fun t3=> ?_)
 refine z ?_
 cases hm
 refine a8 (z ?_)
 exact ml
 rw[TP h2] at hm
 obtain⟨hg4,hm⟩:=ah hm
 refine bK 5 3 5 rfl rfl ?_
 refine lg (α:=Nat×List dh×List bA×Nat×Nat) ae (fun(iw,s1,s2,ts1,ts2)=>(xp rec ([]) (List.drop iw c.items) (iw:Int) s1 s2=some r,⟨45,[(24,.int .i64 iw),(23,.int .i64 ↑c.items.length),(22,.aK false (List.map aN c.items)),(7,.ptr 5 0),(6,.ptr 4 0),(0,.ptr 1 0),(2,.aK false (List.map jU []))]⟩,⟨[(6,.row 5 (s2.map dP) ts2 false),(5,.cells [.int .i64 5,.int .i64 0,.str #[].toList,.own 6 ts2,.aD]),(4,.cells [.int .i64 0,.int .i64 0,.str #[].toList,.aD,.aD]),(3,.cells (aS aN c)),(0,ba),(1,.cells [.own 2 ts1,.bool hid]),(2,.row 2 (s1.map iJ) ts1 false)],7,0,[],[]⟩,List.length c.items-iw)) ⟨(0,_,_,t,(0)),hm⟩ ?_
 rintro⟨i5,s1_5,s2_5,ts1_5,ts2_5⟩ hq5
 dsimp only at hq5
 refine z ?_
 refine zd ?_ ?_<;>intro h6
 obtain⟨x6,ex6,ed6⟩:=av h6
 rw[ed6,xp] at hq5
 refine z ?_
 obtain⟨hg7,hq5⟩:=ah hq5
 refine bF (cA _) ex6 rfl (z ?_)
 refine dg ae [0,1,0,0,0,16,0,64,192,496,1020,2044,4095,8191,16383] [⟨14,0,0,[5]⟩,⟨12,0,0,[6]⟩,⟨10,0,0,[2,1,9]⟩] (z ?_)
 refine ce oP (z ?_)
 obtain⟨hg11,hq5⟩:=aC hq5
 refine z ?_
 refine BN jU ({label:=[],index:=↑i5}) rfl (z ?_)
 obtain⟨v12,e12,hq5⟩:=aa hq5
 refine dC 1 2 ts1_5 (h e12) (by simp only[aB,closed,aL,eM,cl,dF,V3]) rfl (z ?_)
 intro t12
 refine z ?_
 obtain⟨hg13,hq5⟩:=aC hq5
 refine z ?_
 refine aM v12.fst (eo _) (z ?_)
 exact bk ⟨(i5+1,_,_,t12,(ts2_5+1)),hq5⟩
 rw[aA h6,xp] at hq5
 cases hq5
 refine a8 (z ?_)
 exact ml
 refine z ?_
 obtain⟨hg1,hm⟩:=ah hm
 refine zd ?_ ?_<;>intro h2
 rw[HP h2] at hm
 obtain⟨v3,e3,hm⟩:=aa hm
 refine bu 1 2 t (cK e3) (by simp only[cz,bV,bU];rfl) rfl rfl rfl rfl (fun t3=> ?_)
 refine z ?_
 cases hm
 refine a8 (z ?_)
 exact ml
 rw[TP h2] at hm
 obtain⟨hg4,hm⟩:=ah hm
 refine bK 5 3 5 rfl rfl ?_
 refine lg (α:=Nat×List dh×List bA×Nat×Nat) ae (fun(iw,s1,s2,ts1,ts2)=>(xp rec (p0::path) (List.drop iw c.items) (iw:Int) s1 s2=some r,⟨45,[(24,.int .i64 iw),(23,.int .i64 ↑c.items.length),(22,.aK false (List.map aN c.items)),(7,.ptr 5 0),(6,.ptr 4 0),(0,.ptr 1 0),(2,.aK false (List.map jU (p0::path)))]⟩,⟨[(6,.row 5 (s2.map dP) ts2 false),(5,.cells [.int .i64 5,.int .i64 0,.str #[].toList,.own 6 ts2,.aD]),(4,.cells [.int .i64 0,.int .i64 0,.str #[].toList,.aD,.aD]),(3,.cells (aS aN c)),(0,ba),(1,.cells [.own 2 ts1,.bool hid]),(2,.row 2 (s1.map iJ) ts1 false)],7,0,[],[]⟩,List.length c.items-iw)) ⟨(0,_,_,t,(0)),hm⟩ ?_
 rintro⟨i5,s1_5,s2_5,ts1_5,ts2_5⟩ hq5
 dsimp only at hq5
 refine z ?_
 refine zd ?_ ?_<;>intro h6
 obtain⟨x6,ex6,ed6⟩:=av h6
 rw[ed6,xp] at hq5
 refine z ?_
 obtain⟨hg7,hq5⟩:=ah hq5
 refine bF (cA _) ex6 rfl (z ?_)
 refine dg ae [0,1,0,0,0,16,0,64,192,496,1020,2044,4095,8191,16383] [⟨14,0,0,[5]⟩,⟨12,0,0,[6]⟩,⟨10,0,0,[2,1,8]⟩,⟨9,0,0,[8]⟩] (z ?_)
 refine cd ae Tryz.f84 (z ?_)
 refine wZ (z ?_)
 refine ed (z ?_)
 obtain⟨hg12,hq5⟩:=aC hq5
 refine z ?_
 refine aM ({label:=[],index:=↑i5}) rfl (z ?_)
 obtain⟨v14,e14,hq5⟩:=aa hq5
 refine dC 1 2 ts1_5 (h e14) (by simp only[aB,closed,aL,eM,cl,dF,V3]) rfl (z ?_)
 intro t14
 refine z ?_
 obtain⟨hg15,hq5⟩:=aC hq5
 refine z ?_
 refine aM v14.fst (eo _) (z ?_)
 exact bk ⟨(i5+1,_,_,t14,(ts2_5+1)),hq5⟩
 rw[aA h6,xp] at hq5
 cases hq5
 refine a8 (z ?_)
 exact ml
def yV (hid:Bool) (w:List UInt8):Option Bool:=if hid then some false else if w=[] then some false else(cJ w 0).bind fun b=>if(b.toNat:Int)=95 then some true else if(b.toNat:Int)=35 then some true else some false
def Tj (hid:Bool) (rec:pF) (path p:List oS) (f:dy Va) (ps:List dh) (out:List (Mem bA)):Option (List dh×List (Mem bA)):=
 (yV hid f.label).bind fun l=>if l then some (ps,out) else if f.label=[] then if f.dR=1 then
   (rec f.val [] []).bind fun q=>(push out ⟨[],q.1⟩).bind fun out=>(aR q.2).bind fun _=>if(q.2.length:Int)>0 then(cJ q.2 0).bind fun e=>(ti ps path e.kG).bind fun ps=>some (ps,out) else some (ps,out)
  else if f.dR=2 then(ti ps p 13).bind fun ps=>some (ps,out) else(rec f.val p ps).bind fun q=>(push out ⟨f.label,q.1⟩).bind fun out=>some (q.2,out)
 else if f.dR=2 then(ti ps p 13).bind fun ps=>some (ps,out) else(rec f.val p ps).bind fun q=>(push out ⟨f.label,q.1⟩).bind fun out=>some (q.2,out)
def LP (hid:Bool) (rec:pF) (path:List oS):List (dy Va)->List dh->List (Mem bA)->Option (bA×List dh)
 |[],ps,out=>some (.mk ⟨6,0,[],[],out⟩,ps)
 |f::r,ps,out=>(aR path).bind fun _=>(push path ⟨f.label,0⟩).bind fun p=>if f.label=[] then(Tj hid rec path path f ps out).bind fun q=>LP hid rec path r q.1 q.2 else(Tj hid rec path p f ps out).bind fun q=>LP hid rec path r q.1 q.2
def Ca (hid:Bool) (rec:pF) (c:aF Va) (path:List oS) (ps:List dh):Option (bA×List dh):=(aR c.fields).bind fun _=>LP hid rec path c.fields ps []
theorem B9 {hid:Bool} {rec:pF} (h:VC hid rec) {c:aF Va} {path:List oS} {ps:List dh} {r:bA×List dh} (hm:Ca hid rec c path ps=some r):sX Tryz.prog 60 2 [.bool hid] (ps.map iJ) [.ptr 1 0,.agg (aG aN c),.aK false (path.map jU)] fun s r'=>s= .agg (cS r.1)/\r'=r.2.map iJ:=by
 refine nU ae (fn:=Tryz.f60) rfl rfl (eM _ _) (by simp only[nb,cX,c9,cG,V3];rfl) (fun t=> ?_)
 unfold Ca at hm
 rcases path with _|⟨p0,path⟩
 refine z ?_
 obtain⟨hg1,hm⟩:=ah hm
 refine bK 5 4 6 rfl rfl ?_
 refine lg (α:=Nat×List dh×List (Mem bA)×Nat×Nat) ae (fun(iw,s1,s2,ts1,ts2)=>(LP hid rec ([]) (List.drop iw c.fields) s1 s2=some r,⟨105,[(16,.int .i64 iw),(15,.int .i64 ↑c.fields.length),(14,.aK false (List.map (cZ aN) c.fields)),(7,.ptr 5 0),(6,.ptr 4 0),(0,.ptr 1 0),(2,.aK false (List.map jU []))]⟩,⟨[(6,.row 6 (s2.map (jV dP)) ts2 false),(5,.cells [.int .i64 6,.int .i64 0,.str #[].toList,.aD,.own 6 ts2]),(4,.cells [.int .i64 0,.int .i64 0,.str #[].toList,.aD,.aD]),(3,.cells (aG aN c)),(0,ba),(1,.cells [.own 2 ts1,.bool hid]),(2,.row 2 (s1.map iJ) ts1 false)],7,0,[],[]⟩,List.length c.fields-iw)) ⟨(0,_,_,t,(0)),hm⟩ ?_
 rintro⟨i2,s1_2,s2_2,ts1_2,ts2_2⟩ hq2
 dsimp only at hq2
 refine z ?_
 refine zd ?_ ?_<;>intro h3
 obtain⟨x3,ex3,ed3⟩:=av h3
 rw[ed3,LP] at hq2
 refine z ?_
 obtain⟨hg4,hq2⟩:=ah hq2
 refine bF (cP _) ex3 rfl (z ?_)
 refine dg ae [0,1,0,4,12,28,63,127] [] (z ?_)
 refine ce oP (z ?_)
 obtain⟨hg5,hq2⟩:=aC hq2
 refine z ?_
 refine BN jU ({label:=x3.label,index:=0}) rfl (z ?_)
 refine zd ?_ ?_<;>intro h6
 rw[HP h6] at hq2
 unfold Tj at hq2
 rw[VY] at hq2
 unfold yV at hq2
 refine z ?_
 refine ci ae Tryz.f85 (z ?_)
 refine zm ?_ ?_<;>intro h7
 rw[TP (nt h7)] at hq2
 rw[HP h6] at hq2
 dsimp only[Option.bind_some] at hq2
 rw[TP Wr] at hq2
 rw[HP h6] at hq2
 refine bnf h6 (z ?_)
 refine ei (z ?_)
 refine LA h6 (z ?_)
 refine zd ?_ ?_<;>intro h8
 rw[HP h8] at hq2
 rw[VY] at hq2
 refine z ?_
 refine dg ae [0,1,0,0,8,28,60,124,255,511,1023] [⟨10,0,0,[5]⟩,⟨8,0,0,[6]⟩,⟨5,0,0,[10,10]⟩] (z ?_)
 obtain⟨v11,e11,hq2⟩:=aa hq2
 refine fQ 10 0 2 rfl rfl ?_ rfl
 refine z ?_
 refine bu 10 11 (0) (h e11) (by simp only[cz,bV,bU];rfl) rfl rfl rfl rfl (fun t11=> ?_)
 rw[VY] at hq2
 refine z ?_
 obtain⟨hg12,hq2⟩:=aC hq2
 rw[VY] at hq2
 refine z ?_
 refine aM ({label:=[],data:=v11.fst}) (bJ _) (z ?_)
 obtain⟨hg13,hq2⟩:=ah hq2
 refine zd ?_ ?_<;>intro h14
 rw[HP h14] at hq2
 rw[VY] at hq2
 refine z ?_
 refine dg ae [0,1,3,0,0,16,48,112,240,496,1008,2032,4095] [] (z ?_)
 obtain⟨j15,x15,en15,ex15,hq2⟩:=az hq2
 refine aP en15 ex15 ?_
 rw[VY] at hq2
 refine z ?_
 refine bT ex15 (z ?_)
 obtain⟨v16,e16,hq2⟩:=aa hq2
 refine bu 1 2 ts1_2 (cK (hid:=hid) e16) rfl rfl rfl rfl rfl (fun t16=> ?_)
 dsimp only[Option.bind_some] at hq2
 refine z ?_
 exact bk ⟨(i2+1,_,_,t16,(ts2_2+1)),hq2⟩
 rw[TP h14] at hq2
 dsimp only[Option.bind_some] at hq2
 refine z ?_
 exact bk ⟨(i2+1,_,_,ts1_2,(ts2_2+1)),hq2⟩
 rw[TP h8] at hq2
 refine zd ?_ ?_<;>intro h17
 rw[HP h17] at hq2
 rw[VY] at hq2
 refine z ?_
 obtain⟨v18,e18,hq2⟩:=aa hq2
 refine bu 1 2 ts1_2 (cK (hid:=hid) e18) rfl rfl rfl rfl rfl (fun t18=> ?_)
 dsimp only[Option.bind_some] at hq2
 refine z ?_
 exact bk ⟨(i2+1,_,_,t18,ts2_2),hq2⟩
 rw[TP h17] at hq2
 rw[VY] at hq2
 refine z ?_
 refine dg ae [0,1,0,4,0,0,32,0,240,508,1020,2047,4095,8191] [⟨13,0,0,[5]⟩,⟨11,0,0,[6]⟩,⟨8,0,0,[2,1]⟩] (z ?_)
 obtain⟨v21,e21,hq2⟩:=aa hq2
 refine bu 1 2 ts1_2 (h e21) (by simp only[cz,bV,bU];rfl) rfl rfl rfl rfl (fun t21=> ?_)
 rw[VY] at hq2
 refine z ?_
 obtain⟨hg22,hq2⟩:=aC hq2
 dsimp only[Option.bind_some] at hq2
 refine z ?_
 refine aM ({label:=x3.label,data:=v21.fst}) (bJ _) (z ?_)
 exact bk ⟨(i2+1,_,_,t21,(ts2_2+1)),hq2⟩
 rw[HP h7] at hq2
 dsimp only[Option.bind_some] at hq2
 rw[TP Wr] at hq2
 rw[HP h6] at hq2
 refine ei (z ?_)
 refine LA h6 (z ?_)
 refine zd ?_ ?_<;>intro h23
 rw[HP h23] at hq2
 rw[VY] at hq2
 refine z ?_
 refine dg ae [0,1,0,0,8,28,60,124,255,511,1023] [⟨10,0,0,[5]⟩,⟨8,0,0,[6]⟩,⟨5,0,0,[10,10]⟩] (z ?_)
 obtain⟨v26,e26,hq2⟩:=aa hq2
 refine fQ 10 0 2 rfl rfl ?_ rfl
 refine z ?_
 refine bu 10 11 (0) (h e26) (by simp only[cz,bV,bU];rfl) rfl rfl rfl rfl (fun t26=> ?_)
 rw[VY] at hq2
 refine z ?_
 obtain⟨hg27,hq2⟩:=aC hq2
 rw[VY] at hq2
 refine z ?_
 refine aM ({label:=[],data:=v26.fst}) (bJ _) (z ?_)
 obtain⟨hg28,hq2⟩:=ah hq2
 refine zd ?_ ?_<;>intro h29
 rw[HP h29] at hq2
 rw[VY] at hq2
 refine z ?_
 refine dg ae [0,1,3,0,0,16,48,112,240,496,1008,2032,4095] [] (z ?_)
 obtain⟨j30,x30,en30,ex30,hq2⟩:=az hq2
 refine aP en30 ex30 ?_
 rw[VY] at hq2
 refine z ?_
 refine bT ex30 (z ?_)
 obtain⟨v31,e31,hq2⟩:=aa hq2
 refine bu 1 2 ts1_2 (cK (hid:=hid) e31) rfl rfl rfl rfl rfl (fun t31=> ?_)
 dsimp only[Option.bind_some] at hq2
 refine z ?_
 exact bk ⟨(i2+1,_,_,t31,(ts2_2+1)),hq2⟩
 rw[TP h29] at hq2
 dsimp only[Option.bind_some] at hq2
 refine z ?_
 exact bk ⟨(i2+1,_,_,ts1_2,(ts2_2+1)),hq2⟩
 rw[TP h23] at hq2
 refine zd ?_ ?_<;>intro h32
 rw[HP h32] at hq2
 rw[VY] at hq2
 refine z ?_
 obtain⟨v33,e33,hq2⟩:=aa hq2
 refine bu 1 2 ts1_2 (cK (hid:=hid) e33) rfl rfl rfl rfl rfl (fun t33=> ?_)
 dsimp only[Option.bind_some] at hq2
 refine z ?_
 exact bk ⟨(i2+1,_,_,t33,ts2_2),hq2⟩
 rw[TP h32] at hq2
 rw[VY] at hq2
 refine z ?_
 refine dg ae [0,1,0,4,0,0,32,0,240,508,1020,2047,4095,8191] [⟨13,0,0,[5]⟩,⟨11,0,0,[6]⟩,⟨8,0,0,[2,1]⟩] (z ?_)
 obtain⟨v36,e36,hq2⟩:=aa hq2
 refine bu 1 2 ts1_2 (h e36) (by simp only[cz,bV,bU];rfl) rfl rfl rfl rfl (fun t36=> ?_)
 rw[VY] at hq2
 refine z ?_
 obtain⟨hg37,hq2⟩:=aC hq2
 dsimp only[Option.bind_some] at hq2
 refine z ?_
 refine aM ({label:=x3.label,data:=v36.fst}) (bJ _) (z ?_)
 exact bk ⟨(i2+1,_,_,t36,(ts2_2+1)),hq2⟩
 rw[TP h6] at hq2
 unfold Tj at hq2
 rw[VY] at hq2
 unfold yV at hq2
 refine z ?_
 refine ci ae Tryz.f85 (z ?_)
 refine zm ?_ ?_<;>intro h38
 rw[TP (nt h38)] at hq2
 rw[TP h6] at hq2
 rw[VY] at hq2
 refine z ?_
 refine bnt h6 (z ?_)
 obtain⟨j39,x39,en39,ex39,hq2⟩:=az hq2
 refine⟨_,_,en39,ex39,?_⟩
 refine z ?_
 refine zd ?_ ?_<;>intro h40
 rw[HP h40] at hq2
 dsimp only[Option.bind_some] at hq2
 rw[HP rfl] at hq2
 dsimp only[Option.bind_some] at hq2
 refine z ?_
 refine ei (z ?_)
 exact bk ⟨(i2+1,_,_,ts1_2,ts2_2),hq2⟩
 rw[TP h40] at hq2
 refine⟨_,_,en39,ex39,?_⟩
 refine z ?_
 refine ei (z ?_)
 refine zd ?_ ?_<;>intro h41
 rw[HP h41] at hq2
 dsimp only[Option.bind_some] at hq2
 rw[HP rfl] at hq2
 dsimp only[Option.bind_some] at hq2
 refine z ?_
 exact bk ⟨(i2+1,_,_,ts1_2,ts2_2),hq2⟩
 rw[TP h41] at hq2
 dsimp only[Option.bind_some] at hq2
 rw[TP Wr] at hq2
 rw[TP h6] at hq2
 refine BV h6 (z ?_)
 refine zd ?_ ?_<;>intro h42
 rw[HP h42] at hq2
 rw[VY] at hq2
 refine z ?_
 obtain⟨v43,e43,hq2⟩:=aa hq2
 refine dC 1 2 ts1_2 (cK (hid:=hid) e43) rfl rfl (z ?_)
 intro t43
 dsimp only[Option.bind_some] at hq2
 refine z ?_
 exact bk ⟨(i2+1,_,_,t43,ts2_2),hq2⟩
 rw[TP h42] at hq2
 rw[VY] at hq2
 refine z ?_
 refine dg ae [0,1,0,4,0,0,32,0,240,508,1020,2047,4095,8191] [⟨13,0,0,[5]⟩,⟨11,0,0,[6]⟩,⟨8,0,0,[2,1,9]⟩] (z ?_)
 obtain⟨v46,e46,hq2⟩:=aa hq2
 refine dC 1 2 ts1_2 (h e46) (by simp only[aB,closed,aL,eM,cl,dF,V3]) rfl (z ?_)
 intro t46
 rw[VY] at hq2
 refine z ?_
 obtain⟨hg47,hq2⟩:=aC hq2
 dsimp only[Option.bind_some] at hq2
 refine z ?_
 refine aM ({label:=x3.label,data:=v46.fst}) (bJ _) (z ?_)
 exact bk ⟨(i2+1,_,_,t46,(ts2_2+1)),hq2⟩
 rw[HP h38] at hq2
 dsimp only[Option.bind_some] at hq2
 rw[TP Wr] at hq2
 rw[TP h6] at hq2
 refine ei (z ?_)
 refine BV h6 (z ?_)
 refine zd ?_ ?_<;>intro h48
 rw[HP h48] at hq2
 rw[VY] at hq2
 refine z ?_
 obtain⟨v49,e49,hq2⟩:=aa hq2
 refine dC 1 2 ts1_2 (cK (hid:=hid) e49) rfl rfl (z ?_)
 intro t49
 dsimp only[Option.bind_some] at hq2
 refine z ?_
 exact bk ⟨(i2+1,_,_,t49,ts2_2),hq2⟩
 rw[TP h48] at hq2
 rw[VY] at hq2
 refine z ?_
 refine dg ae [0,1,0,4,0,0,32,0,240,508,1020,2047,4095,8191] [⟨13,0,0,[5]⟩,⟨11,0,0,[6]⟩,⟨8,0,0,[2,1,9]⟩] (z ?_)
 obtain⟨v52,e52,hq2⟩:=aa hq2
 refine dC 1 2 ts1_2 (h e52) (by simp only[aB,closed,aL,eM,cl,dF,V3]) rfl (z ?_)
 intro t52
 rw[VY] at hq2
 refine z ?_
 obtain⟨hg53,hq2⟩:=aC hq2
 dsimp only[Option.bind_some] at hq2
 refine z ?_
 refine aM ({label:=x3.label,data:=v52.fst}) (bJ _) (z ?_)
 exact bk ⟨(i2+1,_,_,t52,(ts2_2+1)),hq2⟩
 rw[aA h3,LP] at hq2
 cases hq2
 refine a8 (z ?_)
 exact ml
 refine z ?_
 obtain⟨hg1,hm⟩:=ah hm
 refine bK 5 4 6 rfl rfl ?_
 refine lg (α:=Nat×List dh×List (Mem bA)×Nat×Nat) ae (fun(iw,s1,s2,ts1,ts2)=>(LP hid rec (p0::path) (List.drop iw c.fields) s1 s2=some r,⟨105,[(16,.int .i64 iw),(15,.int .i64 ↑c.fields.length),(14,.aK false (List.map (cZ aN) c.fields)),(7,.ptr 5 0),(6,.ptr 4 0),(0,.ptr 1 0),(2,.aK false (List.map jU (p0::path)))]⟩,⟨[(6,.row 6 (s2.map (jV dP)) ts2 false),(5,.cells [.int .i64 6,.int .i64 0,.str #[].toList,.aD,.own 6 ts2]),(4,.cells [.int .i64 0,.int .i64 0,.str #[].toList,.aD,.aD]),(3,.cells (aG aN c)),(0,ba),(1,.cells [.own 2 ts1,.bool hid]),(2,.row 2 (s1.map iJ) ts1 false)],7,0,[],[]⟩,List.length c.fields-iw)) ⟨(0,_,_,t,(0)),hm⟩ ?_
 rintro⟨i2,s1_2,s2_2,ts1_2,ts2_2⟩ hq2
 dsimp only at hq2
 refine z ?_
 refine zd ?_ ?_<;>intro h3
 obtain⟨x3,ex3,ed3⟩:=av h3
 rw[ed3,LP] at hq2
 refine z ?_
 obtain⟨hg4,hq2⟩:=ah hq2
 refine bF (cP _) ex3 rfl (z ?_)
 refine dg ae [0,1,0,4,12,28,63,127] [] (z ?_)
 refine cd ae Tryz.f84 (z ?_)
 refine wZ (z ?_)
 refine ed (z ?_)
 obtain⟨hg5,hq2⟩:=aC hq2
 refine z ?_
 refine aM ({label:=x3.label,index:=0}) rfl (z ?_)
 refine zd ?_ ?_<;>intro h6
 rw[HP h6] at hq2
 unfold Tj at hq2
 rw[VY] at hq2
 unfold yV at hq2
 refine z ?_
 refine ci ae Tryz.f85 (z ?_)
 refine zm ?_ ?_<;>intro h7
 rw[TP (nt h7)] at hq2
 rw[HP h6] at hq2
 dsimp only[Option.bind_some] at hq2
 rw[TP Wr] at hq2
 rw[HP h6] at hq2
 refine bnf h6 (z ?_)
 refine ei (z ?_)
 refine LA h6 (z ?_)
 refine zd ?_ ?_<;>intro h8
 rw[HP h8] at hq2
 rw[VY] at hq2
 refine z ?_
 refine dg ae [0,1,0,0,8,28,60,124,255,511,1023] [⟨10,0,0,[5]⟩,⟨8,0,0,[6]⟩,⟨5,0,0,[10,10]⟩] (z ?_)
 obtain⟨v11,e11,hq2⟩:=aa hq2
 refine fQ 10 0 2 rfl rfl ?_ rfl
 refine z ?_
 refine bu 10 11 (0) (h e11) (by simp only[cz,bV,bU];rfl) rfl rfl rfl rfl (fun t11=> ?_)
 rw[VY] at hq2
 refine z ?_
 obtain⟨hg12,hq2⟩:=aC hq2
 rw[VY] at hq2
 refine z ?_
 refine aM ({label:=[],data:=v11.fst}) (bJ _) (z ?_)
 obtain⟨hg13,hq2⟩:=ah hq2
 refine zd ?_ ?_<;>intro h14
 rw[HP h14] at hq2
 rw[VY] at hq2
 refine z ?_
 refine dg ae [0,1,3,0,0,16,48,112,240,496,1008,2032,4095] [] (z ?_)
 obtain⟨j15,x15,en15,ex15,hq2⟩:=az hq2
 refine aP en15 ex15 ?_
 rw[VY] at hq2
 refine z ?_
 refine bT ex15 (z ?_)
 obtain⟨v16,e16,hq2⟩:=aa hq2
 refine bu 1 2 ts1_2 (cK (hid:=hid) e16) (by simp only[cz,bV,bU];rfl) rfl rfl rfl rfl (fun t16=> ?_)
 dsimp only[Option.bind_some] at hq2
 refine z ?_
 exact bk ⟨(i2+1,_,_,t16,(ts2_2+1)),hq2⟩
 rw[TP h14] at hq2
 dsimp only[Option.bind_some] at hq2
 refine z ?_
 exact bk ⟨(i2+1,_,_,ts1_2,(ts2_2+1)),hq2⟩
 rw[TP h8] at hq2
 refine zd ?_ ?_<;>intro h17
 rw[HP h17] at hq2
 rw[VY] at hq2
 refine z ?_
 obtain⟨v18,e18,hq2⟩:=aa hq2
 refine bu 1 2 ts1_2 (cK (hid:=hid) e18) (by simp only[cz,bV,bU];rfl) rfl rfl rfl rfl (fun t18=> ?_)
 dsimp only[Option.bind_some] at hq2
 refine z ?_
 exact bk ⟨(i2+1,_,_,t18,ts2_2),hq2⟩
 rw[TP h17] at hq2
 rw[VY] at hq2
 refine z ?_
 refine dg ae [0,1,0,4,0,0,32,0,240,508,1020,2047,4095,8191] [⟨13,0,0,[5]⟩,⟨11,0,0,[6]⟩,⟨8,0,0,[2,1]⟩] (z ?_)
 obtain⟨v21,e21,hq2⟩:=aa hq2
 refine bu 1 2 ts1_2 (h e21) (by simp only[cz,bV,bU];rfl) rfl rfl rfl rfl (fun t21=> ?_)
 rw[VY] at hq2
 refine z ?_
 obtain⟨hg22,hq2⟩:=aC hq2
 dsimp only[Option.bind_some] at hq2
 refine z ?_
 refine aM ({label:=x3.label,data:=v21.fst}) (bJ _) (z ?_)
 exact bk ⟨(i2+1,_,_,t21,(ts2_2+1)),hq2⟩
 rw[HP h7] at hq2
 dsimp only[Option.bind_some] at hq2
 rw[TP Wr] at hq2
 rw[HP h6] at hq2
 refine ei (z ?_)
 refine LA h6 (z ?_)
 refine zd ?_ ?_<;>intro h23
 rw[HP h23] at hq2
 rw[VY] at hq2
 refine z ?_
 refine dg ae [0,1,0,0,8,28,60,124,255,511,1023] [⟨10,0,0,[5]⟩,⟨8,0,0,[6]⟩,⟨5,0,0,[10,10]⟩] (z ?_)
 obtain⟨v26,e26,hq2⟩:=aa hq2
 refine fQ 10 0 2 rfl rfl ?_ rfl
 refine z ?_
 refine bu 10 11 (0) (h e26) (by simp only[cz,bV,bU];rfl) rfl rfl rfl rfl (fun t26=> ?_)
 rw[VY] at hq2
 refine z ?_
 obtain⟨hg27,hq2⟩:=aC hq2
 rw[VY] at hq2
 refine z ?_
 refine aM ({label:=[],data:=v26.fst}) (bJ _) (z ?_)
 obtain⟨hg28,hq2⟩:=ah hq2
 refine zd ?_ ?_<;>intro h29
 rw[HP h29] at hq2
 rw[VY] at hq2
 refine z ?_
 refine dg ae [0,1,3,0,0,16,48,112,240,496,1008,2032,4095] [] (z ?_)
 obtain⟨j30,x30,en30,ex30,hq2⟩:=az hq2
 refine aP en30 ex30 ?_
 rw[VY] at hq2
 refine z ?_
 refine bT ex30 (z ?_)
 obtain⟨v31,e31,hq2⟩:=aa hq2
 refine bu 1 2 ts1_2 (cK (hid:=hid) e31) (by simp only[cz,bV,bU];rfl) rfl rfl rfl rfl (fun t31=> ?_)
 dsimp only[Option.bind_some] at hq2
 refine z ?_
 exact bk ⟨(i2+1,_,_,t31,(ts2_2+1)),hq2⟩
 rw[TP h29] at hq2
 dsimp only[Option.bind_some] at hq2
 refine z ?_
 exact bk ⟨(i2+1,_,_,ts1_2,(ts2_2+1)),hq2⟩
 rw[TP h23] at hq2
 refine zd ?_ ?_<;>intro h32
 rw[HP h32] at hq2
 rw[VY] at hq2
 refine z ?_
 obtain⟨v33,e33,hq2⟩:=aa hq2
 refine bu 1 2 ts1_2 (cK (hid:=hid) e33) (by simp only[cz,bV,bU];rfl) rfl rfl rfl rfl (fun t33=> ?_)
 dsimp only[Option.bind_some] at hq2
 refine z ?_
 exact bk ⟨(i2+1,_,_,t33,ts2_2),hq2⟩
 rw[TP h32] at hq2
 rw[VY] at hq2
 refine z ?_
 refine dg ae [0,1,0,4,0,0,32,0,240,508,1020,2047,4095,8191] [⟨13,0,0,[5]⟩,⟨11,0,0,[6]⟩,⟨8,0,0,[2,1]⟩] (z ?_)
 obtain⟨v36,e36,hq2⟩:=aa hq2
 refine bu 1 2 ts1_2 (h e36) (by simp only[cz,bV,bU];rfl) rfl rfl rfl rfl (fun t36=> ?_)
 rw[VY] at hq2
 refine z ?_
 obtain⟨hg37,hq2⟩:=aC hq2
 dsimp only[Option.bind_some] at hq2
 refine z ?_
 refine aM ({label:=x3.label,data:=v36.fst}) (bJ _) (z ?_)
 exact bk ⟨(i2+1,_,_,t36,(ts2_2+1)),hq2⟩
 rw[TP h6] at hq2
 unfold Tj at hq2
 rw[VY] at hq2
 unfold yV at hq2
 refine z ?_
 refine ci ae Tryz.f85 (z ?_)
 refine zm ?_ ?_<;>intro h38
 rw[TP (nt h38)] at hq2
 rw[TP h6] at hq2
 rw[VY] at hq2
 refine z ?_
 refine bnt h6 (z ?_)
 obtain⟨j39,x39,en39,ex39,hq2⟩:=az hq2
 refine⟨_,_,en39,ex39,?_⟩
 refine z ?_
 refine zd ?_ ?_<;>intro h40
 rw[HP h40] at hq2
 dsimp only[Option.bind_some] at hq2
 rw[HP rfl] at hq2
 dsimp only[Option.bind_some] at hq2
 refine z ?_
 refine ei (z ?_)
 exact bk ⟨(i2+1,_,_,ts1_2,ts2_2),hq2⟩
 rw[TP h40] at hq2
 refine⟨_,_,en39,ex39,?_⟩
 refine z ?_
 refine ei (z ?_)
 refine zd ?_ ?_<;>intro h41
 rw[HP h41] at hq2
 dsimp only[Option.bind_some] at hq2
 rw[HP rfl] at hq2
 dsimp only[Option.bind_some] at hq2
 refine z ?_
 exact bk ⟨(i2+1,_,_,ts1_2,ts2_2),hq2⟩
 rw[TP h41] at hq2
 dsimp only[Option.bind_some] at hq2
 rw[TP Wr] at hq2
 rw[TP h6] at hq2
 refine BV h6 (z ?_)
 refine zd ?_ ?_<;>intro h42
 rw[HP h42] at hq2
 rw[VY] at hq2
 refine z ?_
 obtain⟨v43,e43,hq2⟩:=aa hq2
 refine dC 1 2 ts1_2 (cK (hid:=hid) e43) (by simp only[aB,closed,aL,eM,cl,dF,V3]) rfl (z ?_)
 intro t43
 dsimp only[Option.bind_some] at hq2
 refine z ?_
 exact bk ⟨(i2+1,_,_,t43,ts2_2),hq2⟩
 rw[TP h42] at hq2
 rw[VY] at hq2
 refine z ?_
 refine dg ae [0,1,0,4,0,0,32,0,240,508,1020,2047,4095,8191] [⟨13,0,0,[5]⟩,⟨11,0,0,[6]⟩,⟨8,0,0,[2,1,8]⟩] (z ?_)
 obtain⟨v46,e46,hq2⟩:=aa hq2
 refine dC 1 2 ts1_2 (h e46) (by simp only[aB,closed,aL,eM,cl,dF,V3]) rfl (z ?_)
 intro t46
 rw[VY] at hq2
 refine z ?_
 obtain⟨hg47,hq2⟩:=aC hq2
 dsimp only[Option.bind_some] at hq2
 refine z ?_
 refine aM ({label:=x3.label,data:=v46.fst}) (bJ _) (z ?_)
 exact bk ⟨(i2+1,_,_,t46,(ts2_2+1)),hq2⟩
 rw[HP h38] at hq2
 dsimp only[Option.bind_some] at hq2
 rw[TP Wr] at hq2
 rw[TP h6] at hq2
 refine ei (z ?_)
 refine BV h6 (z ?_)
 refine zd ?_ ?_<;>intro h48
 rw[HP h48] at hq2
 rw[VY] at hq2
 refine z ?_
 obtain⟨v49,e49,hq2⟩:=aa hq2
 refine dC 1 2 ts1_2 (cK (hid:=hid) e49) (by simp only[aB,closed,aL,eM,cl,dF,V3]) rfl (z ?_)
 intro t49
 dsimp only[Option.bind_some] at hq2
 refine z ?_
 exact bk ⟨(i2+1,_,_,t49,ts2_2),hq2⟩
 rw[TP h48] at hq2
 rw[VY] at hq2
 refine z ?_
 refine dg ae [0,1,0,4,0,0,32,0,240,508,1020,2047,4095,8191] [⟨13,0,0,[5]⟩,⟨11,0,0,[6]⟩,⟨8,0,0,[2,1,8]⟩] (z ?_)
 obtain⟨v52,e52,hq2⟩:=aa hq2
 refine dC 1 2 ts1_2 (h e52) (by simp only[aB,closed,aL,eM,cl,dF,V3]) rfl (z ?_)
 intro t52
 rw[VY] at hq2
 refine z ?_
 obtain⟨hg53,hq2⟩:=aC hq2
 dsimp only[Option.bind_some] at hq2
 refine z ?_
 refine aM ({label:=x3.label,data:=v52.fst}) (bJ _) (z ?_)
 exact bk ⟨(i2+1,_,_,t52,(ts2_2+1)),hq2⟩
 rw[aA h3,LP] at hq2
 cases hq2
 refine a8 (z ?_)
 exact ml
abbrev Fy:bA:=jv 0 0 []
def l7 (ps:List dh) (path:List oS) (e:Int):Option (bA×List dh):=(ti ps path e).bind fun ps=>some (Fy,ps)
def B8 (hid:Bool) (rec:pF) (r:bt Va) (p:bA×Bool) (path:List oS) (ps:List dh):Option (bA×List dh):=if p.2 then some (p.1,ps) else
 if(r.lists.length:Int)=1 then(cJ r.lists 0).bind fun c=>Cd rec c path ps else(cJ r.structs 0).bind fun c=>Ca hid rec c path ps
def Cb (hid:Bool) (rec:pF) (r:bt Va) (p:bA×Bool) (path:List oS) (ps:List dh):Option (bA×List dh):=
 if(r.lists.length:Int)+r.structs.length=0 then if p.2 then B8 hid rec r p path ps else l7 ps path 14 else B8 hid rec r p path ps
def yv (hid:Bool) (rec:pF) (r:bt Va) (path:List oS) (ps:List dh):Option (bA×List dh):=(kY r.sc).bind fun p=>(lA r.sc).bind fun e=>(aR r.lists).bind fun _=>(aR r.structs).bind fun _=>
 (mI r).bind fun b=>if b then l7 ps path 12 else if r.any then l7 ps path 14 else if(r.lists.length:Int)+r.structs.length>1 then l7 ps path 14 else
 if(r.lists.length:Int)+r.structs.length>0 then if e then Cb hid rec r p path ps else l7 ps path 14 else Cb hid rec r p path ps
def FL (hid:Bool):Nat->pF
 |0,_,_,_=>none
 |n+1,x,path,ps=>(mI x.d).bind fun b=>if b then yv hid (FL hid n) x.v path ps else yv hid (FL hid n) x.d path ps
theorem Qf {hid:Bool}:∀{n:Nat},VC hid (FL hid n):=by
 intro n
 induction n with
 |zero=>intro x path ps r hm;cases hm
 |succ n ih=>
  intro x path ps r hm
  refine nU ae (fn:=Tryz.f32) rfl rfl (eM _ _) (by simp only[nb,cX,c9,cG,V3];rfl) (fun t=> ?_)
  unfold FL at hm
  refine z ?_
  obtain⟨v1,e1,hm⟩:=aa hm
  refine ct (kA e1) (z ?_)
  refine zr ?_ ?_<;>intro h2
  ·rw[HP h2] at hm
   unfold yv at hm
   refine z ?_
   obtain⟨v3,e3,hm⟩:=aa hm
   refine ct (uA e3) (z ?_)
   obtain⟨v4,e4,hm⟩:=aa hm
   refine ct (oc e4) (z ?_)
   obtain⟨hg5,hm⟩:=ah hm
   obtain⟨hg6,hm⟩:=ah hm
   refine z ?_
   obtain⟨v8,e8,hm⟩:=aa hm
   refine ct (kA e8) (z ?_)
   refine zr ?_ ?_<;>intro h9
   ·rw[HP h9] at hm
    unfold l7 at hm
    refine z ?_
    obtain⟨v10,e10,hm⟩:=aa hm
    refine bu 1 2 t (cK (hid:=hid) e10) (by simp only[cz,bV,bU];rfl) rfl rfl rfl rfl (fun t10=> ?_)
    refine z ?_
    cases hm
    refine a8 (z ?_)
    exact ml
   ·rw[TP (nt h9)] at hm
    refine zr ?_ ?_<;>intro h11
    ·rw[HP h11] at hm
     unfold l7 at hm
     refine z ?_
     obtain⟨v12,e12,hm⟩:=aa hm
     refine bu 1 2 t (cK (hid:=hid) e12) (by simp only[cz,bV,bU];rfl) rfl rfl rfl rfl (fun t12=> ?_)
     refine z ?_
     cases hm
     refine a8 (z ?_)
     exact ml
    ·rw[TP (nt h11)] at hm
     refine zd ?_ ?_<;>intro h13
     ·rw[HP h13] at hm
      unfold l7 at hm
      refine z ?_
      obtain⟨v14,e14,hm⟩:=aa hm
      refine bu 1 2 t (cK (hid:=hid) e14) (by simp only[cz,bV,bU];rfl) rfl rfl rfl rfl (fun t14=> ?_)
      refine z ?_
      cases hm
      refine a8 (z ?_)
      exact ml
     ·rw[TP h13] at hm
      refine zd ?_ ?_<;>intro h15
      ·rw[HP h15] at hm
       refine zm ?_ ?_<;>intro h16
       ·rw[TP (nt h16)] at hm
        unfold l7 at hm
        refine z ?_
        obtain⟨v17,e17,hm⟩:=aa hm
        refine bu 1 2 t (cK (hid:=hid) e17) (by simp only[cz,bV,bU];rfl) rfl rfl rfl rfl (fun t17=> ?_)
        refine z ?_
        cases hm
        refine a8 (z ?_)
        exact ml
       ·rw[HP h16] at hm
        unfold Cb at hm
        refine z ?_
        have h18:¬((↑x.v.lists.length+↑x.v.structs.length:Int)=0):=by omega
        refine BV h18 (z ?_)
        rw[TP h18] at hm
        unfold B8 at hm
        refine z ?_
        refine zr ?_ ?_<;>intro h19
        ·rw[HP h19] at hm
         cases hm
         exact msl
        ·rw[TP (nt h19)] at hm
         refine zd ?_ ?_<;>intro h20
         ·rw[HP h20] at hm
          obtain⟨j21,x21,en21,ex21,hm⟩:=az hm
          refine bD en21 ex21 rfl (z ?_)
          replace hm:=aJ hm
          obtain⟨v22,e22,hm⟩:=aa hm
          refine bu 1 2 t (Cc ih e22) (by simp only[cz,bV,bU];rfl) rfl rfl rfl rfl (fun t22=> ?_)
          refine z ?_
          cases hm
          exact msl
         ·rw[TP h20] at hm
          obtain⟨j23,x23,en23,ex23,hm⟩:=az hm
          refine bD en23 ex23 rfl (z ?_)
          replace hm:=aJ hm
          obtain⟨v24,e24,hm⟩:=aa hm
          refine bu 1 2 t (B9 ih e24) (by simp only[cz,bV,bU];rfl) rfl rfl rfl rfl (fun t24=> ?_)
          refine z ?_
          cases hm
          exact msl
      ·rw[TP h15] at hm
       unfold Cb at hm
       refine z ?_
       have h25:((↑x.v.lists.length+↑x.v.structs.length:Int)=0):=by omega
       refine LA h25 (z ?_)
       rw[HP h25] at hm
       refine zm ?_ ?_<;>intro h26
       ·rw[TP (nt h26)] at hm
        unfold l7 at hm
        refine z ?_
        obtain⟨v27,e27,hm⟩:=aa hm
        refine bu 1 2 t (cK (hid:=hid) e27) (by simp only[cz,bV,bU];rfl) rfl rfl rfl rfl (fun t27=> ?_)
        refine z ?_
        cases hm
        refine a8 (z ?_)
        exact ml
       ·rw[HP h26] at hm
        unfold B8 at hm
        rw[HP h26] at hm
        refine brt h26 (z ?_)
        cases hm
        exact msl
  ·rw[TP (nt h2)] at hm
   unfold yv at hm
   refine z ?_
   obtain⟨v28,e28,hm⟩:=aa hm
   refine ct (uA e28) (z ?_)
   obtain⟨v29,e29,hm⟩:=aa hm
   refine ct (oc e29) (z ?_)
   obtain⟨hg30,hm⟩:=ah hm
   obtain⟨hg31,hm⟩:=ah hm
   refine z ?_
   obtain⟨v33,e33,hm⟩:=aa hm
   refine ct (kA e33) (z ?_)
   refine zr ?_ ?_<;>intro h34
   ·rw[HP h34] at hm
    unfold l7 at hm
    refine z ?_
    obtain⟨v35,e35,hm⟩:=aa hm
    refine bu 1 2 t (cK (hid:=hid) e35) (by simp only[cz,bV,bU];rfl) rfl rfl rfl rfl (fun t35=> ?_)
    refine z ?_
    cases hm
    refine a8 (z ?_)
    exact ml
   ·rw[TP (nt h34)] at hm
    refine zr ?_ ?_<;>intro h36
    ·rw[HP h36] at hm
     unfold l7 at hm
     refine z ?_
     obtain⟨v37,e37,hm⟩:=aa hm
     refine bu 1 2 t (cK (hid:=hid) e37) (by simp only[cz,bV,bU];rfl) rfl rfl rfl rfl (fun t37=> ?_)
     refine z ?_
     cases hm
     refine a8 (z ?_)
     exact ml
    ·rw[TP (nt h36)] at hm
     refine zd ?_ ?_<;>intro h38
     ·rw[HP h38] at hm
      unfold l7 at hm
      refine z ?_
      obtain⟨v39,e39,hm⟩:=aa hm
      refine bu 1 2 t (cK (hid:=hid) e39) (by simp only[cz,bV,bU];rfl) rfl rfl rfl rfl (fun t39=> ?_)
      refine z ?_
      cases hm
      refine a8 (z ?_)
      exact ml
     ·rw[TP h38] at hm
      refine zd ?_ ?_<;>intro h40
      ·rw[HP h40] at hm
       refine zm ?_ ?_<;>intro h41
       ·rw[TP (nt h41)] at hm
        unfold l7 at hm
        refine z ?_
        obtain⟨v42,e42,hm⟩:=aa hm
        refine bu 1 2 t (cK (hid:=hid) e42) (by simp only[cz,bV,bU];rfl) rfl rfl rfl rfl (fun t42=> ?_)
        refine z ?_
        cases hm
        refine a8 (z ?_)
        exact ml
       ·rw[HP h41] at hm
        unfold Cb at hm
        refine z ?_
        have h43:¬((↑x.d.lists.length+↑x.d.structs.length:Int)=0):=by omega
        refine BV h43 (z ?_)
        rw[TP h43] at hm
        unfold B8 at hm
        refine z ?_
        refine zr ?_ ?_<;>intro h44
        ·rw[HP h44] at hm
         cases hm
         exact msl
        ·rw[TP (nt h44)] at hm
         refine zd ?_ ?_<;>intro h45
         ·rw[HP h45] at hm
          obtain⟨j46,x46,en46,ex46,hm⟩:=az hm
          refine bD en46 ex46 rfl (z ?_)
          replace hm:=aJ hm
          obtain⟨v47,e47,hm⟩:=aa hm
          refine bu 1 2 t (Cc ih e47) (by simp only[cz,bV,bU];rfl) rfl rfl rfl rfl (fun t47=> ?_)
          refine z ?_
          cases hm
          exact msl
         ·rw[TP h45] at hm
          obtain⟨j48,x48,en48,ex48,hm⟩:=az hm
          refine bD en48 ex48 rfl (z ?_)
          replace hm:=aJ hm
          obtain⟨v49,e49,hm⟩:=aa hm
          refine bu 1 2 t (B9 ih e49) (by simp only[cz,bV,bU];rfl) rfl rfl rfl rfl (fun t49=> ?_)
          refine z ?_
          cases hm
          exact msl
      ·rw[TP h40] at hm
       unfold Cb at hm
       refine z ?_
       have h50:((↑x.d.lists.length+↑x.d.structs.length:Int)=0):=by omega
       refine LA h50 (z ?_)
       rw[HP h50] at hm
       refine zm ?_ ?_<;>intro h51
       ·rw[TP (nt h51)] at hm
        unfold l7 at hm
        refine z ?_
        obtain⟨v52,e52,hm⟩:=aa hm
        refine bu 1 2 t (cK (hid:=hid) e52) (by simp only[cz,bV,bU];rfl) rfl rfl rfl rfl (fun t52=> ?_)
        refine z ?_
        cases hm
        refine a8 (z ?_)
        exact ml
       ·rw[HP h51] at hm
        unfold B8 at hm
        rw[HP h51] at hm
        refine brt h51 (z ?_)
        cases hm
        exact msl
def fB (x:Va) (hid:Bool):Option (bA×List dh):=(jN x).bind fun c=>if c then FL hid 18 x [] [] else(ti [] [] 11).bind fun ps=>some (Fy,ps)
theorem wv {x:Va} {hid:Bool} {r:bA×List dh} (hm:fB x hid=some r):bp Tryz.prog 19 [.agg (ec x),.bool hid] fun s=>s= .dZ [.agg (cS r.1),.aK false (r.2.map iJ)]:=by
 refine ht ae Tryz.f19 ?_
 unfold fB at hm
 refine z ?_
 obtain⟨v1,e1,hm⟩:=aa hm
 refine ct (qV e1) (z ?_)
 refine zm ?_ ?_<;>intro h2
 rw[TP (nt h2)] at hm
 obtain⟨v3,e3,hm⟩:=aa hm
 refine fQ 3 0 2 rfl rfl ?_ rfl
 refine z ?_
 refine bu 3 4 (0) (cK (hid:=hid) e3) rfl rfl rfl rfl rfl (fun t3=> ?_)
 refine z ?_
 refine dg ae [0,0,2,6,14,30,1,127] [⟨6,0,0,[2]⟩] (z ?_)
 cases hm
 refine a8 (z ?_)
 exact mt
 rw[HP h2] at hm
 replace hm:=aJ hm
 obtain⟨v4,e4,hm⟩:=aa hm
 refine fQ 3 0 2 rfl rfl ?_ rfl
 refine z ?_
 refine bu 3 4 (0) (Qf e4) (by simp only[cz,bV,bU];rfl) rfl rfl rfl rfl (fun t4=> ?_)
 refine z ?_
 refine dg ae [0,0,2,6,14,30,1,127] [⟨6,0,0,[2]⟩] (z ?_)
 cases hm
 refine a8 (z ?_)
 exact mt
def sK (x:Va) (hid:Bool):Option (bA×Int):=(fB x hid).bind fun p=>(aR p.2).bind fun _=>if(p.2.length:Int)>0 then(cJ p.2 0).bind fun e=>some (Fy,e.kG) else some (p.1,0)
theorem Em {x:Va} {hid:Bool} {r:bA×Int} (hm:sK x hid=some r):bp Tryz.prog 6 [.agg (ec x),.bool hid] fun s=>s= .dZ [.agg (cS r.1),.int .i64 r.2]:=by
 refine ht ae Tryz.f6 ?_
 unfold sK at hm
 refine z ?_
 obtain⟨v1,e1,hm⟩:=aa hm
 refine ct (wv e1) (z ?_)
 obtain⟨hg2,hm⟩:=ah hm
 refine zd ?_ ?_<;>intro h3
 rw[HP h3] at hm
 refine dg ae [0,0,2,6,14,1,63] [⟨5,0,0,[2]⟩] (z ?_)
 obtain⟨j5,x5,en5,ex5,hm⟩:=az hm
 refine bD en5 ex5 rfl (z ?_)
 cases hm
 refine a8 (z ?_)
 exact mt
 rw[TP h3] at hm
 cases hm
 exact mst
def o6 (x:Va) (hid:Bool):Option (List dh):=(fB x hid).bind fun p=>some p.2
theorem rf {x:Va} {hid:Bool} {r:List dh} (hm:o6 x hid=some r):bp Tryz.prog 7 [.agg (ec x),.bool hid] fun s=>s= .aK false (r.map iJ):=by
 refine ht ae Tryz.f7 ?_
 unfold o6 at hm
 refine z ?_
 obtain⟨v1,e1,hm⟩:=aa hm
 refine ct (wv e1) (z ?_)
 cases hm
 exact mst
abbrev vA {α:Type} (l:List α):Option Unit:=zf (l.length<9223372036854775808)
def Gr (l:List bj):Nat->Int->Option Bool
 |0,_=>none
 |n+1,i=>(vA l).bind fun _=>if i<(l.length:Int) then(cJ l i).bind fun x=>(vA x.aI).bind fun _=>if(x.aI.length:Int)>12 then some false else Gr l n (i+1) else some (decide ((l.length:Int)<=8))
def KL (l:List bj):Option Bool:=Gr l (l.length+1) 0
theorem IA {l:List bj} {r:Bool} (hm:KL l=some r):Has Tryz.prog 46 [.agg [aE l]] fun s=>s= .bool r:=by
 refine hs ae Tryz.f46 ?_
 unfold KL at hm
 refine z ?_
 refine lg (α:=Nat×Int) ae (fun(nw,s1)=>(Gr l nw s1=some r,⟨23,[(3,.int .i64 s1),(2,.bool false),(1,.ptr 0 0)]⟩,⟨[(0,.cells [aE l])],1,0,[],[]⟩,nw)) ⟨(_,_),hm⟩ ?_
 rintro⟨n1,s1_1⟩ hq1
 dsimp only at hq1
 rcases n1 with _|n1
 (unfold Gr at hq1;cases hq1)
 unfold Gr at hq1
 refine z ?_
 obtain⟨hg2,hq1⟩:=ah hq1
 refine zd ?_ ?_<;>intro h3
 rw[HP h3] at hq1
 obtain⟨j4,x4,en4,ex4,hq1⟩:=az hq1
 refine bD en4 ex4 rfl (z ?_)
 obtain⟨hg5,hq1⟩:=ah hq1
 refine zd ?_ ?_<;>intro h6
 rw[HP h6] at hq1
 cases hq1
 exact fc
 rw[TP h6] at hq1
 exact bk ⟨(n1,_),hq1⟩
 rw[TP h3] at hq1
 cases hq1
 exact fc
def MN (s:bM):Option Bool:=(vA s.ints).bind fun _=>if(s.ints.length:Int)<=5 then(vA s.bC).bind fun _=>if(s.bC.length:Int)<=5 then KL s.strs else some false else some false
theorem QW {s:bM} {r:Bool} (hm:MN s=some r):Has Tryz.prog 45 [.agg (cq s)] fun v=>v= .bool r:=by
 refine hs ae Tryz.f45 ?_
 unfold MN at hm
 refine z ?_
 obtain⟨hg1,hm⟩:=ah hm
 refine zd ?_ ?_<;>intro h2
 rw[HP h2] at hm
 obtain⟨hg3,hm⟩:=ah hm
 refine zd ?_ ?_<;>intro h4
 rw[HP h4] at hm
 replace hm:=aJ hm
 obtain⟨v5,e5,hm⟩:=aa hm
 refine ce (IA e5) (z ?_)
 cases hm
 exact fc
 rw[TP h4] at hm
 cases hm
 exact fc
 rw[TP h2] at hm
 cases hm
 exact fc
/-! measure -/
abbrev VM (rec:bt Va->Int->Int->Option Int):Prop:=∀{v levels most r},rec v levels most=some r->Has Tryz.prog 24 [.agg (cg aN v),.int .i64 levels,.int .i64 most] fun s=>s= .int .i64 r
def Tw (rec:bt Va->Int->Int->Option Int) (l:List Va) (levels most:Int):Nat->Int->Int->Option Int
 |0,_,_=>none
 |f+1,i,n=>(aR l).bind fun _=>if i<(l.length:Int) then if n<=most then(cJ l i).bind fun x=>(dD (most-n)).bind fun _=>(rec x.v levels (most-n)).bind fun k=>(dD (n+k)).bind fun _=>
   if n+k<=most then(cJ l i).bind fun x=>(dD (most-(n+k))).bind fun _=>(rec x.d levels (most-(n+k))).bind fun j=>(dD (n+k+j)).bind fun _=>Tw rec l levels most f (i+1) (n+k+j)
   else Tw rec l levels most f (i+1) (n+k)
  else some n else some n
def UE (rec:bt Va->Int->Int->Option Int) (l:List Va) (levels most:Int):Option Int:=Tw rec l levels most (l.length+1) 0 0
theorem NN {rec:bt Va->Int->Int->Option Int} (h:VM rec) {l:List Va} {levels most r:Int} (hm:UE rec l levels most=some r):Has Tryz.prog 11 [.aK false (l.map aN),.int .i64 levels,.int .i64 most] fun s=>s= .int .i64 r:=by
 refine hs ae Tryz.f11 ?_
 unfold UE at hm
 refine z ?_
 refine lg (α:=Nat×Int×Int) ae (fun(nw,s1,s2)=>(Tw rec l levels most nw s1 s2=some r,⟨48,[(8,.int .i64 s1),(7,.int .i64 s2),(6,.int .i64 0),(0,.aK false (List.map aN l)),(1,.int .i64 levels),(2,.int .i64 most)]⟩,⟨[],0,0,[],[]⟩,nw)) ⟨(_,_,_),hm⟩ ?_
 rintro⟨n1,s1_1,s2_1⟩ hq1
 dsimp only at hq1
 rcases n1 with _|n1
 (unfold Tw at hq1;cases hq1)
 unfold Tw at hq1
 refine z ?_
 obtain⟨hg2,hq1⟩:=ah hq1
 refine zd ?_ ?_<;>intro h3
 rw[HP h3] at hq1
 refine zd ?_ ?_<;>intro h4
 rw[HP h4] at hq1
 obtain⟨j5,x5,en5,ex5,hq1⟩:=az hq1
 refine bP (cA _) en5 ex5 rfl (z ?_)
 obtain⟨hg6,hq1⟩:=ah hq1
 refine z ?_
 obtain⟨v8,e8,hq1⟩:=aa hq1
 refine ce (h e8) (z ?_)
 obtain⟨hg9,hq1⟩:=ah hq1
 refine z ?_
 refine zd ?_ ?_<;>intro h10
 rw[HP h10] at hq1
 obtain⟨j11,x11,en11,ex11,hq1⟩:=az hq1
 refine bP (cA _) en11 ex11 rfl (z ?_)
 obtain⟨hg12,hq1⟩:=ah hq1
 refine z ?_
 obtain⟨v14,e14,hq1⟩:=aa hq1
 refine ce (h e14) (z ?_)
 obtain⟨hg15,hq1⟩:=ah hq1
 refine z ?_
 exact bk ⟨(n1,_,_),hq1⟩
 rw[TP h10] at hq1
 exact bk ⟨(n1,_,_),hq1⟩
 rw[TP h4] at hq1
 cases hq1
 exact fc
 rw[TP h3] at hq1
 cases hq1
 exact fc
def gW (most:Int):Option Int:=(dD (most+1)).bind fun _=>some (most+1)
def Tv (c:aF Va) (most:Int):Nat->Int->List Va->Option (Ctl Int (List Va))
 |0,_,_=>none
 |f+1,k,l=>(aR c.fields).bind fun _=>if k<(c.fields.length:Int) then(cJ c.fields k).bind fun x=>(vA x.label).bind fun _=>if(x.label.length:Int)>60 then(gW most).bind fun r=>some (.ret r)
   else(cJ c.fields k).bind fun x=>(push l x.val).bind fun l=>Tv c most f (k+1) l else some (.Fv l)
def Ry (c:aF Va) (most:Int):Nat->Int->List Va->Option (Ctl Int (List Va))
 |0,_,_=>none
 |f+1,k,l=>(aR c.aw).bind fun _=>if k<(c.aw.length:Int) then(cJ c.aw k).bind fun x=>(KL x.set).bind fun ok=>if ok then
   (cJ c.aw k).bind fun x=>(push l x.val).bind fun l=>Ry c most f (k+1) l else(gW most).bind fun r=>some (.ret r) else some (.Fv l)
def Rx (rec:List Va->Int->Int->Option Int) (c:aF Va) (levels most n:Int) (l:List Va):Option Int:=
 (dD (levels-1)).bind fun _=>(dD (most-n)).bind fun _=>(rec l (levels-1) (most-n)).bind fun k=>(dD (n+k)).bind fun _=>some (n+k)
def UA (rec:List Va->Int->Int->Option Int) (ss:List (aF Va)) (levels most:Int):Nat->Int->Int->Option Int
 |0,_,_=>none
 |f+1,i,n=>(aR ss).bind fun _=>if i<(ss.length:Int) then if n<=most then(cJ ss i).bind fun c=>(vA c.fields).bind fun _=>if(c.fields.length:Int)>4 then gW most else(vA c.aw).bind fun _=>if(c.aw.length:Int)>4 then gW most else
   (Tv c most (c.fields.length+1) 0 []).bind fun
   | .ret r=>some r
   | .Fv l=>(Ry c most (c.aw.length+1) 0 l).bind fun
    | .ret r=>some r
    | .Fv l=>(Rx rec c levels most n l).bind fun n=>UA rec ss levels most f (i+1) n
  else some n else some n
def UC (rec:List Va->Int->Int->Option Int) (v:bt Va) (levels most:Int):Nat->Int->Int->Option Int
 |0,_,_=>none
 |f+1,i,n=>(aR v.lists).bind fun _=>if i<(v.lists.length:Int) then(cJ v.lists i).bind fun c=>(vA c.items).bind fun _=>if(c.items.length:Int)>3 then gW most else
   (cJ v.lists i).bind fun c=>(vA c.rest).bind fun _=>if(c.rest.length:Int)>2 then gW most else
   (cJ v.lists i).bind fun c=>(mu [] c.items).bind fun _=>(cJ v.lists i).bind fun c2=>(mu c.items c2.rest).bind fun l=>
   (dD (levels-1)).bind fun _=>(dD (most-n)).bind fun _=>(rec l (levels-1) (most-n)).bind fun k=>(dD (n+k)).bind fun _=>UC rec v levels most f (i+1) (n+k)
  else UA rec v.structs levels most (v.structs.length+1) 0 n
def Uz (rec:List Va->Int->Int->Option Int) (v:bt Va) (levels most:Int):Option Int:=
 if levels<1 then gW most else if most<1 then gW most else(MN v.sc).bind fun ok=>if ok then(vA v.lists).bind fun _=>if(v.lists.length:Int)>3 then gW most else(vA v.structs).bind fun _=>if(v.structs.length:Int)>3 then gW most else
  UC rec v levels most (v.lists.length+1) 0 1
 else gW most
abbrev MalV (rec:List Va->Int->Int->Option Int):Prop:=∀{l levels most r},rec l levels most=some r->Has Tryz.prog 11 [.aK false (l.map aN),.int .i64 levels,.int .i64 most] fun s=>s= .int .i64 r
theorem Uy {rec:List Va->Int->Int->Option Int} (h:MalV rec):VM (Uz rec):=by
 intro v levels most r hm
 refine hs ae Tryz.f24 ?_
 unfold Uz at hm
 refine z ?_
 refine zd ?_ ?_<;>intro h1
 rw[HP h1] at hm
 unfold gW at hm
 refine z ?_
 obtain⟨hg2,hm⟩:=ah hm
 refine z ?_
 cases hm
 exact fc
 rw[TP h1] at hm
 refine zd ?_ ?_<;>intro h3
 rw[HP h3] at hm
 unfold gW at hm
 refine z ?_
 obtain⟨hg4,hm⟩:=ah hm
 refine z ?_
 cases hm
 exact fc
 rw[TP h3] at hm
 obtain⟨v5,e5,hm⟩:=aa hm
 refine ce (QW e5) (z ?_)
 refine zm ?_ ?_<;>intro h6
 rw[TP (nt h6)] at hm
 unfold gW at hm
 refine z ?_
 obtain⟨hg7,hm⟩:=ah hm
 refine z ?_
 cases hm
 exact fc
 rw[HP h6] at hm
 obtain⟨hg8,hm⟩:=ah hm
 refine zd ?_ ?_<;>intro h9
 rw[HP h9] at hm
 unfold gW at hm
 refine z ?_
 obtain⟨hg10,hm⟩:=ah hm
 refine z ?_
 cases hm
 exact fc
 rw[TP h9] at hm
 obtain⟨hg11,hm⟩:=ah hm
 refine zd ?_ ?_<;>intro h12
 rw[HP h12] at hm
 unfold gW at hm
 refine z ?_
 obtain⟨hg13,hm⟩:=ah hm
 refine z ?_
 cases hm
 exact fc
 rw[TP h12] at hm
 refine lg (α:=Nat×Int×Int) ae (fun(nw,s1,s2)=>(UC rec v levels most nw s1 s2=some r,⟨183,[(8,.int .i64 s1),(7,.int .i64 s2),(6,.int .i64 0),(3,.ptr 0 0),(1,.int .i64 levels),(2,.int .i64 most)]⟩,⟨[(0,.cells (cg aN v))],1,0,[],[]⟩,nw)) ⟨(_,_,_),hm⟩ ?_
 rintro⟨n14,s1_14,s2_14⟩ hq14
 dsimp only at hq14
 rcases n14 with _|n14
 (unfold UC at hq14;cases hq14)
 unfold UC at hq14
 refine z ?_
 obtain⟨hg15,hq14⟩:=ah hq14
 refine zd ?_ ?_<;>intro h16
 rw[HP h16] at hq14
 obtain⟨j17,x17,en17,ex17,hq14⟩:=az hq14
 refine bD en17 ex17 rfl (z ?_)
 obtain⟨hg18,hq14⟩:=ah hq14
 refine zd ?_ ?_<;>intro h19
 rw[HP h19] at hq14
 unfold gW at hq14
 refine z ?_
 obtain⟨hg20,hq14⟩:=ah hq14
 refine z ?_
 cases hq14
 exact fc
 rw[TP h19] at hq14
 obtain⟨j21,x21,en21,ex21,hq14⟩:=az hq14
 refine bD en21 ex21 rfl (z ?_)
 obtain⟨hg22,hq14⟩:=ah hq14
 refine zd ?_ ?_<;>intro h23
 rw[HP h23] at hq14
 unfold gW at hq14
 refine z ?_
 obtain⟨hg24,hq14⟩:=ah hq14
 refine z ?_
 cases hq14
 exact fc
 rw[TP h23] at hq14
 refine dg ae [0,0,2,0,14,30,62,127,0,256,0,1792,3840,7936,16383,32767] [] (z ?_)
 obtain⟨j25,x25,en25,ex25,hq14⟩:=az hq14
 refine bD en25 ex25 rfl (z ?_)
 obtain⟨hg26,hq14⟩:=eu hq14
 refine z ?_
 refine wZ (z ?_)
 obtain⟨j27,x27,en27,ex27,hq14⟩:=az hq14
 refine bD en27 ex27 rfl (z ?_)
 obtain⟨hg28,hq14⟩:=eu hq14
 refine z ?_
 refine jY (z ?_)
 obtain⟨hg29,hq14⟩:=ah hq14
 obtain⟨hg30,hq14⟩:=ah hq14
 refine z ?_
 obtain⟨v32,e32,hq14⟩:=aa hq14
 refine b6 (h e32) rfl (z ?_)
 obtain⟨hg33,hq14⟩:=ah hq14
 refine z ?_
 exact bk ⟨(n14,_,_),hq14⟩
 rw[TP h16] at hq14
 refine bd rfl rfl ?_
 refine lg (α:=Nat×Int×Int) ae (fun(nw,s1,s2)=>(UA rec v.structs levels most nw s1 s2=some r,⟨183,[(10,.int .i64 s1),(7,.int .i64 s2),(6,.int .i64 0),(3,.ptr 0 0),(1,.int .i64 levels),(2,.int .i64 most)]⟩,⟨[(0,.cells (cg aN v))],1,0,[],[]⟩,nw)) ⟨(_,_,_),hq14⟩ ?_
 rintro⟨n34,s1_34,s2_34⟩ hq34
 dsimp only at hq34
 rcases n34 with _|n34
 (unfold UA at hq34;cases hq34)
 unfold UA at hq34
 refine z ?_
 obtain⟨hg35,hq34⟩:=ah hq34
 refine zd ?_ ?_<;>intro h36
 rw[HP h36] at hq34
 refine zd ?_ ?_<;>intro h37
 rw[HP h37] at hq34
 obtain⟨j38,x38,en38,ex38,hq34⟩:=az hq34
 refine bD en38 ex38 rfl (z ?_)
 obtain⟨hg39,hq34⟩:=ah hq34
 refine zd ?_ ?_<;>intro h40
 rw[HP h40] at hq34
 unfold gW at hq34
 refine z ?_
 obtain⟨hg41,hq34⟩:=ah hq34
 refine z ?_
 cases hq34
 exact fc
 rw[TP h40] at hq34
 obtain⟨hg42,hq34⟩:=ah hq34
 refine zd ?_ ?_<;>intro h43
 rw[HP h43] at hq34
 unfold gW at hq34
 refine z ?_
 obtain⟨hg44,hq34⟩:=ah hq34
 refine z ?_
 cases hq34
 exact fc
 rw[TP h43] at hq34
 obtain⟨v45,hv45,hq34⟩:=aa hq34
 refine cr 12 18 rfl ?_
 refine lg (α:=Nat×Int×List Va×Nat) ae (fun(nw,s1,s2,ts2)=>(Tv x38 most nw s1 s2=some v45,⟨183,[(12,.own 2 ts2),(13,.int .i64 s1),(11,.ptr 1 0),(10,.int .i64 s1_34),(7,.int .i64 s2_34),(6,.int .i64 0),(3,.ptr 0 0),(1,.int .i64 levels),(2,.int .i64 most)]⟩,⟨[(2,.row 18 (s2.map aN) ts2 false),(1,.cells [.aK false (List.map (cZ aN) x38.fields),.aK false (List.map (dI aN) x38.aw)]),(0,.cells (cg aN v))],3,0,[],[]⟩,nw)) ⟨(_,_,_,(0)),hv45⟩ ?_
 rintro⟨n45,s1_45,s2_45,ts2_45⟩ hq45
 dsimp only at hq45
 rcases n45 with _|n45
 (unfold Tv at hq45;cases hq45)
 unfold Tv at hq45
 refine z ?_
 obtain⟨hg46,hq45⟩:=ah hq45
 refine zd ?_ ?_<;>intro h47
 rw[HP h47] at hq45
 obtain⟨j48,x48,en48,ex48,hq45⟩:=az hq45
 refine bP (cP _) en48 ex48 rfl (z ?_)
 obtain⟨hg49,hq45⟩:=ah hq45
 refine zd ?_ ?_<;>intro h50
 rw[HP h50] at hq45
 unfold gW at hq45
 rw[VY] at hq45
 refine z ?_
 obtain⟨hg51,hq45⟩:=ah hq45
 dsimp only[Option.bind_some] at hq45
 refine⟨⟨by omega,by omega⟩,?_⟩
 cases hq45
 dsimp only at hq34
 refine z ?_
 cases hq34
 exact fc
 rw[TP h50] at hq45
 obtain⟨j52,x52,en52,ex52,hq45⟩:=az hq45
 refine bP (cP _) en52 ex52 rfl (z ?_)
 obtain⟨hg53,hq45⟩:=aC hq45
 refine z ?_
 refine aM x52.val (cA _) (z ?_)
 exact bk ⟨(n45,_,_,(ts2_45+1)),hq45⟩
 rw[TP h47] at hq45
 cases hq45
 dsimp only at hq34
 refine z ?_
 refine bd rfl rfl ?_
 obtain⟨v54,hv54,hq34⟩:=aa hq34
 refine lg (α:=Nat×Int×List Va×Nat) ae (fun(nw,s1,s2,ts2)=>(Ry x38 most nw s1 s2=some v54,⟨183,[(14,.int .i64 s1),(12,.own 2 ts2),(11,.ptr 1 0),(10,.int .i64 s1_34),(7,.int .i64 s2_34),(6,.int .i64 0),(3,.ptr 0 0),(1,.int .i64 levels),(2,.int .i64 most)]⟩,⟨[(2,.row 18 (s2.map aN) ts2 false),(1,.cells [.aK false (List.map (cZ aN) x38.fields),.aK false (List.map (dI aN) x38.aw)]),(0,.cells (cg aN v))],3,0,[],[]⟩,nw)) ⟨(_,_,_,ts2_45),hv54⟩ ?_
 rintro⟨n54,s1_54,s2_54,ts2_54⟩ hq54
 dsimp only at hq54
 rcases n54 with _|n54
 (unfold Ry at hq54;cases hq54)
 unfold Ry at hq54
 refine z ?_
 obtain⟨hg55,hq54⟩:=ah hq54
 refine zd ?_ ?_<;>intro h56
 rw[HP h56] at hq54
 obtain⟨j57,x57,en57,ex57,hq54⟩:=az hq54
 refine bP (cB _) en57 ex57 rfl (z ?_)
 obtain⟨v58,e58,hq54⟩:=aa hq54
 refine ce (IA e58) (z ?_)
 refine zm ?_ ?_<;>intro h59
 rw[TP (nt h59)] at hq54
 unfold gW at hq54
 rw[VY] at hq54
 refine z ?_
 obtain⟨hg60,hq54⟩:=ah hq54
 dsimp only[Option.bind_some] at hq54
 refine⟨⟨by omega,by omega⟩,?_⟩
 cases hq54
 dsimp only at hq34
 refine z ?_
 cases hq34
 exact fc
 rw[HP h59] at hq54
 obtain⟨j61,x61,en61,ex61,hq54⟩:=az hq54
 refine bP (cB _) en61 ex61 rfl (z ?_)
 obtain⟨hg62,hq54⟩:=aC hq54
 refine z ?_
 refine aM x61.val (cA _) (z ?_)
 exact bk ⟨(n54,_,_,(ts2_54+1)),hq54⟩
 rw[TP h56] at hq54
 cases hq54
 dsimp only at hq34
 unfold Rx at hq34
 rw[VY] at hq34
 refine z ?_
 obtain⟨hg63,hq34⟩:=ah hq34
 rw[VY] at hq34
 obtain⟨hg64,hq34⟩:=ah hq34
 rw[VY] at hq34
 refine z ?_
 obtain⟨v66,e66,hq34⟩:=aa hq34
 refine b6 (h e66) rfl (z ?_)
 rw[VY] at hq34
 refine z ?_
 obtain⟨hg67,hq34⟩:=ah hq34
 dsimp only[Option.bind_some] at hq34
 refine z ?_
 exact bk ⟨(n34,_,_),hq34⟩
 rw[TP h37] at hq34
 cases hq34
 exact fc
 rw[TP h36] at hq34
 cases hq34
 exact fc
def meR:Nat->bt Va->Int->Int->Option Int
 |0,_,_,_=>none
 |n+1,v,levels,most=>Uz (fun l levels most=>UE (meR n) l levels most) v levels most
theorem UB:∀{n:Nat},VM (meR n):=by
 intro n
 induction n with
 |zero=>intro v levels most r hm;cases hm
 |succ n ih=>intro v levels most r hm;exact Uy (fun hm=>NN ih hm) hm
def maR (l:List Va) (levels most:Int):Option Int:=UE (meR 5) l levels most
theorem UD {l:List Va} {levels most r:Int} (hm:maR l levels most=some r):Has Tryz.prog 11 [.aK false (l.map aN),.int .i64 levels,.int .i64 most] fun s=>s= .int .i64 r:=NN UB hm
theorem Rz {x:Va} {levels most r:Int} (hm:maR [x] levels most=some r):Has Tryz.prog 11 [.aK false [ec x],.int .i64 levels,.int .i64 most] fun s=>s= .int .i64 r:=by
 have h:=UD hm
 rwa [show List.map aN [x]=[ec x] from by rw[List.map,List.map,cA]] at h
def qZ (x:Va):Option Bool:=(maR [x] 3 60).bind fun n=>some (decide (n<=60))
theorem JZ {x:Va} {r:Bool} (hm:qZ x=some r):Has Tryz.prog 4 [.agg (ec x)] fun s=>s= .bool r:=by
 refine hs ae Tryz.f4 ?_
 unfold qZ at hm
 refine z ?_
 obtain⟨v1,e1,hm⟩:=aa hm
 refine b6 (Rz e1) rfl (z ?_)
 cases hm
 exact fc
def sdM (rec:bA->bA->Option Bool) (a b:dt bA):Nat->Int->Option Bool
 |0,_=>none
 |f+1,i=>(aR a.members).bind fun _=>if i<(a.members.length:Int) then(cJ a.members i).bind fun x=>(cJ b.members i).bind fun y=>if x.label=y.label then(cJ a.members i).bind fun x=>(cJ b.members i).bind fun y=>(rec x.data y.data).bind fun ok=>if ok then sdM rec a b f (i+1) else some false else some false else some true
def sdI (rec:bA->bA->Option Bool) (a b:dt bA):Nat->Int->Option Bool
 |0,_=>none
 |f+1,i=>(aR a.items).bind fun _=>if i<(a.items.length:Int) then(cJ a.items i).bind fun x=>(cJ b.items i).bind fun y=>(rec x y).bind fun ok=>if ok then sdI rec a b f (i+1) else some false else sdM rec a b (a.members.length+1) 0
def sdC (rec:bA->bA->Option Bool) (a b:dt bA):Option Bool:=if a.kind=b.kind then if a.num=b.num then if a.str=b.str then(aR a.items).bind fun _=>(aR b.items).bind fun _=>if(a.items.length:Int)=b.items.length then
  (aR a.members).bind fun _=>(aR b.members).bind fun _=>if(a.members.length:Int)=b.members.length then sdI rec a b (a.items.length+1) 0 else some false else some false else some false else some false else some false
def sdR:Nat->bA->bA->Option Bool
 |0,_,_=>none
 |n+1,a,b=>sdC (sdR n) a.c b.c
theorem T7:∀{n:Nat} {a b:bA} {r:Bool} (hm:sdR n a b=some r),Has Tryz.prog 15 [.agg (cS a),.agg (cS b)] fun s=>s= .bool r:=by
 intro n
 induction n with
 |zero=>intro a b r hm;cases hm
 |succ n ih=>
  intro a b r hm
  refine hs ae Tryz.f15 ?_
  unfold sdR sdC at hm
  refine z ?_
  refine zn ?_ ?_<;>intro h1
  ·rw[TP h1] at hm
   cases hm
   exact fc
  ·rw[HP h1] at hm
   refine zn ?_ ?_<;>intro h2
   ·rw[TP h2] at hm
    cases hm
    exact fc
   ·rw[HP h2] at hm
    refine zn ?_ ?_<;>intro h3
    ·rw[TP h3] at hm
     cases hm
     exact fc
    ·rw[HP h3] at hm
     obtain⟨hg4,hm⟩:=ah hm
     obtain⟨hg5,hm⟩:=ah hm
     refine zn ?_ ?_<;>intro h6
     ·rw[TP h6] at hm
      cases hm
      exact fc
     ·rw[HP h6] at hm
      obtain⟨hg7,hm⟩:=ah hm
      obtain⟨hg8,hm⟩:=ah hm
      refine zn ?_ ?_<;>intro h9
      ·rw[TP h9] at hm
       cases hm
       exact fc
      ·rw[HP h9] at hm
       refine lg (α:=Nat×Int) ae (fun(nw,s1)=>(sdI (sdR n) a.c b.c nw s1=some r,⟨99,[(5,.int .i64 s1),(4,.bool false),(3,.ptr 1 0),(2,.ptr 0 0)]⟩,⟨[(1,.cells (cS b)),(0,.cells (cS a))],2,0,[],[]⟩,nw)) ⟨(_,_),hm⟩ ?_
       rintro⟨n10,s1_10⟩ hq10
       dsimp only at hq10
       rcases n10 with _|n10
       ·(unfold sdI at hq10;cases hq10)
       unfold sdI at hq10
       refine z ?_
       obtain⟨hg11,hq10⟩:=ah hq10
       refine zd ?_ ?_<;>intro h12
       ·rw[HP h12] at hq10
        refine dg ae [0,1,0,7,15,0,32,0,224,480,1023,2047] [] (z ?_)
        obtain⟨j13,x13,en13,ex13,hq10⟩:=az hq10
        refine bP (eo _) en13 ex13 rfl (z ?_)
        obtain⟨j14,x14,en14,ex14,hq10⟩:=az hq10
        refine bP (eo _) en14 ex14 rfl (z ?_)
        obtain⟨v15,e15,hq10⟩:=aa hq10
        refine ce (ih e15) (z ?_)
        refine zm ?_ ?_<;>intro h16
        ·rw[TP (nt h16)] at hq10
         cases hq10
         exact fc
        ·rw[HP h16] at hq10
         exact bk ⟨(n10,_),hq10⟩
       ·rw[TP h12] at hq10
        refine bd rfl rfl ?_
        refine lg (α:=Nat×Int) ae (fun(nw,s1)=>(sdM (sdR n) a.c b.c nw s1=some r,⟨99,[(6,.int .i64 s1),(4,.bool false),(3,.ptr 1 0),(2,.ptr 0 0)]⟩,⟨[(1,.cells (cS b)),(0,.cells (cS a))],2,0,[],[]⟩,nw)) ⟨(_,_),hq10⟩ ?_
        rintro⟨n17,s1_17⟩ hq17
        dsimp only at hq17
        rcases n17 with _|n17
        ·(unfold sdM at hq17;cases hq17)
        unfold sdM at hq17
        refine z ?_
        obtain⟨hg18,hq17⟩:=ah hq17
        refine zd ?_ ?_<;>intro h19
        ·rw[HP h19] at hq17
         refine dg ae [0,1,0,7,15,31,0,64,0,448,960,1984,4095,8191,16383,32767,16383,131071,262143,524287,16383,1064959,16383,7356415,15745023,32522239,67108863,134217727,268435455] [] (z ?_)
         obtain⟨j20,x20,en20,ex20,hq17⟩:=az hq17
         refine bP (bJ _) en20 ex20 rfl (z ?_)
         obtain⟨j21,x21,en21,ex21,hq17⟩:=az hq17
         refine bP (bJ _) en21 ex21 rfl (z ?_)
         refine zn ?_ ?_<;>intro h22
         ·rw[TP h22] at hq17
          cases hq17
          exact fc
         ·rw[HP h22] at hq17
          obtain⟨j23,x23,en23,ex23,hq17⟩:=az hq17
          refine bP (bJ _) en23 ex23 rfl (z ?_)
          obtain⟨j24,x24,en24,ex24,hq17⟩:=az hq17
          refine bP (bJ _) en24 ex24 rfl (z ?_)
          obtain⟨v25,e25,hq17⟩:=aa hq17
          refine ce (ih e25) (z ?_)
          refine zm ?_ ?_<;>intro h26
          ·rw[TP (nt h26)] at hq17
           cases hq17
           exact fc
          ·rw[HP h26] at hq17
           exact bk ⟨(n17,_),hq17⟩
        ·rw[TP h19] at hq17
         cases hq17
         exact fc
def Tl (a b:bA):Option Bool:=sdR 20 a b
theorem MR {a b:bA} {r:Bool} (hm:Tl a b=some r):Has Tryz.prog 15 [.agg (cS a),.agg (cS b)] fun s=>s= .bool r:=T7 hm
def Up (a:List bj):Option (List bj):=S2.bind fun al=>jP al a
theorem Rq {a r:List bj} (hm:Up a=some r):bp Tryz.prog 73 [.agg [aE a]] fun s=>s= .agg [aE r]:=by
 refine ht ae Tryz.f73 ?_
 unfold Up at hm
 refine z ?_
 refine dg ae [0,0,3,7] [] (z ?_)
 obtain⟨v1,e1,hm⟩:=aa hm
 refine ce (Jp e1) (z ?_)
 replace hm:=aJ hm
 obtain⟨v2,e2,hm⟩:=aa hm
 refine ct (nK e2) (z ?_)
 cases hm
 exact mst
def T9 (s:bM):Option Va:=plain ⟨false,s,[],[]⟩
theorem QX {s:bM} {r:Va} (hm:T9 s=some r):Has Tryz.prog 74 [.agg (cq s)] fun v=>v= .agg (ec r):=by
 refine hs ae Tryz.f74 ?_
 unfold T9 at hm
 refine z ?_
 replace hm:=aJ hm
 obtain⟨v1,e1,hm⟩:=aa hm
 refine ce (ko e1) (z ?_)
 cases hm
 exact fc
theorem Kj {fs:List (dy Va)} {n:List bj} {other r:Va} (hm:plain ⟨false,et,[],[⟨fs,[⟨n,other⟩]⟩]⟩=some r):Has Tryz.prog 17 [.agg [.bool false,.bool false,.bool false,.bool false,.aK false [],.aK false [],.aK false [],.aK false [],.aK false [[.aK false (fs.map (cZ aN)),.aK false [fI ⟨n,other⟩]]]]] fun s=>s= .agg (ec r):=by
 have h:=ko hm
 have e:cg aN ⟨false,et,[],[⟨fs,[⟨n,other⟩]⟩]⟩=[.bool false,.bool false,.bool false,.bool false,.aK false [],.aK false [],.aK false [],.aK false [],.aK false [[.aK false (fs.map (cZ aN)),.aK false [fI ⟨n,other⟩]]]]:=by
  simp only[cg,aG,List.map,dI,fI,cA,et,a7,aE]
 rwa [e] at h
def ofI (rec:bA->Option Va):List bA->List Va->Option Va
 |[],out=>plain ⟨false,et,[⟨out,[]⟩],[]⟩
 |x::r,out=>(rec x).bind fun v=>(push out v).bind fun out=>ofI rec r out
def ofM (rec:bA->Option Va) (other:Va):List (Mem bA)->List (dy Va)->List bj->Option Va
 |[],out,fs=>(Up fs).bind fun n=>plain ⟨false,et,[],[⟨out,[⟨n,other⟩]⟩]⟩
 |m::r,out,fs=>(rec m.data).bind fun v=>(push out ⟨m.label,1,v⟩).bind fun out=>(pL m.label).bind fun w=>(Tp fs w).bind fun fs=>ofM rec other r out fs
def Uo (other:Va):Nat->bA->Option Va
 |0,_=>none
 |n+1,d=>if d.c.kind=5 then(aR d.c.items).bind fun _=>ofI (Uo other n) d.c.items [] else if d.c.kind=6 then(aR d.c.members).bind fun _=>ofM (Uo other n) other d.c.members [] [] else(Gj d).bind fun p=>T9 p.1
theorem Un {other:Va}:∀{n:Nat} {d:bA} {r:Va} (hm:Uo other n d=some r),bp Tryz.prog 47 [.agg (cS d),.agg (ec other)] fun s=>s= .agg (ec r):=by
 intro n
 induction n with
 |zero=>intro d r hm;cases hm
 |succ n ih=>
  intro d r hm
  refine ht ae Tryz.f47 ?_
  unfold Uo at hm
  refine z ?_
  refine zd ?_ ?_<;>intro h1
  ·rw[HP h1] at hm
   obtain⟨hg2,hm⟩:=ah hm
   refine bK 4 0 18 rfl rfl ?_
   refine lg (α:=Nat×List Va×Nat) ae (fun(iw,s1,ts1)=>(ofI (Uo other n) (List.drop iw d.c.items) s1=some r,⟨82,[(21,.int .i64 iw),(20,.int .i64 ↑d.c.items.length),(19,.aK false (List.map dP d.c.items)),(5,.ptr 4 0),(4,.ptr 3 0),(3,.ptr 2 0),(2,.ptr 1 0)]⟩,⟨[(5,.row 18 (s1.map aN) ts1 false),(4,.cells [.own 5 ts1,.aD]),(3,.cells [.bool false,.bool false,.bool false,.bool false,.aD,.aD,.aD,.aD,.aD,.bool false,.bool false,.bool false,.bool false,.aD,.aD,.aD,.aD,.aD]),(2,.cells (ec other)),(1,.cells (cS d)),(0,ba)],6,0,[],[]⟩,List.length d.c.items-iw)) ⟨(0,_,(0)),hm⟩ ?_
   rintro⟨i3,s1_3,ts1_3⟩ hq3
   dsimp only at hq3
   refine z ?_
   refine zd ?_ ?_<;>intro h4
   ·obtain⟨x4,ex4,ed4⟩:=av h4
    rw[ed4,ofI] at hq3
    refine z ?_
    refine bF (eo _) ex4 rfl (z ?_)
    refine dg ae [0,1,0,0,12,28,63,127,255] [] (z ?_)
    obtain⟨v5,e5,hq3⟩:=aa hq3
    refine ct (ih e5) (z ?_)
    obtain⟨hg6,hq3⟩:=aC hq3
    refine z ?_
    refine aM v5 (cA _) (z ?_)
    exact bk ⟨(i3+1,_,(ts1_3+1)),hq3⟩
   ·rw[aA h4,ofI] at hq3
    replace hq3:=aJ hq3
    obtain⟨v7,e7,hq3⟩:=aa hq3
    refine fR (ko e7) (z ?_)
    cases hq3
    exact mst
  ·rw[TP h1] at hm
   refine zd ?_ ?_<;>intro h8
   ·rw[HP h8] at hm
    obtain⟨hg9,hm⟩:=ah hm
    refine bK 4 0 20 rfl rfl ?_
    refine iY 5 0 rfl rfl ?_
    refine lg (α:=Nat×List (dy Va)×List bj×Nat) ae (fun(iw,s1,s2,ts1)=>(ofM (Uo other n) other (List.drop iw d.c.members) s1 s2=some r,⟨82,[(43,.int .i64 iw),(42,.int .i64 ↑d.c.members.length),(41,.aK false (List.map (jV dP) d.c.members)),(9,.ptr 5 0),(8,.ptr 4 0),(4,.ptr 3 0),(3,.ptr 2 0),(2,.ptr 1 0)]⟩,⟨[(6,.row 20 (s1.map (cZ aN)) ts1 false),(5,.cells [aE s2]),(4,.cells [.own 6 ts1,.aD]),(3,.cells [.bool false,.bool false,.bool false,.bool false,.aD,.aD,.aD,.aD,.aD,.bool false,.bool false,.bool false,.bool false,.aD,.aD,.aD,.aD,.aD]),(2,.cells (ec other)),(1,.cells (cS d)),(0,ba)],7,0,[],[]⟩,List.length d.c.members-iw)) ⟨(0,_,_,(0)),hm⟩ ?_
    rintro⟨i10,s1_10,s2_10,ts1_10⟩ hq10
    dsimp only at hq10
    refine z ?_
    refine zd ?_ ?_<;>intro h11
    ·obtain⟨x11,ex11,ed11⟩:=av h11
     rw[ed11,ofM] at hq10
     refine z ?_
     refine bF (bJ _) ex11 rfl (z ?_)
     refine dg ae [0,1,0,4,0,16,0,112,252,508,1023,2047,4095] [] (z ?_)
     obtain⟨v12,e12,hq10⟩:=aa hq10
     refine ct (ih e12) (z ?_)
     obtain⟨hg13,hq10⟩:=aC hq10
     refine z ?_
     refine aM ({label:=x11.label,dR:=1,val:=v12}) (cP _) (z ?_)
     refine dg ae [0,0,2,6,15,31] [] (z ?_)
     obtain⟨v14,e14,hq10⟩:=aa hq10
     refine ce (Ht e14) (z ?_)
     obtain⟨v15,e15,hq10⟩:=aa hq10
     refine ct (AJ e15) (z ?_)
     exact bk ⟨(i10+1,_,_,(ts1_10+1)),hq10⟩
    ·rw[aA h11,ofM] at hq10
     refine dg ae [0,1,0,7,15,31,63] [] (z ?_)
     obtain⟨v16,e16,hq10⟩:=aa hq10
     refine ct (Rq e16) (z ?_)
     replace hq10:=aJ hq10
     obtain⟨v17,e17,hq10⟩:=aa hq10
     refine fR (Kj e17) (z ?_)
     cases hq10
     exact mst
   ·rw[TP h8] at hm
    obtain⟨v18,e18,hm⟩:=aa hm
    refine ct (Gi e18) (z ?_)
    replace hm:=aJ hm
    obtain⟨v19,e19,hm⟩:=aa hm
    refine ce (QX e19) (z ?_)
    cases hm
    exact mst
def Iw (d:bA) (other:Va):Option (Va×Int):=(mR d).bind fun e=>if e=0 then(Uo other 18 d).bind fun v=>(mf v).bind fun ok=>if ok then qe v else some (JA,9) else some (JA,e)
theorem Dr {d:bA} {other:Va} {r:Va×Int} (hm:Iw d other=some r):bp Tryz.prog 25 [.agg (cS d),.agg (ec other)] fun s=>s= .dZ [.agg (ec r.1),.int .i64 r.2]:=by
 refine ht ae Tryz.f25 ?_
 unfold Iw at hm
 refine z ?_
 obtain⟨v1,e1,hm⟩:=aa hm
 refine ce (BD e1) (z ?_)
 refine zn ?_ ?_<;>intro h2
 rw[TP h2] at hm
 cases hm
 refine a8 (z ?_)
 exact mt
 rw[HP h2] at hm
 obtain⟨v3,e3,hm⟩:=aa hm
 refine ct (Un e3) (z ?_)
 obtain⟨v4,e4,hm⟩:=aa hm
 refine ct (yB e4) (z ?_)
 refine zm ?_ ?_<;>intro h5
 rw[TP (nt h5)] at hm
 cases hm
 refine a8 (z ?_)
 exact mt
 rw[HP h5] at hm
 replace hm:=aJ hm
 obtain⟨v6,e6,hm⟩:=aa hm
 refine ct (vr e6) (z ?_)
 cases hm
 exact mst
def cOf (d:bA):Option (Va×Int):=Iw d JA
theorem Pm {d:bA} {r:Va×Int} (hm:cOf d=some r):bp Tryz.prog 12 [.agg (cS d)] fun s=>s= .dZ [.agg (ec r.1),.int .i64 r.2]:=by
 refine ht ae Tryz.f12 ?_
 unfold cOf at hm
 refine z ?_
 replace hm:=aJ hm
 obtain⟨v1,e1,hm⟩:=aa hm
 refine ct (Dr e1) (z ?_)
 cases hm
 exact mst
def BL (d:bA):Option (Va×Int):=T2.bind fun t=>Iw d t
theorem Lr {d:bA} {r:Va×Int} (hm:BL d=some r):bp Tryz.prog 16 [.agg (cS d)] fun s=>s= .dZ [.agg (ec r.1),.int .i64 r.2]:=by
 refine ht ae Tryz.f16 ?_
 unfold BL at hm
 refine z ?_
 refine dg ae [0,0,3,7,7,31,63] [] (z ?_)
 obtain⟨v1,e1,hm⟩:=aa hm
 refine ce (Qy e1) (z ?_)
 replace hm:=aJ hm
 obtain⟨v2,e2,hm⟩:=aa hm
 refine ct (Dr e2) (z ?_)
 cases hm
 exact mst
theorem Sj {ll:List (List (aF Va))} {r:List (aF Va)} (hm:Sl ll=some r):Has Tryz.prog 53 [.aK false (ll.map (ik (aG aN)))] fun s=>s= .aK false (r.map (aG aN)):=by
 refine hs ae Tryz.f53 ?_
 unfold Sl at hm
 refine z ?_
 obtain⟨hg1,hm⟩:=ah hm
 obtain⟨v2,hv2,hm⟩:=aa hm
 refine lg (α:=Nat×Int) ae (fun(iw,s1)=>(K2 (List.drop iw ll) s1=some v2,⟨36,[(11,.int .i64 iw),(10,.int .i64 ↑ll.length),(9,.aK false (List.map (ik (aG aN)) ll)),(3,.int .i64 s1),(2,.aD),(0,.aK false (List.map (ik (aG aN)) ll))]⟩,⟨[],0,0,[],[]⟩,List.length ll-iw)) ⟨(0,_),hv2⟩ ?_
 rintro⟨i2,s1_2⟩ hq2
 dsimp only at hq2
 refine z ?_
 refine zd ?_ ?_<;>intro h3
 obtain⟨x3,ex3,ed3⟩:=av h3
 rw[ed3,K2] at hq2
 refine z ?_
 obtain⟨hg4,hq2⟩:=ah hq2
 obtain⟨hg5,hq2⟩:=ah hq2
 refine bx ex3 rfl (z ?_)
 refine zd ?_ ?_<;>intro h6
 rw[HP h6] at hq2
 cases hq2
 rw[TP h6] at hq2
 exact bk ⟨(i2+1,_),hq2⟩
 rw[aA h3,K2] at hq2
 cases hq2
 refine z ?_
 refine ci ae Tryz.f81 (z ?_)
 obtain⟨hg7,hm⟩:=ah hm
 refine zd ?_ ?_<;>intro h8
 rw[HP h8] at hm
 cases hm
 rw[TP h8] at hm
 refine gO (z ?_)
 refine⟨by simp only[ym,V4,WA,V5,Ws,V7];omega,?_⟩
 refine z ?_
 refine⟨by simp only[ym,V4,WA,V5,Ws,V7];omega,?_⟩
 refine z ?_
 refine zd ?_ ?_<;>intro h9
 refine⟨v2.toNat,by simp only[WA] at*;omega,by simp only[WA] at*;omega,by omega,E1 ?_⟩
 refine z ?_
 refine gO (z ?_)
 refine⟨0,rfl,Wd _,Ps (List.map (aG aN) []) rfl ?_⟩
 refine z ?_
 refine ei (z ?_)
 refine lg (α:=Nat×List (aF Va)×Nat) ae (fun(iw,s1,ts1)=>(xl (List.drop iw ll) s1=some r,⟨36,[(27,.int .i64 iw),(26,.int .i64 ↑ll.length),(25,.aK false (List.map (ik (aG aN)) ll)),(6,.own 0 ts1),(2,.aD)]⟩,⟨[(0,.row 2 (s1.map (aG aN)) ts1 false)],1,0,[],[]⟩,List.length ll-iw)) ⟨(0,_,(1)),hm⟩ ?_
 rintro⟨i10,s1_10,ts1_10⟩ hq10
 dsimp only at hq10
 refine z ?_
 refine zd ?_ ?_<;>intro h11
 obtain⟨x11,ex11,ed11⟩:=av h11
 rw[ed11,xl] at hq10
 refine z ?_
 refine bx ex11 rfl (z ?_)
 obtain⟨hg12,hq10⟩:=eu hq10
 refine z ?_
 refine jY (z ?_)
 exact bk ⟨(i10+1,_,(ts1_10+1)),hq10⟩
 rw[aA h11,xl] at hq10
 cases hq10
 refine dH (z ?_)
 first|exact e2|exact rfl
 refine z ?_
 refine ei (z ?_)
 refine cr 6 2 rfl ?_
 refine lg (α:=Nat×List (aF Va)×Nat) ae (fun(iw,s1,ts1)=>(xl (List.drop iw ll) s1=some r,⟨36,[(6,.own 0 ts1),(27,.int .i64 iw),(26,.int .i64 ↑ll.length),(25,.aK false (List.map (ik (aG aN)) ll)),(2,.aD)]⟩,⟨[(0,.row 2 (s1.map (aG aN)) ts1 false)],1,0,[],[]⟩,List.length ll-iw)) ⟨(0,_,(0)),hm⟩ ?_
 rintro⟨i13,s1_13,ts1_13⟩ hq13
 dsimp only at hq13
 refine z ?_
 refine zd ?_ ?_<;>intro h14
 obtain⟨x14,ex14,ed14⟩:=av h14
 rw[ed14,xl] at hq13
 refine z ?_
 refine bx ex14 rfl (z ?_)
 obtain⟨hg15,hq13⟩:=eu hq13
 refine z ?_
 refine jY (z ?_)
 exact bk ⟨(i13+1,_,(ts1_13+1)),hq13⟩
 rw[aA h14,xl] at hq13
 cases hq13
 refine dH (z ?_)
 first|exact e2|exact rfl
theorem K5 {a b r:List (aF Va)} (hm:kJ a b=some r):Has Tryz.prog 53 [.aK false [[.aK false (a.map (aG aN))],[.aK false (b.map (aG aN))]]] fun s=>s= .aK false (r.map (aG aN)):=Sj (wj hm)
def unL:List (bt Va)->bM->List (aV Va)->List (aF Va)->Option (bt Va)
 |[],sc,ls,ss=>(qe (.mk ⟨false,sc,ls,ss⟩ zV)).bind fun p=>some p.1.v
 |v::r,sc,ls,ss=>if v.any then some ⟨true,et,[],[]⟩ else(aR ls).bind fun _=>(aR v.lists).bind fun _=>(zf (ls.length+v.lists.length<1000000000)).bind fun _=>
   (orS sc v.sc).bind fun sc=>(mu ls v.lists).bind fun ls=>(kJ ss v.structs).bind fun ss=>unL r sc ls ss
def Al (l:List (bt Va)):Option (bt Va):=(aR l).bind fun _=>unL l et [] []
theorem yy {l:List (bt Va)} {r:bt Va} (hm:Al l=some r):bp Tryz.prog 28 [.aK false (l.map (cg aN))] fun s=>s= .agg (cg aN r):=by
 refine ht ae Tryz.f28 ?_
 unfold Al at hm
 refine z ?_
 obtain⟨hg1,hm⟩:=ah hm
 refine iY 2 4 rfl rfl ?_
 refine iY 2 5 rfl rfl ?_
 refine iY 2 6 rfl rfl ?_
 refine iY 2 7 rfl rfl ?_
 refine iY 2 8 rfl rfl ?_
 refine lg (α:=Nat×bM×List (aV Va)×List (aF Va)) ae (fun(iw,s1,s2,s3)=>(unL (List.drop iw l) s1 s2 s3=some r,⟨58,[(11,.int .i64 iw),(10,.int .i64 ↑l.length),(9,.aK false (List.map (cg aN) l)),(3,.ptr 2 0),(2,.ptr 1 0)]⟩,⟨[(2,.cells [.bool false,.bool s1.null,.bool s1.sE,.bool s1.rY,a7 s1.ints,a7 s1.bC,aE s1.strs,.aK false (s2.map (aS aN)),.aK false (s3.map (aG aN))]),(1,.cells [.bool false,.bool false,.bool false,.bool false,.aD,.aD,.aD,.aD,.aD]),(0,ba)],3,0,[],[]⟩,List.length l-iw)) ⟨(0,_,_,_),hm⟩ ?_
 rintro⟨i2,s1_2,s2_2,s3_2⟩ hq2
 dsimp only at hq2
 refine z ?_
 refine zd ?_ ?_<;>intro h3
 obtain⟨x3,ex3,ed3⟩:=av h3
 rw[ed3,unL] at hq2
 refine z ?_
 refine bx ex3 rfl (z ?_)
 refine zr ?_ ?_<;>intro h4
 rw[HP h4] at hq2
 cases hq2
 refine a8 (z ?_)
 exact mt
 rw[TP (nt h4)] at hq2
 obtain⟨hg5,hq2⟩:=ah hq2
 obtain⟨hg6,hq2⟩:=ah hq2
 obtain⟨hg7,hq2⟩:=ah hq2
 refine z ?_
 refine⟨_,_,rfl,(Int.natCast_add _ _).symm,by omega,by omega,E1 ?_⟩
 refine z ?_
 refine⟨by simp only[V4,Wc],?_⟩
 refine z ?_
 refine E1 (z ?_)
 refine dg ae [0,1,0,4,15,0,0,64,255,0,512,0,2048,7680,16383,32767,65535] [] (z ?_)
 obtain⟨v10,e10,hq2⟩:=aa hq2
 refine ct (Nf e10) (z ?_)
 obtain⟨hg11,hq2⟩:=eu hq2
 refine z ?_
 refine jY (z ?_)
 obtain⟨v12,e12,hq2⟩:=aa hq2
 refine fR (K5 e12) (z ?_)
 refine wY rfl rfl ?_
 refine zT 2 7 rfl rfl rfl ?_
 exact bk ⟨(i2+1,_,_,_),hq2⟩
 rw[aA h3,unL] at hq2
 obtain⟨v13,e13,hq2⟩:=aa hq2
 refine ct (vr e13) (z ?_)
 cases hq2
 exact mst
def GL (marks:List Bool) (sm:Bool):List Va->Int->List (bt Va)->List (bt Va)->Option (Va×Int)
 |[],_,al,pr=>(Al al).bind fun v=>(Al pr).bind fun d=>some (.mk v d,0)
 |x::r,i,al,pr=>(jN x).bind fun ok=>if ok then(push al x.v).bind fun al=>(cJ marks i).bind fun m=>if m then(push pr x.d).bind fun pr=>GL marks sm r (i+1) al pr else if sm then GL marks sm r (i+1) al pr else(push pr x.d).bind fun pr=>GL marks sm r (i+1) al pr else some (JA,11)
def IX (l:List Va) (marks:List Bool):Option (Va×Int):=(aR l).bind fun _=>if(l.length:Int)=0 then some (JA,2) else(aR marks).bind fun _=>if(l.length:Int)=marks.length then(K7 marks true).bind fun sm=>GL marks sm l 0 [] [] else some (JA,2)
theorem OF {l:List Va} {marks:List Bool} {r:Va×Int} (hm:IX l marks=some r):bp Tryz.prog 14 [.aK false (l.map aN),.aK false (marks.map di)] fun s=>s= .dZ [.agg (ec r.1),.int .i64 r.2]:=by
 refine ht ae Tryz.f14 ?_
 unfold IX at hm
 refine z ?_
 obtain⟨hg1,hm⟩:=ah hm
 refine zd ?_ ?_<;>intro h2
 rw[HP h2] at hm
 cases hm
 refine a8 (z ?_)
 exact mt
 rw[TP h2] at hm
 obtain⟨hg3,hm⟩:=ah hm
 refine zn ?_ ?_<;>intro h4
 rw[TP h4] at hm
 cases hm
 refine a8 (z ?_)
 exact mt
 rw[HP h4] at hm
 obtain⟨v5,e5,hm⟩:=aa hm
 refine ce (Bo e5) (z ?_)
 refine cr 7 9 rfl ?_
 refine cr 8 9 rfl ?_
 refine lg (α:=Nat×List (bt Va)×List (bt Va)×Nat×Nat) ae (fun(iw,s1,s2,ts1,ts2)=>(GL marks v5 (List.drop iw l) (iw:Int) s1 s2=some r,⟨59,[(8,.own 3 ts2),(7,.own 2 ts1),(26,.int .i64 iw),(25,.int .i64 ↑l.length),(24,.aK false (List.map aN l)),(6,.bool v5),(5,.int .i64 0),(4,.ptr 1 0),(1,.aK false (List.map di marks))]⟩,⟨[(3,.row 9 (s2.map (cg aN)) ts2 false),(2,.row 9 (s1.map (cg aN)) ts1 false),(1,.cells [.bool false,.bool false,.bool false,.bool false,.aD,.aD,.aD,.aD,.aD,.bool false,.bool false,.bool false,.bool false,.aD,.aD,.aD,.aD,.aD]),(0,ba)],4,0,[],[]⟩,List.length l-iw)) ⟨(0,_,_,(0),(0)),hm⟩ ?_
 rintro⟨i6,s1_6,s2_6,ts1_6,ts2_6⟩ hq6
 dsimp only at hq6
 refine z ?_
 refine zd ?_ ?_<;>intro h7
 obtain⟨x7,ex7,ed7⟩:=av h7
 rw[ed7,GL] at hq6
 refine z ?_
 refine bF (cA _) ex7 rfl (z ?_)
 obtain⟨v8,e8,hq6⟩:=aa hq6
 refine ct (qV e8) (z ?_)
 refine zm ?_ ?_<;>intro h9
 rw[TP (nt h9)] at hq6
 cases hq6
 refine a8 (z ?_)
 exact mt
 rw[HP h9] at hq6
 obtain⟨hg10,hq6⟩:=aC hq6
 refine z ?_
 refine aM x7.v rfl (z ?_)
 obtain⟨j11,x11,en11,ex11,hq6⟩:=az hq6
 refine bD en11 ex11 rfl (z ?_)
 refine zr ?_ ?_<;>intro h12
 rw[HP h12] at hq6
 obtain⟨hg13,hq6⟩:=aC hq6
 refine z ?_
 refine aM x7.d rfl (z ?_)
 exact bk ⟨(i6+1,_,_,(ts1_6+1),(ts2_6+1)),hq6⟩
 rw[TP (nt h12)] at hq6
 refine zm ?_ ?_<;>intro h14
 rw[TP (nt h14)] at hq6
 obtain⟨hg15,hq6⟩:=aC hq6
 refine z ?_
 refine aM x7.d rfl (z ?_)
 exact bk ⟨(i6+1,_,_,(ts1_6+1),(ts2_6+1)),hq6⟩
 rw[HP h14] at hq6
 exact bk ⟨(i6+1,_,_,(ts1_6+1),ts2_6),hq6⟩
 rw[aA h7,GL] at hq6
 obtain⟨v16,e16,hq6⟩:=aa hq6
 refine bI (yy e16) (z ?_)
 obtain⟨v17,e17,hq6⟩:=aa hq6
 refine bI (yy e17) (z ?_)
 cases hq6
 exact mst
/-! paths -/
def sgn (b:Bool):Option Int:=if b then some (-1) else some 1
theorem uC {b:Bool} {r:Int} (hm:sgn b=some r):Has Tryz.prog 55 [.bool b] fun s=>s= .int .i64 r:=by
 refine hs ae Tryz.f55 ?_
 unfold sgn at hm
 refine z ?_
 refine zr ?_ ?_<;>intro h1
 rw[HP h1] at hm
 cases hm
 exact fc
 rw[TP (nt h1)] at hm
 cases hm
 exact fc
def Uk (a b:oS):Option Int:=if(decide (a.label=[])==decide (b.label=[])) then if a.label=b.label then if a.index=b.index then some 0 else sgn (decide (a.index<b.index)) else sgn (Op.bytesLess a.label b.label) else sgn (!decide (a.label=[]))
theorem Rl {a b:oS} {r:Int} (hm:Uk a b=some r):Has Tryz.prog 54 [.agg (jU a),.agg (jU b)] fun s=>s= .int .i64 r:=by
 refine hs ae Tryz.f54 ?_
 unfold Uk at hm
 refine z ?_
 refine zm ?_ ?_<;>intro h1
 rw[TP (nt h1)] at hm
 replace hm:=aJ hm
 obtain⟨v2,e2,hm⟩:=aa hm
 refine ce (uC e2) (z ?_)
 cases hm
 exact fc
 rw[HP h1] at hm
 refine zn ?_ ?_<;>intro h3
 rw[TP h3] at hm
 replace hm:=aJ hm
 obtain⟨v4,e4,hm⟩:=aa hm
 refine ce (uC e4) (z ?_)
 cases hm
 exact fc
 rw[HP h3] at hm
 refine zn ?_ ?_<;>intro h5
 rw[TP h5] at hm
 replace hm:=aJ hm
 obtain⟨v6,e6,hm⟩:=aa hm
 refine ce (uC e6) (z ?_)
 cases hm
 exact fc
 rw[HP h5] at hm
 cases hm
 exact fc
def I4 (a b:List oS):Option Int:=(aR a).bind fun _=>(aR b).bind fun _=>if(a.length:Int)=b.length then some 0 else sgn (decide ((a.length:Int)<b.length))
def EE (a b:List oS):Nat->Int->Option Int
 |0,_=>none
 |f+1,i=>(aR a).bind fun _=>if i<(a.length:Int) then(aR b).bind fun _=>if i<(b.length:Int) then(cJ a i).bind fun x=>(cJ b i).bind fun y=>(Uk x y).bind fun n=>if n=0 then EE a b f (i+1) else some n else I4 a b else I4 a b
def Vg (a b:List oS):Option Int:=EE a b (a.length+1) 0
theorem Sz {a b:List oS} {r:Int} (hm:Vg a b=some r):Has Tryz.prog 30 [.aK false (a.map jU),.aK false (b.map jU)] fun s=>s= .int .i64 r:=by
 refine hs ae Tryz.f30 ?_
 unfold Vg at hm
 refine z ?_
 refine lg (α:=Nat×Int) ae (fun(nw,s1)=>(EE a b nw s1=some r,⟨42,[(5,.int .i64 s1),(4,.int .i64 0),(0,.aK false (List.map jU a)),(1,.aK false (List.map jU b))]⟩,⟨[],0,0,[],[]⟩,nw)) ⟨(_,_),hm⟩ ?_
 rintro⟨n1,s1_1⟩ hq1
 dsimp only at hq1
 rcases n1 with _|n1
 (unfold EE at hq1;cases hq1)
 unfold EE at hq1
 refine z ?_
 obtain⟨hg2,hq1⟩:=ah hq1
 refine zd ?_ ?_<;>intro h3
 rw[HP h3] at hq1
 obtain⟨hg4,hq1⟩:=ah hq1
 refine zd ?_ ?_<;>intro h5
 rw[HP h5] at hq1
 refine dg ae [0,0,3,7,0,0,48,112,255,511] [] (z ?_)
 obtain⟨j6,x6,en6,ex6,hq1⟩:=az hq1
 refine bD en6 ex6 rfl (z ?_)
 obtain⟨j7,x7,en7,ex7,hq1⟩:=az hq1
 refine bD en7 ex7 rfl (z ?_)
 obtain⟨v8,e8,hq1⟩:=aa hq1
 refine ce (Rl e8) (z ?_)
 refine zn ?_ ?_<;>intro h9
 rw[TP h9] at hq1
 cases hq1
 exact fc
 rw[HP h9] at hq1
 exact bk ⟨(n1,_),hq1⟩
 rw[TP h5] at hq1
 unfold I4 at hq1
 refine z ?_
 obtain⟨hg10,hq1⟩:=ah hq1
 obtain⟨hg11,hq1⟩:=ah hq1
 have h12:¬((↑a.length:Int)=↑b.length):=by omega
 refine bnt h12 (z ?_)
 rw[TP h12] at hq1
 replace hq1:=aJ hq1
 obtain⟨v13,e13,hq1⟩:=aa hq1
 refine ce (uC e13) (z ?_)
 cases hq1
 exact fc
 rw[TP h3] at hq1
 unfold I4 at hq1
 refine z ?_
 obtain⟨hg14,hq1⟩:=ah hq1
 obtain⟨hg15,hq1⟩:=ah hq1
 refine zn ?_ ?_<;>intro h16
 rw[TP h16] at hq1
 replace hq1:=aJ hq1
 obtain⟨v17,e17,hq1⟩:=aa hq1
 refine ce (uC e17) (z ?_)
 cases hq1
 exact fc
 rw[HP h16] at hq1
 cases hq1
 exact fc
def Ua (a b:List oS):Option Bool:=(Vg a b).bind fun n=>some (decide (n=0))
theorem Q2 {a b:List oS} {r:Bool} (hm:Ua a b=some r):Has Tryz.prog 18 [.aK false (a.map jU),.aK false (b.map jU)] fun s=>s= .bool r:=by
 refine hs ae Tryz.f18 ?_
 unfold Ua at hm
 refine z ?_
 obtain⟨v1,e1,hm⟩:=aa hm
 refine ce (Sz e1) (z ?_)
 cases hm
 exact fc
def Ku (n:Int):Option bA:=some (jv 3 n [])
theorem tE {n:Int} {r:bA} (hm:Ku n=some r):Has Tryz.prog 13 [.int .i64 n] fun s=>s= .agg (cS r):=by
 refine hs ae Tryz.f13 ?_
 unfold Ku at hm
 refine z ?_
 cases hm
 refine dH (z ?_)
 first|exact rfl|exact⟨rfl,rfl⟩
theorem K1 {x y:Va} {a b:Bool} {r:Va×Int} (hm:IX [x,y] [a,b]=some r):bp Tryz.prog 14 [.aK false [ec x,ec y],.aK false [[.bool a],[.bool b]]] fun s=>s= .dZ [.agg (ec r.1),.int .i64 r.2]:=by
 have h:=OF hm
 rwa [show List.map aN [x,y]=[ec x,ec y] from by rw[List.map,List.map,List.map,cA,cA]] at h
theorem G2 {w:List UInt8} {n:bA} {r:Va×Int} (hm:BL (.mk ⟨6,0,[],[],[⟨w,n⟩]⟩)=some r):bp Tryz.prog 16 [.agg [.int .i64 6,.int .i64 0,.str [],.aK false [],.aK false [.str w::cS n]]] fun s=>s= .dZ [.agg (ec r.1),.int .i64 r.2]:=by
 have h:=Lr hm
 have e:cS (.mk ⟨6,0,[],[],[⟨w,n⟩]⟩)=[.int .i64 6,.int .i64 0,.str [],.aK false [],.aK false [.str w::cS n]]:=by
  show[SVal.int _ 6,.int _ 0,.str [],.aK false [],.aK false [.str w::dP n]]=_
  rw[eo]
 rwa [e] at h
theorem Kk {w:List UInt8} {i:Int} {p:Va} {ks:List (cW Va)} {r:Va} (hm:plain ⟨false,et,[],[⟨[⟨w,i,p⟩],ks⟩]⟩=some r):Has Tryz.prog 17 [.agg [.bool false,.bool false,.bool false,.bool false,.aK false [],.aK false [],.aK false [],.aK false [],.aK false [[.aK false [.str w:: .int .i64 i::ec p],.aK false (ks.map (dI aN))]]]] fun s=>s= .agg (ec r):=by
 have h:=ko hm
 have e:cg aN ⟨false,et,[],[⟨[⟨w,i,p⟩],ks⟩]⟩=[.bool false,.bool false,.bool false,.bool false,.aK false [],.aK false [],.aK false [],.aK false [],.aK false [[.aK false [.str w:: .int .i64 i::ec p],.aK false (ks.map (dI aN))]]]:=by
  show[SVal.bool _,.bool _,.bool _,.bool _,.aK false [],.aK false [],.aK false [],.aK false [],.aK false [[.aK false [.str w:: .int .i64 i::aN p],_]]]=_
  rw[cA]
  rfl
 rwa [e] at h
def exQ (v:Va):Option Bool:=(plain ⟨false,⟨false,false,false,[⟨0,9⟩],[],[]⟩,[],[]⟩).bind fun p=>(cJ v.v.structs 0).bind fun c0=>(plain ⟨false,et,[],[⟨[⟨[97],1,p⟩],c0.aw⟩]⟩).bind fun q=>
 (o6 q true).bind fun l=>(aR l).bind fun _=>if(l.length:Int)=1 then(cJ l 0).bind fun e=>if e.kG=14 then(cJ l 0).bind fun e=>Ua e.path [⟨[97],0⟩] else some false else some false
def exP:Option Bool:=(Ku 0).bind fun n0=>(BL (.mk ⟨6,0,[],[],[⟨[97],n0⟩]⟩)).bind fun v=>if v.2=0 then(aR v.1.v.structs).bind fun _=>if(v.1.v.structs.length:Int)=1 then exQ v.1 else some false else some false
def ou:Option Bool:=(Ku 10000).bind fun n1=>(cOf n1).bind fun one=>(Ku 20000).bind fun n2=>(cOf n2).bind fun two=>(IX [one.1,two.1] [true,false]).bind fun ei=>(sK ei.1 true).bind fun d=>
 if one.2=0 then if two.2=0 then if ei.2=0 then if d.2=0 then(Ku 10000).bind fun n=>(Tl d.1 n).bind fun ok=>if ok then exP else some false else some false else some false else some false else some false
theorem Bh {r:Bool} (hm:ou=some r):bp Tryz.prog 5 [] fun s=>s= .bool r:=by
 refine ht ae Tryz.f5 ?_
 unfold ou at hm
 refine z ?_
 obtain⟨v1,e1,hm⟩:=aa hm
 refine ce (tE e1) (z ?_)
 obtain⟨v2,e2,hm⟩:=aa hm
 refine ct (Pm e2) (z ?_)
 obtain⟨v3,e3,hm⟩:=aa hm
 refine ce (tE e3) (z ?_)
 obtain⟨v4,e4,hm⟩:=aa hm
 refine ct (Pm e4) (z ?_)
 obtain⟨v5,e5,hm⟩:=aa hm
 refine bI (K1 e5) (z ?_)
 obtain⟨v6,e6,hm⟩:=aa hm
 refine ct (Em e6) (z ?_)
 refine dg ae [0,1,3,7,15,31,63,127,255,511,1023,2047,4095,8191,16383,32767,32767,131071,262143,524287] [] (z ?_)
 refine zn ?_ ?_<;>intro h7
 rw[TP h7] at hm
 cases hm
 exact mst
 rw[HP h7] at hm
 refine zn ?_ ?_<;>intro h8
 rw[TP h8] at hm
 cases hm
 exact mst
 rw[HP h8] at hm
 refine zn ?_ ?_<;>intro h9
 rw[TP h9] at hm
 cases hm
 exact mst
 rw[HP h9] at hm
 refine zn ?_ ?_<;>intro h10
 rw[TP h10] at hm
 cases hm
 exact mst
 rw[HP h10] at hm
 obtain⟨v11,e11,hm⟩:=aa hm
 refine ce (tE e11) (z ?_)
 obtain⟨v12,e12,hm⟩:=aa hm
 refine ce (MR e12) (z ?_)
 refine zm ?_ ?_<;>intro h13
 rw[TP (nt h13)] at hm
 cases hm
 exact mst
 rw[HP h13] at hm
 unfold exP at hm
 refine z ?_
 obtain⟨v14,e14,hm⟩:=aa hm
 refine ce (tE e14) (z ?_)
 obtain⟨v15,e15,hm⟩:=aa hm
 refine bI (G2 e15) (z ?_)
 refine zn ?_ ?_<;>intro h16
 rw[TP h16] at hm
 cases hm
 exact mst
 rw[HP h16] at hm
 obtain⟨hg17,hm⟩:=ah hm
 refine zn ?_ ?_<;>intro h18
 rw[TP h18] at hm
 cases hm
 exact mst
 rw[HP h18] at hm
 unfold exQ at hm
 refine z ?_
 refine dg ae [0,1,3,7,15,31,63,127,0,256,768,1792,3840,7936,16383,0,65535] [] (z ?_)
 obtain⟨v19,e19,hm⟩:=aa hm
 refine fR (ko e19) (z ?_)
 obtain⟨j20,x20,en20,ex20,hm⟩:=az hm
 refine bD en20 ex20 rfl (z ?_)
 obtain⟨v21,e21,hm⟩:=aa hm
 refine fR (Kk e21) (z ?_)
 obtain⟨v22,e22,hm⟩:=aa hm
 refine ct (rf e22) (z ?_)
 obtain⟨hg23,hm⟩:=ah hm
 refine zd ?_ ?_<;>intro h24
 rw[HP h24] at hm
 obtain⟨j25,x25,en25,ex25,hm⟩:=az hm
 refine bD en25 ex25 rfl (z ?_)
 refine zd ?_ ?_<;>intro h26
 rw[HP h26] at hm
 obtain⟨j27,x27,en27,ex27,hm⟩:=az hm
 refine bD en27 ex27 rfl (z ?_)
 replace hm:=aJ hm
 obtain⟨v28,e28,hm⟩:=aa hm
 refine b6 (Q2 e28) rfl (z ?_)
 cases hm
 exact mst
 rw[TP h26] at hm
 cases hm
 exact mst
 rw[TP h24] at hm
 cases hm
 exact mst
def M4 (u:Int):Option Bool:=if u>= -1000000000000000 then some (decide (u<=1000000000000000)) else some false
theorem Q8 {u:Int} {r:Bool} (hm:M4 u=some r):Has Tryz.prog 34 [.int .i64 u] fun s=>s= .bool r:=by
 refine hs ae Tryz.f34 ?_
 unfold M4 at hm
 refine z ?_
 refine zd ?_ ?_<;>intro h1
 rw[HP h1] at hm
 cases hm
 exact fc
 rw[TP h1] at hm
 cases hm
 exact fc
def plR (d:dt bA):Option Bool:=(aR d.items).bind fun _=>(aR d.members).bind fun _=>if d.kind<1 then some false else if d.kind>6 then some false else
 if d.kind=2 then ku d else if d.kind=3 then ku d else
 if d.num=0 then if d.kind=4 then if(d.items.length:Int)=0 then some (decide ((d.members.length:Int)=0)) else some false else
  if d.str=[] then if d.kind=5 then some (decide ((d.members.length:Int)=0)) else if(d.items.length:Int)=0 then if d.kind=6 then some true else some (decide ((d.members.length:Int)=0)) else some false else some false
 else some false
theorem Ud {d:bA} {r:Bool} (hm:plR d.c=some r):Has Tryz.prog 33 [.agg (cS d)] fun s=>s= .bool r:=by
 refine hs ae Tryz.f33 ?_
 unfold plR at hm
 refine z ?_
 obtain⟨hg1,hm⟩:=ah hm
 obtain⟨hg2,hm⟩:=ah hm
 refine zd ?_ ?_<;>intro h3
 rw[HP h3] at hm
 cases hm
 exact fc
 rw[TP h3] at hm
 refine zd ?_ ?_<;>intro h4
 rw[HP h4] at hm
 cases hm
 exact fc
 rw[TP h4] at hm
 refine zn ?_ ?_<;>intro h5
 rw[TP h5] at hm
 refine zn ?_ ?_<;>intro h6
 rw[TP h6] at hm
 refine zn ?_ ?_<;>intro h7
 rw[TP h7] at hm
 cases hm
 exact fc
 rw[HP h7] at hm
 refine zn ?_ ?_<;>intro h8
 rw[TP h8] at hm
 refine zn ?_ ?_<;>intro h9
 rw[TP h9] at hm
 cases hm
 exact fc
 rw[HP h9] at hm
 refine zd ?_ ?_<;>intro h10
 rw[HP h10] at hm
 have h11:¬((d.c.kind:Int)=6):=by omega
 refine BV h11 (z ?_)
 cases hm
 exact fc
 rw[TP h10] at hm
 refine zd ?_ ?_<;>intro h12
 rw[HP h12] at hm
 refine zd ?_ ?_<;>intro h13
 rw[HP h13] at hm
 cases hm
 exact fc
 rw[TP h13] at hm
 cases hm
 exact fc
 rw[TP h12] at hm
 cases hm
 exact fc
 rw[HP h8] at hm
 have h14:¬((d.c.kind:Int)=5):=by omega
 refine BV h14 (z ?_)
 refine zd ?_ ?_<;>intro h15
 rw[HP h15] at hm
 have h16:¬((d.c.kind:Int)=6):=by omega
 refine BV h16 (z ?_)
 cases hm
 exact fc
 rw[TP h15] at hm
 cases hm
 exact fc
 rw[HP h6] at hm
 unfold ku at hm
 refine z ?_
 have h17:¬((d.c.kind:Int)=4):=by omega
 refine bnt h17 (z ?_)
 refine zn ?_ ?_<;>intro h18
 rw[TP h18] at hm
 cases hm
 exact fc
 rw[HP h18] at hm
 have h19:¬((d.c.kind:Int)=5):=by omega
 refine BV h19 (z ?_)
 refine zd ?_ ?_<;>intro h20
 rw[HP h20] at hm
 have h21:¬((d.c.kind:Int)=6):=by omega
 refine BV h21 (z ?_)
 cases hm
 exact fc
 rw[TP h20] at hm
 cases hm
 exact fc
 rw[HP h5] at hm
 unfold ku at hm
 refine z ?_
 have h22:¬((d.c.kind:Int)=4):=by omega
 refine bnt h22 (z ?_)
 refine zn ?_ ?_<;>intro h23
 rw[TP h23] at hm
 cases hm
 exact fc
 rw[HP h23] at hm
 have h24:¬((d.c.kind:Int)=5):=by omega
 refine BV h24 (z ?_)
 refine zd ?_ ?_<;>intro h25
 rw[HP h25] at hm
 have h26:¬((d.c.kind:Int)=6):=by omega
 refine BV h26 (z ?_)
 cases hm
 exact fc
 rw[TP h25] at hm
 cases hm
 exact fc
def Fo (rec:bA->Int->Option Int) (level:Int) (l:List (Mem bA)):Nat->Int->Option Int
 |0,_=>none
 |f+1,i=>if i<(l.length:Int) then(cJ l i).bind fun x=>(dD (level+1)).bind fun _=>(rec x.data (level+1)).bind fun e=>if e=0 then Fo rec level l f (i+1) else some e else some 0
def Fq (rec:bA->Int->Option Int) (level:Int) (l:List bA) (ms:List (Mem bA)):Nat->Int->Option Int
 |0,_=>none
 |f+1,i=>if i<(l.length:Int) then(cJ l i).bind fun x=>(dD (level+1)).bind fun _=>(rec x (level+1)).bind fun e=>if e=0 then Fq rec level l ms f (i+1) else some e else Fo rec level ms (ms.length+1) 0
def Fp (rec:bA->Int->Option Int) (level:Int) (l:List bA) (ms:List (Mem bA)):Nat->Int->Option Int
 |0,_=>none
 |f+1,i=>if i<(ms.length:Int) then(dD (i-1)).bind fun _=>(cJ ms (i-1)).bind fun x=>(cJ ms i).bind fun y=>if Op.bytesLess x.label y.label then Fp rec level l ms f (i+1) else some 6 else Fq rec level l ms (l.length+1) 0
def PY (rec:bA->Int->Option Int) (level:Int) (d:dt bA):Option Int:=(aR d.items).bind fun _=>(aR d.members).bind fun _=>Fp rec level d.items d.members (d.members.length+1) 1
def rcC (rec:bA->Int->Option Int) (d:dt bA) (level:Int):Option Int:=if level>16 then some 9 else(plR d).bind fun ok=>if ok then
  if d.kind=2 then if d.num=0 then PY rec level d else if d.num=1 then PY rec level d else some 1
  else if d.kind=3 then(M4 d.num).bind fun ok=>if ok then PY rec level d else some 1
  else PY rec level d
 else some 11
def ji:Nat->bA->Int->Option Int
 |0,_,_=>none
 |n+1,d,level=>rcC (ji n) d.c level
theorem Q6:∀{n:Nat} {d:bA} {level r:Int} (hm:ji n d level=some r),Has Tryz.prog 20 [.agg (cS d),.int .i64 level] fun s=>s= .int .i64 r:=by
 intro n
 induction n with
 |zero=>intro d level r hm;cases hm
 |succ n ih=>
  intro d level r hm
  refine hs ae Tryz.f20 ?_
  unfold ji rcC at hm
  refine z ?_
  refine zd ?_ ?_<;>intro h1
  ·rw[HP h1] at hm
   cases hm
   exact fc
  ·rw[TP h1] at hm
   obtain⟨v2,e2,hm⟩:=aa hm
   refine ce (Ud e2) (z ?_)
   refine zm ?_ ?_<;>intro h3
   ·rw[TP (nt h3)] at hm
    cases hm
    exact fc
   ·rw[HP h3] at hm
    refine zd ?_ ?_<;>intro h4
    ·rw[HP h4] at hm
     refine zn ?_ ?_<;>intro h5
     ·rw[TP h5] at hm
      refine zn ?_ ?_<;>intro h6
      ·rw[TP h6] at hm
       cases hm
       exact fc
      ·rw[HP h6] at hm
       unfold PY at hm
       refine z ?_
       obtain⟨hg7,hm⟩:=ah hm
       obtain⟨hg8,hm⟩:=ah hm
       have h9:¬((d.c.kind:Int)=3):=by omega
       refine BV h9 (z ?_)
       refine lg (α:=Nat×Int) ae (fun(nw,s1)=>(Fp (ji n) level d.c.items d.c.members nw s1=some r,⟨97,[(5,.int .i64 s1),(4,.int .i64 0),(2,.ptr 0 0),(1,.int .i64 level)]⟩,⟨[(0,.cells (cS d))],1,0,[],[]⟩,nw)) ⟨(_,_),hm⟩ ?_
       rintro⟨n10,s1_10⟩ hq10
       dsimp only at hq10
       rcases n10 with _|n10
       ·(unfold Fp at hq10;cases hq10)
       unfold Fp at hq10
       refine z ?_
       refine zd ?_ ?_<;>intro h11
       ·rw[HP h11] at hq10
        refine dg ae [0,1,0,4,15,31,63,0,128,0,896,1920,3968,8191] [] (z ?_)
        obtain⟨hg12,hq10⟩:=ah hq10
        refine z ?_
        obtain⟨j14,x14,en14,ex14,hq10⟩:=az hq10
        refine bP (bJ _) en14 ex14 rfl (z ?_)
        obtain⟨j15,x15,en15,ex15,hq10⟩:=az hq10
        refine bP (bJ _) en15 ex15 rfl (z ?_)
        refine zm ?_ ?_<;>intro h16
        ·rw[TP (nt h16)] at hq10
         cases hq10
         exact fc
        ·rw[HP h16] at hq10
         exact bk ⟨(n10,_),hq10⟩
       ·rw[TP h11] at hq10
        refine bd rfl rfl ?_
        refine lg (α:=Nat×Int) ae (fun(nw,s1)=>(Fq (ji n) level d.c.items d.c.members nw s1=some r,⟨97,[(6,.int .i64 s1),(4,.int .i64 0),(2,.ptr 0 0),(1,.int .i64 level)]⟩,⟨[(0,.cells (cS d))],1,0,[],[]⟩,nw)) ⟨(_,_),hq10⟩ ?_
        rintro⟨n17,s1_17⟩ hq17
        dsimp only at hq17
        rcases n17 with _|n17
        ·(unfold Fq at hq17;cases hq17)
        unfold Fq at hq17
        refine z ?_
        refine zd ?_ ?_<;>intro h18
        ·rw[HP h18] at hq17
         obtain⟨j19,x19,en19,ou,hq17⟩:=az hq17
         refine bP (eo _) en19 ou rfl (z ?_)
         obtain⟨hg20,hq17⟩:=ah hq17
         refine z ?_
         obtain⟨v22,e22,hq17⟩:=aa hq17
         refine ce (ih e22) (z ?_)
         refine zn ?_ ?_<;>intro h23
         ·rw[TP h23] at hq17
          cases hq17
          exact fc
         ·rw[HP h23] at hq17
          exact bk ⟨(n17,_),hq17⟩
        ·rw[TP h18] at hq17
         refine bd rfl rfl ?_
         refine lg (α:=Nat×Int) ae (fun(nw,s1)=>(Fo (ji n) level d.c.members nw s1=some r,⟨97,[(8,.int .i64 s1),(4,.int .i64 0),(2,.ptr 0 0),(1,.int .i64 level)]⟩,⟨[(0,.cells (cS d))],1,0,[],[]⟩,nw)) ⟨(_,_),hq17⟩ ?_
         rintro⟨n24,s1_24⟩ hq24
         dsimp only at hq24
         rcases n24 with _|n24
         ·(unfold Fo at hq24;cases hq24)
         unfold Fo at hq24
         refine z ?_
         refine zd ?_ ?_<;>intro h25
         ·rw[HP h25] at hq24
          obtain⟨j26,x26,en26,ex26,hq24⟩:=az hq24
          refine bP (bJ _) en26 ex26 rfl (z ?_)
          obtain⟨hg27,hq24⟩:=ah hq24
          refine z ?_
          obtain⟨v29,e29,hq24⟩:=aa hq24
          refine ce (ih e29) (z ?_)
          refine zn ?_ ?_<;>intro h30
          ·rw[TP h30] at hq24
           cases hq24
           exact fc
          ·rw[HP h30] at hq24
           exact bk ⟨(n24,_),hq24⟩
         ·rw[TP h25] at hq24
          cases hq24
          exact fc
     ·rw[HP h5] at hm
      unfold PY at hm
      refine z ?_
      obtain⟨hg31,hm⟩:=ah hm
      obtain⟨hg32,hm⟩:=ah hm
      have h33:¬((d.c.kind:Int)=3):=by omega
      refine BV h33 (z ?_)
      refine lg (α:=Nat×Int) ae (fun(nw,s1)=>(Fp (ji n) level d.c.items d.c.members nw s1=some r,⟨97,[(5,.int .i64 s1),(4,.int .i64 0),(2,.ptr 0 0),(1,.int .i64 level)]⟩,⟨[(0,.cells (cS d))],1,0,[],[]⟩,nw)) ⟨(_,_),hm⟩ ?_
      rintro⟨n34,s1_34⟩ hq34
      dsimp only at hq34
      rcases n34 with _|n34
      ·(unfold Fp at hq34;cases hq34)
      unfold Fp at hq34
      refine z ?_
      refine zd ?_ ?_<;>intro h35
      ·rw[HP h35] at hq34
       refine dg ae [0,1,0,4,15,31,63,0,128,0,896,1920,3968,8191] [] (z ?_)
       obtain⟨hg36,hq34⟩:=ah hq34
       refine z ?_
       obtain⟨j38,x38,en38,ex38,hq34⟩:=az hq34
       refine bP (bJ _) en38 ex38 rfl (z ?_)
       obtain⟨j39,x39,en39,ex39,hq34⟩:=az hq34
       refine bP (bJ _) en39 ex39 rfl (z ?_)
       refine zm ?_ ?_<;>intro h40
       ·rw[TP (nt h40)] at hq34
        cases hq34
        exact fc
       ·rw[HP h40] at hq34
        exact bk ⟨(n34,_),hq34⟩
      ·rw[TP h35] at hq34
       refine bd rfl rfl ?_
       refine lg (α:=Nat×Int) ae (fun(nw,s1)=>(Fq (ji n) level d.c.items d.c.members nw s1=some r,⟨97,[(6,.int .i64 s1),(4,.int .i64 0),(2,.ptr 0 0),(1,.int .i64 level)]⟩,⟨[(0,.cells (cS d))],1,0,[],[]⟩,nw)) ⟨(_,_),hq34⟩ ?_
       rintro⟨n41,s1_41⟩ hq41
       dsimp only at hq41
       rcases n41 with _|n41
       ·(unfold Fq at hq41;cases hq41)
       unfold Fq at hq41
       refine z ?_
       refine zd ?_ ?_<;>intro h42
       ·rw[HP h42] at hq41
        obtain⟨j43,x43,en43,ex43,hq41⟩:=az hq41
        refine bP (eo _) en43 ex43 rfl (z ?_)
        obtain⟨hg44,hq41⟩:=ah hq41
        refine z ?_
        obtain⟨v46,e46,hq41⟩:=aa hq41
        refine ce (ih e46) (z ?_)
        refine zn ?_ ?_<;>intro h47
        ·rw[TP h47] at hq41
         cases hq41
         exact fc
        ·rw[HP h47] at hq41
         exact bk ⟨(n41,_),hq41⟩
       ·rw[TP h42] at hq41
        refine bd rfl rfl ?_
        refine lg (α:=Nat×Int) ae (fun(nw,s1)=>(Fo (ji n) level d.c.members nw s1=some r,⟨97,[(8,.int .i64 s1),(4,.int .i64 0),(2,.ptr 0 0),(1,.int .i64 level)]⟩,⟨[(0,.cells (cS d))],1,0,[],[]⟩,nw)) ⟨(_,_),hq41⟩ ?_
        rintro⟨n48,s1_48⟩ hq48
        dsimp only at hq48
        rcases n48 with _|n48
        ·(unfold Fo at hq48;cases hq48)
        unfold Fo at hq48
        refine z ?_
        refine zd ?_ ?_<;>intro h49
        ·rw[HP h49] at hq48
         obtain⟨j50,x50,en50,ex50,hq48⟩:=az hq48
         refine bP (bJ _) en50 ex50 rfl (z ?_)
         obtain⟨hg51,hq48⟩:=ah hq48
         refine z ?_
         obtain⟨v53,e53,hq48⟩:=aa hq48
         refine ce (ih e53) (z ?_)
         refine zn ?_ ?_<;>intro h54
         ·rw[TP h54] at hq48
          cases hq48
          exact fc
         ·rw[HP h54] at hq48
          exact bk ⟨(n48,_),hq48⟩
        ·rw[TP h49] at hq48
         cases hq48
         exact fc
    ·rw[TP h4] at hm
     refine zd ?_ ?_<;>intro h55
     ·rw[HP h55] at hm
      obtain⟨v56,e56,hm⟩:=aa hm
      refine ce (Q8 e56) (z ?_)
      refine zm ?_ ?_<;>intro h57
      ·rw[TP (nt h57)] at hm
       cases hm
       exact fc
      ·rw[HP h57] at hm
       unfold PY at hm
       refine z ?_
       obtain⟨hg58,hm⟩:=ah hm
       obtain⟨hg59,hm⟩:=ah hm
       refine lg (α:=Nat×Int) ae (fun(nw,s1)=>(Fp (ji n) level d.c.items d.c.members nw s1=some r,⟨97,[(5,.int .i64 s1),(4,.int .i64 0),(2,.ptr 0 0),(1,.int .i64 level)]⟩,⟨[(0,.cells (cS d))],1,0,[],[]⟩,nw)) ⟨(_,_),hm⟩ ?_
       rintro⟨n60,s1_60⟩ hq60
       dsimp only at hq60
       rcases n60 with _|n60
       ·(unfold Fp at hq60;cases hq60)
       unfold Fp at hq60
       refine z ?_
       refine zd ?_ ?_<;>intro h61
       ·rw[HP h61] at hq60
        refine dg ae [0,1,0,4,15,31,63,0,128,0,896,1920,3968,8191] [] (z ?_)
        obtain⟨hg62,hq60⟩:=ah hq60
        refine z ?_
        obtain⟨j64,x64,en64,ex64,hq60⟩:=az hq60
        refine bP (bJ _) en64 ex64 rfl (z ?_)
        obtain⟨j65,x65,en65,ex65,hq60⟩:=az hq60
        refine bP (bJ _) en65 ex65 rfl (z ?_)
        refine zm ?_ ?_<;>intro h66
        ·rw[TP (nt h66)] at hq60
         cases hq60
         exact fc
        ·rw[HP h66] at hq60
         exact bk ⟨(n60,_),hq60⟩
       ·rw[TP h61] at hq60
        refine bd rfl rfl ?_
        refine lg (α:=Nat×Int) ae (fun(nw,s1)=>(Fq (ji n) level d.c.items d.c.members nw s1=some r,⟨97,[(6,.int .i64 s1),(4,.int .i64 0),(2,.ptr 0 0),(1,.int .i64 level)]⟩,⟨[(0,.cells (cS d))],1,0,[],[]⟩,nw)) ⟨(_,_),hq60⟩ ?_
        rintro⟨n67,s1_67⟩ hq67
        dsimp only at hq67
        rcases n67 with _|n67
        ·(unfold Fq at hq67;cases hq67)
        unfold Fq at hq67
        refine z ?_
        refine zd ?_ ?_<;>intro h68
        ·rw[HP h68] at hq67
         obtain⟨j69,x69,en69,ex69,hq67⟩:=az hq67
         refine bP (eo _) en69 ex69 rfl (z ?_)
         obtain⟨hg70,hq67⟩:=ah hq67
         refine z ?_
         obtain⟨v72,e72,hq67⟩:=aa hq67
         refine ce (ih e72) (z ?_)
         refine zn ?_ ?_<;>intro h73
         ·rw[TP h73] at hq67
          cases hq67
          exact fc
         ·rw[HP h73] at hq67
          exact bk ⟨(n67,_),hq67⟩
        ·rw[TP h68] at hq67
         refine bd rfl rfl ?_
         refine lg (α:=Nat×Int) ae (fun(nw,s1)=>(Fo (ji n) level d.c.members nw s1=some r,⟨97,[(8,.int .i64 s1),(4,.int .i64 0),(2,.ptr 0 0),(1,.int .i64 level)]⟩,⟨[(0,.cells (cS d))],1,0,[],[]⟩,nw)) ⟨(_,_),hq67⟩ ?_
         rintro⟨n74,s1_74⟩ hq74
         dsimp only at hq74
         rcases n74 with _|n74
         ·(unfold Fo at hq74;cases hq74)
         unfold Fo at hq74
         refine z ?_
         refine zd ?_ ?_<;>intro h75
         ·rw[HP h75] at hq74
          obtain⟨j76,x76,en76,ex76,hq74⟩:=az hq74
          refine bP (bJ _) en76 ex76 rfl (z ?_)
          obtain⟨hg77,hq74⟩:=ah hq74
          refine z ?_
          obtain⟨v79,e79,hq74⟩:=aa hq74
          refine ce (ih e79) (z ?_)
          refine zn ?_ ?_<;>intro h80
          ·rw[TP h80] at hq74
           cases hq74
           exact fc
          ·rw[HP h80] at hq74
           exact bk ⟨(n74,_),hq74⟩
         ·rw[TP h75] at hq74
          cases hq74
          exact fc
     ·rw[TP h55] at hm
      unfold PY at hm
      refine z ?_
      obtain⟨hg81,hm⟩:=ah hm
      obtain⟨hg82,hm⟩:=ah hm
      refine lg (α:=Nat×Int) ae (fun(nw,s1)=>(Fp (ji n) level d.c.items d.c.members nw s1=some r,⟨97,[(5,.int .i64 s1),(4,.int .i64 0),(2,.ptr 0 0),(1,.int .i64 level)]⟩,⟨[(0,.cells (cS d))],1,0,[],[]⟩,nw)) ⟨(_,_),hm⟩ ?_
      rintro⟨n83,s1_83⟩ hq83
      dsimp only at hq83
      rcases n83 with _|n83
      ·(unfold Fp at hq83;cases hq83)
      unfold Fp at hq83
      refine z ?_
      refine zd ?_ ?_<;>intro h84
      ·rw[HP h84] at hq83
       refine dg ae [0,1,0,4,15,31,63,0,128,0,896,1920,3968,8191] [] (z ?_)
       obtain⟨hg85,hq83⟩:=ah hq83
       refine z ?_
       obtain⟨j87,x87,en87,ex87,hq83⟩:=az hq83
       refine bP (bJ _) en87 ex87 rfl (z ?_)
       obtain⟨j88,x88,en88,ex88,hq83⟩:=az hq83
       refine bP (bJ _) en88 ex88 rfl (z ?_)
       refine zm ?_ ?_<;>intro h89
       ·rw[TP (nt h89)] at hq83
        cases hq83
        exact fc
       ·rw[HP h89] at hq83
        exact bk ⟨(n83,_),hq83⟩
      ·rw[TP h84] at hq83
       refine bd rfl rfl ?_
       refine lg (α:=Nat×Int) ae (fun(nw,s1)=>(Fq (ji n) level d.c.items d.c.members nw s1=some r,⟨97,[(6,.int .i64 s1),(4,.int .i64 0),(2,.ptr 0 0),(1,.int .i64 level)]⟩,⟨[(0,.cells (cS d))],1,0,[],[]⟩,nw)) ⟨(_,_),hq83⟩ ?_
       rintro⟨n90,s1_90⟩ hq90
       dsimp only at hq90
       rcases n90 with _|n90
       ·(unfold Fq at hq90;cases hq90)
       unfold Fq at hq90
       refine z ?_
       refine zd ?_ ?_<;>intro h91
       ·rw[HP h91] at hq90
        obtain⟨j92,x92,en92,ex92,hq90⟩:=az hq90
        refine bP (eo _) en92 ex92 rfl (z ?_)
        obtain⟨hg93,hq90⟩:=ah hq90
        refine z ?_
        obtain⟨v95,e95,hq90⟩:=aa hq90
        refine ce (ih e95) (z ?_)
        refine zn ?_ ?_<;>intro h96
        ·rw[TP h96] at hq90
         cases hq90
         exact fc
        ·rw[HP h96] at hq90
         exact bk ⟨(n90,_),hq90⟩
       ·rw[TP h91] at hq90
        refine bd rfl rfl ?_
        refine lg (α:=Nat×Int) ae (fun(nw,s1)=>(Fo (ji n) level d.c.members nw s1=some r,⟨97,[(8,.int .i64 s1),(4,.int .i64 0),(2,.ptr 0 0),(1,.int .i64 level)]⟩,⟨[(0,.cells (cS d))],1,0,[],[]⟩,nw)) ⟨(_,_),hq90⟩ ?_
        rintro⟨n97,s1_97⟩ hq97
        dsimp only at hq97
        rcases n97 with _|n97
        ·(unfold Fo at hq97;cases hq97)
        unfold Fo at hq97
        refine z ?_
        refine zd ?_ ?_<;>intro h98
        ·rw[HP h98] at hq97
         obtain⟨j99,x99,en99,ex99,hq97⟩:=az hq97
         refine bP (bJ _) en99 ex99 rfl (z ?_)
         obtain⟨hg100,hq97⟩:=ah hq97
         refine z ?_
         obtain⟨v102,e102,hq97⟩:=aa hq97
         refine ce (ih e102) (z ?_)
         refine zn ?_ ?_<;>intro h103
         ·rw[TP h103] at hq97
          cases hq97
          exact fc
         ·rw[HP h103] at hq97
          exact bk ⟨(n97,_),hq97⟩
        ·rw[TP h98] at hq97
         cases hq97
         exact fc
def M3 (d:bA):Option Int:=ji 18 d 1
theorem Q5 {d:bA} {r:Int} (hm:M3 d=some r):Has Tryz.prog 9 [.agg (cS d)] fun s=>s= .int .i64 r:=by
 refine hs ae Tryz.f9 ?_
 unfold M3 at hm
 refine z ?_
 replace hm:=aJ hm
 obtain⟨v1,e1,hm⟩:=aa hm
 refine ce (Q6 e1) (z ?_)
 cases hm
 exact fc
def isC (x:Va):Option Bool:=(o6 x true).bind fun l=>some (decide ((l.length:Int)=0))
theorem UN {x:Va} {r:Bool} (hm:isC x=some r):bp Tryz.prog 8 [.agg (ec x)] fun s=>s= .bool r:=by
 refine ht ae Tryz.f8 ?_
 unfold isC at hm
 refine z ?_
 obtain⟨v1,e1,hm⟩:=aa hm
 refine ct (rf e1) (z ?_)
 cases hm
 exact mst
def DZ (v:bt Va):Option Bool:=jN (.mk v zV)
theorem Og {v:bt Va} {r:Bool} (hm:DZ v=some r):bp Tryz.prog 21 [.agg (cg aN v)] fun s=>s= .bool r:=by
 refine ht ae Tryz.f21 ?_
 unfold DZ at hm
 refine z ?_
 replace hm:=aJ hm
 obtain⟨v1,e1,hm⟩:=aa hm
 refine ct (qV e1) (z ?_)
 cases hm
 exact mst
def pg (s:bM) (d:bA):Option Bool:=(Gj d).bind fun p=>if p.2=0 then fE p.1 s else some false
theorem RS {s:bM} {d:bA} {r:Bool} (hm:pg s d=some r):bp Tryz.prog 36 [.agg (cq s),.agg (cS d)] fun s=>s= .bool r:=by
 refine ht ae Tryz.f36 ?_
 unfold pg at hm
 refine z ?_
 obtain⟨v1,e1,hm⟩:=aa hm
 refine ct (Gi e1) (z ?_)
 refine zd ?_ ?_<;>intro h2
 rw[HP h2] at hm
 replace hm:=aJ hm
 obtain⟨v3,e3,hm⟩:=aa hm
 refine ct (oV e3) (z ?_)
 cases hm
 exact mst
 rw[TP h2] at hm
 cases hm
 exact mst
theorem UJ {fn:FuncId} {cap:List SVal} (hc:aB cap=true) (hw:cH cap=cap) {g:Mem bA->Option Bool} (hg:∀{x r},g x=some r->Has Tryz.prog fn (.agg (JP x)::cap) fun s=>s= .bool r) {l:List (Mem bA)} {r:Int} (hm:qn g l=some r):Has Tryz.prog 91 [.aK false (l.map (jV dP)),.func (.func fn) [] cap] fun s=>s= .int .i64 r:=by
 refine hs ae Tryz.f91 ?_
 unfold qn at hm
 refine z ?_
 obtain⟨hg1,hm⟩:=ah hm
 refine lg (α:=Nat) ae (fun iw=>(fA g (List.drop iw l) (iw:Int)=some r,⟨19,[(8,.int .i64 iw),(7,.int .i64 ↑l.length),(4,.int .i64 0),(0,.aK false (List.map (jV dP) l)),(1,.func (.func fn) [] cap)]⟩,⟨[],0,0,[],[]⟩,List.length l-iw)) ⟨(0),hm⟩ ?_
 intro i2 hq2
 dsimp only at hq2
 refine z ?_
 refine zd ?_ ?_<;>intro h3
 obtain⟨x3,ex3,ed3⟩:=av h3
 rw[ed3,fA] at hq2
 refine z ?_
 refine bF (bJ _) ex3 rfl (z ?_)
 obtain⟨v4,e4,hq2⟩:=aa hq2
 refine kO (hg e4) (by(simp only[cH,kh,hw];try rfl)) (z ?_)
 refine zr ?_ ?_<;>intro h5
 rw[HP h5] at hq2
 cases hq2
 exact fc
 rw[TP (nt h5)] at hq2
 exact bk ⟨i2+1,hq2⟩
 rw[aA h3,fA] at hq2
 cases hq2
 exact fc
theorem Vb {fn:FuncId} {cap:List SVal} (hc:aB cap=true) (hw:cH cap=cap) {g:Mem bA->Option Bool} (hg:∀{x r},g x=some r->Has Tryz.prog fn (.agg (JP x)::cap) fun s=>s= .bool r) {l:List (Mem bA)} {r:Bool} (hm:mP g l=some r):Has Tryz.prog 68 [.aK false (l.map (jV dP)),.func (.func fn) [] cap] fun s=>s= .bool r:=by
 refine hs ae Tryz.f68 ?_
 unfold mP at hm
 refine z ?_
 obtain⟨v1,e1,hm⟩:=aa hm
 refine ce (UJ hc hw hg e1) (z ?_)
 cases hm
 exact fc
def perm (c:aV Va) (d:dt bA):Option Bool:=(aR d.items).bind fun _=>(aR c.items).bind fun _=>if(d.items.length:Int)=c.items.length then some true else if(d.items.length:Int)>c.items.length then some (decide ((c.rest.length:Int)>0)) else some false
theorem Ra {c:aV Va} {d:bA} {r:Bool} (hm:perm c d.c=some r):Has Tryz.prog 39 [.agg (aS aN c),.agg (cS d)] fun s=>s= .bool r:=by
 refine hs ae Tryz.f39 ?_
 unfold perm at hm
 refine z ?_
 obtain⟨hg1,hm⟩:=ah hm
 obtain⟨hg2,hm⟩:=ah hm
 refine zd ?_ ?_<;>intro h3
 rw[HP h3] at hm
 cases hm
 exact fc
 rw[TP h3] at hm
 refine zd ?_ ?_<;>intro h4
 rw[HP h4] at hm
 cases hm
 exact fc
 rw[TP h4] at hm
 cases hm
 exact fc
abbrev PS (rec:bt Va->bA->Option Bool):Prop:=∀{v d r},rec v d=some r->bp Tryz.prog 23 [.agg (cg aN v),.agg (cS d)] fun s=>s= .bool r
def Tz (rec:bt Va->bA->Option Bool) (c:aV Va):List bA->Int->List Int->Option (List Int)
 |[],_,out=>some out
 |x::r,i,out=>(item c i).bind fun p=>(rec p.1.v x).bind fun h=>if h then Tz rec c r (i+1) out else(push out i).bind fun out=>Tz rec c r (i+1) out
def itM (rec:bt Va->bA->Option Bool) (c:aV Va) (d:dt bA):Option (List Int):=(aR d.items).bind fun _=>Tz rec c d.items 0 []
theorem UM {rec:bt Va->bA->Option Bool} (h:PS rec) {c:aV Va} {d:bA} {r:List Int} (hm:itM rec c d.c=some r):bp Tryz.prog 40 [.agg (aS aN c),.agg (cS d)] fun s=>s= .aK false (r.map bQ):=by
 refine ht ae Tryz.f40 ?_
 unfold itM at hm
 refine z ?_
 obtain⟨hg1,hm⟩:=ah hm
 refine cr 5 1 rfl ?_
 refine lg (α:=Nat×List Int×Nat) ae (fun(iw,s1,ts1)=>(Tz rec c (List.drop iw d.c.items) (iw:Int) s1=some r,⟨35,[(5,.own 3 ts1),(13,.int .i64 iw),(12,.int .i64 ↑d.c.items.length),(11,.aK false (List.map dP d.c.items)),(4,.aD),(2,.ptr 1 0)]⟩,⟨[(3,.row 1 (s1.map bQ) ts1 false),(2,.cells (cS d)),(1,.cells (aS aN c)),(0,ba)],4,0,[],[]⟩,List.length d.c.items-iw)) ⟨(0,_,(0)),hm⟩ ?_
 rintro⟨i2,s1_2,ts1_2⟩ hq2
 dsimp only at hq2
 refine z ?_
 refine zd ?_ ?_<;>intro h3
 obtain⟨x3,ex3,ed3⟩:=av h3
 rw[ed3,Tz] at hq2
 refine z ?_
 refine bF (eo _) ex3 rfl (z ?_)
 obtain⟨v4,e4,hq2⟩:=aa hq2
 refine ce (A9 e4) (z ?_)
 obtain⟨v5,e5,hq2⟩:=aa hq2
 refine ct (h e5) (z ?_)
 refine zm ?_ ?_<;>intro h6
 rw[TP (nt h6)] at hq2
 obtain⟨hg7,hq2⟩:=aC hq2
 refine z ?_
 refine aM (↑i2) rfl (z ?_)
 exact bk ⟨(i2+1,_,(ts1_2+1)),hq2⟩
 rw[HP h6] at hq2
 exact bk ⟨(i2+1,_,ts1_2),hq2⟩
 rw[aA h3,Tz] at hq2
 cases hq2
 refine a8 (z ?_)
 exact mt
theorem Ux {m:Mem bA} {f:dy Va} {r:Bool} (hm:some (decide (m.label=f.label))=some r):Has Tryz.prog 69 [.agg (JP m),.bR (lQ f) 0] fun s=>s= .bool r:=by
 refine hs ae Tryz.f69 (z ?_)
 cases hm
 exact fc
def PZ (ms:List (Mem bA)):List (dy Va)->List (List UInt8)->Option (List (List UInt8))
 |[],out=>some out
 |f::r,out=>(mP (fun m=>some (decide (m.label=f.label))) ms).bind fun c=>if c then PZ ms r out else(push out f.label).bind fun out=>PZ ms r out
def miM (c:aF Va) (d:dt bA):Option (List (List UInt8)):=(aR c.fields).bind fun _=>PZ d.members c.fields []
theorem Uw {c:aF Va} {d:bA} {r:List (List UInt8)} (hm:miM c d.c=some r):Has Tryz.prog 43 [.agg (aG aN c),.agg (cS d)] fun s=>s= .aK false (r.map lB):=by
 refine hs ae Tryz.f43 ?_
 unfold miM at hm
 refine z ?_
 obtain⟨hg1,hm⟩:=ah hm
 refine cr 5 1 rfl ?_
 refine lg (α:=Nat×List (List UInt8)×Nat) ae (fun(iw,s1,ts1)=>(PZ d.c.members (List.drop iw c.fields) s1=some r,⟨27,[(5,.own 2 ts1),(11,.int .i64 iw),(10,.int .i64 ↑c.fields.length),(9,.aK false (List.map (cZ aN) c.fields)),(4,.aD),(3,.ptr 1 0)]⟩,⟨[(2,.row 1 (s1.map lB) ts1 false),(1,.cells (cS d)),(0,.cells (aG aN c))],3,0,[],[]⟩,List.length c.fields-iw)) ⟨(0,_,(0)),hm⟩ ?_
 rintro⟨i2,s1_2,ts1_2⟩ hq2
 dsimp only at hq2
 refine z ?_
 refine zd ?_ ?_<;>intro h3
 obtain⟨x3,ex3,ed3⟩:=av h3
 rw[ed3,PZ] at hq2
 refine z ?_
 refine bF (cP _) ex3 rfl (z ?_)
 obtain⟨v4,e4,hq2⟩:=aa hq2
 refine b6 (Vb (by simp only[aB,closed,aL,cN,bN,cj,eM,cl,dF,V3]) rfl Ux e4) rfl (z ?_)
 refine zm ?_ ?_<;>intro h5
 rw[TP (nt h5)] at hq2
 obtain⟨hg6,hq2⟩:=aC hq2
 refine z ?_
 refine aM x3.label rfl (z ?_)
 exact bk ⟨(i2+1,_,(ts1_2+1)),hq2⟩
 rw[HP h5] at hq2
 exact bk ⟨(i2+1,_,ts1_2),hq2⟩
 rw[aA h3,PZ] at hq2
 cases hq2
 refine dH (z ?_)
 first|exact e2|exact rfl
def U1 (rec:bt Va->bA->Option Bool) (c:aF Va):List (Mem bA)->Option Bool
 |[]=>some true
 |m::r=>(view c m.label).bind fun p=>(rec p.1.v m.data).bind fun h=>if h then U1 rec c r else some false
def fiM (rec:bt Va->bA->Option Bool) (c:aF Va) (d:dt bA):Option Bool:=(aR d.members).bind fun _=>U1 rec c d.members
theorem U0 {rec:bt Va->bA->Option Bool} (h:PS rec) {c:aF Va} {d:bA} {r:Bool} (hm:fiM rec c d.c=some r):bp Tryz.prog 44 [.agg (aG aN c),.agg (cS d)] fun s=>s= .bool r:=by
 refine ht ae Tryz.f44 ?_
 unfold fiM at hm
 refine z ?_
 obtain⟨hg1,hm⟩:=ah hm
 refine lg (α:=Nat) ae (fun iw=>(U1 rec c (List.drop iw d.c.members)=some r,⟨30,[(12,.int .i64 iw),(11,.int .i64 ↑d.c.members.length),(10,.aK false (List.map (jV dP) d.c.members)),(4,.bool false),(2,.ptr 1 0)]⟩,⟨[(2,.cells (cS d)),(1,.cells (aG aN c)),(0,ba)],3,0,[],[]⟩,List.length d.c.members-iw)) ⟨(0),hm⟩ ?_
 intro i2 hq2
 dsimp only at hq2
 refine z ?_
 refine zd ?_ ?_<;>intro h3
 obtain⟨x3,ex3,ed3⟩:=av h3
 rw[ed3,U1] at hq2
 refine z ?_
 refine bF (bJ _) ex3 rfl (z ?_)
 obtain⟨v4,e4,hq2⟩:=aa hq2
 refine ce (pN e4) (z ?_)
 obtain⟨v5,e5,hq2⟩:=aa hq2
 refine ct (h e5) (z ?_)
 refine zm ?_ ?_<;>intro h6
 rw[TP (nt h6)] at hq2
 cases hq2
 exact mst
 rw[HP h6] at hq2
 exact bk ⟨i2+1,hq2⟩
 rw[aA h3,U1] at hq2
 cases hq2
 exact mst
def KQ (rec:bt Va->bA->Option Bool) (d:bA) (c:aV Va):Option Bool:=(perm c d.c).bind fun p=>if p then(itM rec c d.c).bind fun l=>some (decide ((l.length:Int)=0)) else some false
theorem UR {rec:bt Va->bA->Option Bool} (h:PS rec) {d:bA} {c:aV Va} {r:Bool} (hm:KQ rec d c=some r):bp Tryz.prog 38 [.agg (aS aN c),.bR (cS d) 0] fun s=>s= .bool r:=by
 refine ht ae Tryz.f38 ?_
 unfold KQ at hm
 refine z ?_
 obtain⟨v1,e1,hm⟩:=aa hm
 refine ce (Ra e1) (z ?_)
 refine zr ?_ ?_<;>intro h2
 rw[HP h2] at hm
 obtain⟨v3,e3,hm⟩:=aa hm
 refine ct (UM h e3) (z ?_)
 cases hm
 exact mst
 rw[TP (nt h2)] at hm
 cases hm
 exact mst
def UQ (rec:bt Va->bA->Option Bool) (d:bA) (c:aF Va):Option Bool:=(miM c d.c).bind fun l=>(aR l).bind fun _=>if(l.length:Int)=0 then fiM rec c d.c else some false
theorem UP {rec:bt Va->bA->Option Bool} (h:PS rec) {d:bA} {c:aF Va} {r:Bool} (hm:UQ rec d c=some r):bp Tryz.prog 42 [.agg (aG aN c),.bR (cS d) 0] fun s=>s= .bool r:=by
 refine ht ae Tryz.f42 ?_
 unfold UQ at hm
 refine z ?_
 obtain⟨v1,e1,hm⟩:=aa hm
 refine ce (Uw e1) (z ?_)
 obtain⟨hg2,hm⟩:=ah hm
 refine zd ?_ ?_<;>intro h3
 rw[HP h3] at hm
 replace hm:=aJ hm
 obtain⟨v4,e4,hm⟩:=aa hm
 refine ct (U0 h e4) (z ?_)
 cases hm
 exact mst
 rw[TP h3] at hm
 cases hm
 exact mst
def iB:Nat->bt Va->bA->Option Bool
 |0,_,_=>none
 |n+1,v,d=>if v.any then some true else(pg v.sc d).bind fun h=>if h then some true else if d.c.kind=5 then mP (KQ (iB n) d) v.lists else if d.c.kind=6 then mP (UQ (iB n) d) v.structs else some false
theorem RU:∀{n:Nat},PS (iB n):=by
 intro n
 induction n with
 |zero=>intro v d r hm;cases hm
 |succ n ih=>
  intro v d r hm
  refine ht ae Tryz.f23 ?_
  unfold iB at hm
  refine z ?_
  refine zr ?_ ?_<;>intro h1
  ·rw[HP h1] at hm
   cases hm
   exact mst
  ·rw[TP (nt h1)] at hm
   obtain⟨v2,e2,hm⟩:=aa hm
   refine ct (RS e2) (z ?_)
   refine zr ?_ ?_<;>intro h3
   ·rw[HP h3] at hm
    cases hm
    exact mst
   ·rw[TP (nt h3)] at hm
    refine zd ?_ ?_<;>intro h4
    ·rw[HP h4] at hm
     replace hm:=aJ hm
     obtain⟨v5,e5,hm⟩:=aa hm
     refine bI (OK (by simp only[aB,closed,aL,cN,bN,cj,eM,cl,dF,V3]) rfl (UR ih) e5) (z ?_)
     cases hm
     exact mst
    ·rw[TP h4] at hm
     refine zd ?_ ?_<;>intro h6
     ·rw[HP h6] at hm
      replace hm:=aJ hm
      obtain⟨v7,e7,hm⟩:=aa hm
      refine bI (OJ (by simp only[aB,closed,aL,cN,bN,cj,eM,cl,dF,V3]) rfl (UP ih) e7) (z ?_)
      cases hm
      exact mst
     ·rw[TP h6] at hm
      cases hm
      exact mst
def KT (v:bt Va) (d:bA):Option Bool:=(DZ v).bind fun g=>if g then(mR d).bind fun e=>if e=0 then iB 20 v d else some false else some false
theorem RV {v:bt Va} {d:bA} {r:Bool} (hm:KT v d=some r):bp Tryz.prog 10 [.agg (cg aN v),.agg (cS d)] fun s=>s= .bool r:=by
 refine ht ae Tryz.f10 ?_
 unfold KT at hm
 refine z ?_
 obtain⟨v1,e1,hm⟩:=aa hm
 refine ct (Og e1) (z ?_)
 refine zr ?_ ?_<;>intro h2
 rw[HP h2] at hm
 obtain⟨v3,e3,hm⟩:=aa hm
 refine ce (BD e3) (z ?_)
 refine zd ?_ ?_<;>intro h4
 rw[HP h4] at hm
 replace hm:=aJ hm
 obtain⟨v5,e5,hm⟩:=aa hm
 refine ct (RU e5) (z ?_)
 cases hm
 exact mst
 rw[TP h4] at hm
 cases hm
 exact mst
 rw[TP (nt h2)] at hm
 cases hm
 exact mst
def KN (v:Va):Option Bool:=(qZ v).bind fun s=>if s then(sK v true).bind fun p=>(o6 v true).bind fun l=>if p.2=0 then
  (aR l).bind fun _=>if(l.length:Int)=0 then(M3 p.1).bind fun e=>if e=0 then(KT v.v p.1).bind fun h=>if h then ou else some false else some false else some false
 else(aR l).bind fun _=>if(l.length:Int)>0 then(cJ l 0).bind fun q=>if q.kG=p.2 then(isC v).bind fun b=>if b then some false else if p.1.c.kind=0 then ou else some false else some false else some false
 else ou
theorem RK {v:Va} {r:Bool} (hm:KN v=some r):bp Tryz.prog 3 [.agg (ec v)] fun s=>s= .bool r:=by
 refine ht ae Tryz.f3 ?_
 unfold KN at hm
 refine z ?_
 obtain⟨v1,e1,hm⟩:=aa hm
 refine ce (JZ e1) (z ?_)
 refine zm ?_ ?_<;>intro h2
 rw[TP (nt h2)] at hm
 replace hm:=aJ hm
 obtain⟨v3,e3,hm⟩:=aa hm
 refine ct (Bh e3) (z ?_)
 cases hm
 exact mst
 rw[HP h2] at hm
 obtain⟨v4,e4,hm⟩:=aa hm
 refine ct (Em e4) (z ?_)
 obtain⟨v5,e5,hm⟩:=aa hm
 refine ct (rf e5) (z ?_)
 refine zn ?_ ?_<;>intro h6
 rw[TP h6] at hm
 obtain⟨hg7,hm⟩:=ah hm
 refine zd ?_ ?_<;>intro h8
 rw[HP h8] at hm
 obtain⟨j9,x9,en9,ex9,hm⟩:=az hm
 refine bD en9 ex9 rfl (z ?_)
 refine zd ?_ ?_<;>intro h10
 rw[HP h10] at hm
 obtain⟨v11,e11,hm⟩:=aa hm
 refine ct (UN e11) (z ?_)
 refine zm ?_ ?_<;>intro h12
 rw[TP (nt h12)] at hm
 refine zd ?_ ?_<;>intro h13
 rw[HP h13] at hm
 replace hm:=aJ hm
 obtain⟨v14,e14,hm⟩:=aa hm
 refine ct (Bh e14) (z ?_)
 cases hm
 exact mst
 rw[TP h13] at hm
 cases hm
 exact mst
 rw[HP h12] at hm
 cases hm
 exact mst
 rw[TP h10] at hm
 cases hm
 exact mst
 rw[TP h8] at hm
 cases hm
 exact mst
 rw[HP h6] at hm
 obtain⟨hg15,hm⟩:=ah hm
 refine zd ?_ ?_<;>intro h16
 rw[HP h16] at hm
 obtain⟨v17,e17,hm⟩:=aa hm
 refine ce (Q5 e17) (z ?_)
 refine zd ?_ ?_<;>intro h18
 rw[HP h18] at hm
 obtain⟨v19,e19,hm⟩:=aa hm
 refine ct (RV e19) (z ?_)
 refine zr ?_ ?_<;>intro h20
 rw[HP h20] at hm
 replace hm:=aJ hm
 obtain⟨v21,e21,hm⟩:=aa hm
 refine ct (Bh e21) (z ?_)
 cases hm
 exact mst
 rw[TP (nt h20)] at hm
 cases hm
 exact mst
 rw[TP h18] at hm
 cases hm
 exact mst
 rw[TP h16] at hm
 cases hm
 exact mst
end Go.Proofs.YtcejopopgcglpaaGreatDoor
