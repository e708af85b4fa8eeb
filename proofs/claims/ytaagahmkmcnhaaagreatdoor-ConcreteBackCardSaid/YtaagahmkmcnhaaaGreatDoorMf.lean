/- For ConcreteOnly and ConcreteBack: functions of the program, walked beside Lean functions that say what they compute. -/
import Derived.Test.YtaagahmkmcnhaaaGreatDoorMe
set_option linter.unusedVariables false
set_option linter.unusedSimpArgs false
set_option linter.unusedSectionVars false
namespace Go.Proofs.YtaagahmkmcnhaaaGreatDoor
open Sv
set_option maxRecDepth 100000
set_option maxHeartbeats 2000000
structure pz where
 label:List UInt8
 index:Int
structure er where
 path:List pz
 CF:Int
def kd (s:pz):List SVal:=[.str s.label,.int .i64 s.index]
instance :Cl kd:=⟨fun _=>rfl⟩
def iM (p:er):List SVal:=[.aE false (p.path.map kd),.int .i64 p.CF]
instance :Cl iM:=⟨fun p=>by simp only[iM,aw,closed,eC kd,Tq]⟩
def Dr (ps:List er) (path:List pz) (e:Int):Option (List er):=(push ps ⟨path,e⟩).bind fun ps=>some ps
theorem cL {ps r:List er} {path:List pz} {e:Int} {hid:Bool} (hm:Dr ps path e=some r):sA Tryz.prog 42 2 [.bool hid] (ps.map iM) [.ptr 1 0,.aE false (path.map kd),.int .i64 e] fun s r'=>s= .dT []/\r'=r.map iM:=by
 refine nF ae (fn:=Tryz.f42) rfl rfl (eC _ _) (by simp only[nb,cY,c7,cE,Tq];rfl) (fun t=> ?_)
 unfold Dr at hm
 refine z ?_
 obtain⟨hg1,hm⟩:=ay hm
 refine z ?_
 refine aH ({path:=path,CF:=e}) rfl (z ?_)
 cases hm
 exact msl
abbrev qE:=Va->List pz->List er->Option (aO×List er)
abbrev S2 (hid:Bool) (rec:qE):Prop:=∀{x path ps r},rec x path ps=some r->sA Tryz.prog 43 2 [.bool hid] (ps.map iM) [.ptr 1 0,.agg (eo x),.aE false (path.map kd)] fun s r'=>s= .agg (cw r.1)/\r'=r.2.map iM
def sB (rec:qE) (path:List pz):List Va->Int->List er->List aO->Option (aO×List er)
 |[],_,ps,out=>some (.mk ⟨5,0,[],out,[]⟩,ps)
 |x::r,i,ps,out=>(aN path).bind fun _=>(push path ⟨[],i⟩).bind fun p=>(rec x p ps).bind fun q=>(push out q.1).bind fun out=>sB rec path r (i+1) q.2 out
def A7 (rec:qE) (c:bg Va) (path:List pz) (ps:List er):Option (aO×List er):=(aN c.rest).bind fun _=>if(c.rest.length:Int)>0 then(Dr ps path 14).bind fun ps=>some (.mk ⟨5,0,[],[],[]⟩,ps)
 else(aN c.items).bind fun _=>sB rec path c.items 0 ps []
theorem A6 {hid:Bool} {rec:qE} (h:S2 hid rec) {c:bg Va} {path:List pz} {ps:List er} {r:aO×List er} (hm:A7 rec c path ps=some r):sA Tryz.prog 71 2 [.bool hid] (ps.map iM) [.ptr 1 0,.agg (aQ aL c),.aE false (path.map kd)] fun s r'=>s= .agg (cw r.1)/\r'=r.2.map iM:=by
 refine nF ae (fn:=Tryz.f71) rfl rfl (eC _ _) (by simp only[nb,cY,c7,cE,Tq];rfl) (fun t=> ?_)
 unfold A7 at hm
 rcases path with _|⟨p0,path⟩
 refine z ?_
 obtain⟨hg1,hm⟩:=ah hm
 refine zd ?_ ?_<;>intro h2
 rw[Th h2] at hm
 obtain⟨v3,e3,hm⟩:=aa hm
 refine bp 1 2 t (cL e3) rfl rfl rfl rfl rfl (fun t3=> ?_)
 refine z ?_
 cases hm
 refine aV (z ?_)
 exact ml
 rw[Ti h2] at hm
 obtain⟨hg4,hm⟩:=ah hm
 refine bJ 5 3 5 rfl rfl ?_
 refine lg (α:=Nat×List er×List aO×Nat×Nat) ae (fun(iw,s1,s2,ts1,ts2)=>(sB rec ([]) (List.drop iw c.items) (iw:Int) s1 s2=some r,⟨45,[(24,.int .i64 iw),(23,.int .i64 ↑c.items.length),(22,.aE false (List.map aL c.items)),(7,.ptr 5 0),(6,.ptr 4 0),(0,.ptr 1 0),(2,.aE false (List.map kd []))]⟩,⟨[(6,.row 5 (s2.map de) ts2 false),(5,.cells [.int .i64 5,.int .i64 0,.str #[].toList,.own 6 ts2,.ax]),(4,.cells [.int .i64 0,.int .i64 0,.str #[].toList,.ax,.ax]),(3,.cells (aQ aL c)),(0,aX),(1,.cells [.own 2 ts1,.bool hid]),(2,.row 2 (s1.map iM) ts1 false)],7,0,[],[]⟩,List.length c.items-iw)) ⟨(0,_,_,t,(0)),hm⟩ ?_
 rintro⟨i5,s1_5,s2_5,ts1_5,ts2_5⟩ hq5
 dsimp only at hq5
 refine z ?_
 refine zd ?_ ?_<;>intro h6
 obtain⟨x6,ex6,ed6⟩:=an h6
 rw[ed6,sB] at hq5
 refine z ?_
 obtain⟨hg7,hq5⟩:=ah hq5
 refine bC (cP _) ex6 rfl (z ?_)
 refine dg ae [0,1,0,0,0,16,0,64,192,496,1020,2044,4095,8191,16383] [⟨14,0,0,[5]⟩,⟨12,0,0,[6]⟩,⟨10,0,0,[2,1,9]⟩] (z ?_)
 refine ce oz (z ?_)
 obtain⟨hg11,hq5⟩:=ay hq5
 refine z ?_
 refine Az kd ({label:=[],index:=↑i5}) rfl (z ?_)
 obtain⟨v12,e12,hq5⟩:=aa hq5
 refine dv 1 2 ts1_5 (h e12) (by simp only[aw,closed,aG,eC,cl,dx,Tq]) rfl (z ?_)
 intro t12
 refine z ?_
 obtain⟨hg13,hq5⟩:=ay hq5
 refine z ?_
 refine aH v12.fst (cK _) (z ?_)
 exact bk ⟨(i5+1,_,_,t12,(ts2_5+1)),hq5⟩
 rw[aq h6,sB] at hq5
 cases hq5
 refine aV (z ?_)
 exact ml
 refine z ?_
 obtain⟨hg1,hm⟩:=ah hm
 refine zd ?_ ?_<;>intro h2
 rw[Th h2] at hm
 obtain⟨v3,e3,hm⟩:=aa hm
 refine bp 1 2 t (cL e3) (by simp only[cx,bR,bQ];rfl) rfl rfl rfl rfl (fun t3=> ?_)
 refine z ?_
 cases hm
 refine aV (z ?_)
 exact ml
 rw[Ti h2] at hm
 obtain⟨hg4,hm⟩:=ah hm
 refine bJ 5 3 5 rfl rfl ?_
 refine lg (α:=Nat×List er×List aO×Nat×Nat) ae (fun(iw,s1,s2,ts1,ts2)=>(sB rec (p0::path) (List.drop iw c.items) (iw:Int) s1 s2=some r,⟨45,[(24,.int .i64 iw),(23,.int .i64 ↑c.items.length),(22,.aE false (List.map aL c.items)),(7,.ptr 5 0),(6,.ptr 4 0),(0,.ptr 1 0),(2,.aE false (List.map kd (p0::path)))]⟩,⟨[(6,.row 5 (s2.map de) ts2 false),(5,.cells [.int .i64 5,.int .i64 0,.str #[].toList,.own 6 ts2,.ax]),(4,.cells [.int .i64 0,.int .i64 0,.str #[].toList,.ax,.ax]),(3,.cells (aQ aL c)),(0,aX),(1,.cells [.own 2 ts1,.bool hid]),(2,.row 2 (s1.map iM) ts1 false)],7,0,[],[]⟩,List.length c.items-iw)) ⟨(0,_,_,t,(0)),hm⟩ ?_
 rintro⟨i5,s1_5,s2_5,ts1_5,ts2_5⟩ hq5
 dsimp only at hq5
 refine z ?_
 refine zd ?_ ?_<;>intro h6
 obtain⟨x6,ex6,ed6⟩:=an h6
 rw[ed6,sB] at hq5
 refine z ?_
 obtain⟨hg7,hq5⟩:=ah hq5
 refine bC (cP _) ex6 rfl (z ?_)
 refine dg ae [0,1,0,0,0,16,0,64,192,496,1020,2044,4095,8191,16383] [⟨14,0,0,[5]⟩,⟨12,0,0,[6]⟩,⟨10,0,0,[2,1,8]⟩,⟨9,0,0,[8]⟩] (z ?_)
 refine cd ae Tryz.f102 (z ?_)
 refine Ay (z ?_)
 refine ed (z ?_)
 obtain⟨hg12,hq5⟩:=ay hq5
 refine z ?_
 refine aH ({label:=[],index:=↑i5}) rfl (z ?_)
 obtain⟨v14,e14,hq5⟩:=aa hq5
 refine dv 1 2 ts1_5 (h e14) (by simp only[aw,closed,aG,eC,cl,dx,Tq]) rfl (z ?_)
 intro t14
 refine z ?_
 obtain⟨hg15,hq5⟩:=ay hq5
 refine z ?_
 refine aH v14.fst (cK _) (z ?_)
 exact bk ⟨(i5+1,_,_,t14,(ts2_5+1)),hq5⟩
 rw[aq h6,sB] at hq5
 cases hq5
 refine aV (z ?_)
 exact ml
def xV (hid:Bool) (w:List UInt8):Option Bool:=if hid then some false else if w=[] then some false else(cN w 0).bind fun b=>if(b.toNat:Int)=95 then some true else if(b.toNat:Int)=35 then some true else some false
def Qp (hid:Bool) (rec:qE) (path p:List pz) (f:dO Va) (ps:List er) (out:List (Mem aO)):Option (List er×List (Mem aO)):=
 (xV hid f.label).bind fun l=>if l then some (ps,out) else if f.label=[] then if f.fj=1 then
   (rec f.val [] []).bind fun q=>(push out ⟨[],q.1⟩).bind fun out=>(aN q.2).bind fun _=>if(q.2.length:Int)>0 then(cN q.2 0).bind fun e=>(Dr ps path e.CF).bind fun ps=>some (ps,out) else some (ps,out)
  else if f.fj=2 then(Dr ps p 13).bind fun ps=>some (ps,out) else(rec f.val p ps).bind fun q=>(push out ⟨f.label,q.1⟩).bind fun out=>some (q.2,out)
 else if f.fj=2 then(Dr ps p 13).bind fun ps=>some (ps,out) else(rec f.val p ps).bind fun q=>(push out ⟨f.label,q.1⟩).bind fun out=>some (q.2,out)
def FF (hid:Bool) (rec:qE) (path:List pz):List (dO Va)->List er->List (Mem aO)->Option (aO×List er)
 |[],ps,out=>some (.mk ⟨6,0,[],[],out⟩,ps)
 |f::r,ps,out=>(aN path).bind fun _=>(push path ⟨f.label,0⟩).bind fun p=>if f.label=[] then(Qp hid rec path path f ps out).bind fun q=>FF hid rec path r q.1 q.2 else(Qp hid rec path p f ps out).bind fun q=>FF hid rec path r q.1 q.2
def A5 (hid:Bool) (rec:qE) (c:aM Va) (path:List pz) (ps:List er):Option (aO×List er):=(aN c.fields).bind fun _=>FF hid rec path c.fields ps []
theorem A4 {hid:Bool} {rec:qE} (h:S2 hid rec) {c:aM Va} {path:List pz} {ps:List er} {r:aO×List er} (hm:A5 hid rec c path ps=some r):sA Tryz.prog 72 2 [.bool hid] (ps.map iM) [.ptr 1 0,.agg (aC aL c),.aE false (path.map kd)] fun s r'=>s= .agg (cw r.1)/\r'=r.2.map iM:=by
 refine nF ae (fn:=Tryz.f72) rfl rfl (eC _ _) (by simp only[nb,cY,c7,cE,Tq];rfl) (fun t=> ?_)
 unfold A5 at hm
 rcases path with _|⟨p0,path⟩
 refine z ?_
 obtain⟨hg1,hm⟩:=ah hm
 refine bJ 5 4 6 rfl rfl ?_
 refine lg (α:=Nat×List er×List (Mem aO)×Nat×Nat) ae (fun(iw,s1,s2,ts1,ts2)=>(FF hid rec ([]) (List.drop iw c.fields) s1 s2=some r,⟨105,[(16,.int .i64 iw),(15,.int .i64 ↑c.fields.length),(14,.aE false (List.map (di aL) c.fields)),(7,.ptr 5 0),(6,.ptr 4 0),(0,.ptr 1 0),(2,.aE false (List.map kd []))]⟩,⟨[(6,.row 6 (s2.map (jF de)) ts2 false),(5,.cells [.int .i64 6,.int .i64 0,.str #[].toList,.ax,.own 6 ts2]),(4,.cells [.int .i64 0,.int .i64 0,.str #[].toList,.ax,.ax]),(3,.cells (aC aL c)),(0,aX),(1,.cells [.own 2 ts1,.bool hid]),(2,.row 2 (s1.map iM) ts1 false)],7,0,[],[]⟩,List.length c.fields-iw)) ⟨(0,_,_,t,(0)),hm⟩ ?_
 rintro⟨i2,s1_2,s2_2,ts1_2,ts2_2⟩ hq2
 dsimp only at hq2
 refine z ?_
 refine zd ?_ ?_<;>intro h3
 obtain⟨x3,ex3,ed3⟩:=an h3
 rw[ed3,FF] at hq2
 refine z ?_
 obtain⟨hg4,hq2⟩:=ah hq2
 refine bC (cW _) ex3 rfl (z ?_)
 refine dg ae [0,1,0,4,12,28,63,127] [] (z ?_)
 refine ce oz (z ?_)
 obtain⟨hg5,hq2⟩:=ay hq2
 refine z ?_
 refine Az kd ({label:=x3.label,index:=0}) rfl (z ?_)
 refine zd ?_ ?_<;>intro h6
 rw[Th h6] at hq2
 unfold Qp at hq2
 rw[Tl] at hq2
 unfold xV at hq2
 refine z ?_
 refine ci ae Tryz.f103 (z ?_)
 refine zm ?_ ?_<;>intro h7
 rw[Ti (nt h7)] at hq2
 rw[Th h6] at hq2
 dsimp only[Option.bind_some] at hq2
 rw[Ti TL] at hq2
 rw[Th h6] at hq2
 refine bnf h6 (z ?_)
 refine ei (z ?_)
 refine Jk h6 (z ?_)
 refine zd ?_ ?_<;>intro h8
 rw[Th h8] at hq2
 rw[Tl] at hq2
 refine z ?_
 refine dg ae [0,1,0,0,8,28,60,124,255,511,1023] [⟨10,0,0,[5]⟩,⟨8,0,0,[6]⟩,⟨5,0,0,[10,10]⟩] (z ?_)
 obtain⟨v11,e11,hq2⟩:=aa hq2
 refine fI 10 0 2 rfl rfl ?_ rfl
 refine z ?_
 refine bp 10 11 (0) (h e11) (by simp only[cx,bR,bQ];rfl) rfl rfl rfl rfl (fun t11=> ?_)
 rw[Tl] at hq2
 refine z ?_
 obtain⟨hg12,hq2⟩:=ay hq2
 rw[Tl] at hq2
 refine z ?_
 refine aH ({label:=[],data:=v11.fst}) (bB _) (z ?_)
 obtain⟨hg13,hq2⟩:=ah hq2
 refine zd ?_ ?_<;>intro h14
 rw[Th h14] at hq2
 rw[Tl] at hq2
 refine z ?_
 refine dg ae [0,1,3,0,0,16,48,112,240,496,1008,2032,4095] [] (z ?_)
 obtain⟨j15,x15,en15,ex15,hq2⟩:=av hq2
 refine aK en15 ex15 ?_
 rw[Tl] at hq2
 refine z ?_
 refine bP ex15 (z ?_)
 obtain⟨v16,e16,hq2⟩:=aa hq2
 refine bp 1 2 ts1_2 (cL (hid:=hid) e16) rfl rfl rfl rfl rfl (fun t16=> ?_)
 dsimp only[Option.bind_some] at hq2
 refine z ?_
 exact bk ⟨(i2+1,_,_,t16,(ts2_2+1)),hq2⟩
 rw[Ti h14] at hq2
 dsimp only[Option.bind_some] at hq2
 refine z ?_
 exact bk ⟨(i2+1,_,_,ts1_2,(ts2_2+1)),hq2⟩
 rw[Ti h8] at hq2
 refine zd ?_ ?_<;>intro h17
 rw[Th h17] at hq2
 rw[Tl] at hq2
 refine z ?_
 obtain⟨v18,e18,hq2⟩:=aa hq2
 refine bp 1 2 ts1_2 (cL (hid:=hid) e18) rfl rfl rfl rfl rfl (fun t18=> ?_)
 dsimp only[Option.bind_some] at hq2
 refine z ?_
 exact bk ⟨(i2+1,_,_,t18,ts2_2),hq2⟩
 rw[Ti h17] at hq2
 rw[Tl] at hq2
 refine z ?_
 refine dg ae [0,1,0,4,0,0,32,0,240,508,1020,2047,4095,8191] [⟨13,0,0,[5]⟩,⟨11,0,0,[6]⟩,⟨8,0,0,[2,1]⟩] (z ?_)
 obtain⟨v21,e21,hq2⟩:=aa hq2
 refine bp 1 2 ts1_2 (h e21) (by simp only[cx,bR,bQ];rfl) rfl rfl rfl rfl (fun t21=> ?_)
 rw[Tl] at hq2
 refine z ?_
 obtain⟨hg22,hq2⟩:=ay hq2
 dsimp only[Option.bind_some] at hq2
 refine z ?_
 refine aH ({label:=x3.label,data:=v21.fst}) (bB _) (z ?_)
 exact bk ⟨(i2+1,_,_,t21,(ts2_2+1)),hq2⟩
 rw[Th h7] at hq2
 dsimp only[Option.bind_some] at hq2
 rw[Ti TL] at hq2
 rw[Th h6] at hq2
 refine ei (z ?_)
 refine Jk h6 (z ?_)
 refine zd ?_ ?_<;>intro h23
 rw[Th h23] at hq2
 rw[Tl] at hq2
 refine z ?_
 refine dg ae [0,1,0,0,8,28,60,124,255,511,1023] [⟨10,0,0,[5]⟩,⟨8,0,0,[6]⟩,⟨5,0,0,[10,10]⟩] (z ?_)
 obtain⟨v26,e26,hq2⟩:=aa hq2
 refine fI 10 0 2 rfl rfl ?_ rfl
 refine z ?_
 refine bp 10 11 (0) (h e26) (by simp only[cx,bR,bQ];rfl) rfl rfl rfl rfl (fun t26=> ?_)
 rw[Tl] at hq2
 refine z ?_
 obtain⟨hg27,hq2⟩:=ay hq2
 rw[Tl] at hq2
 refine z ?_
 refine aH ({label:=[],data:=v26.fst}) (bB _) (z ?_)
 obtain⟨hg28,hq2⟩:=ah hq2
 refine zd ?_ ?_<;>intro h29
 rw[Th h29] at hq2
 rw[Tl] at hq2
 refine z ?_
 refine dg ae [0,1,3,0,0,16,48,112,240,496,1008,2032,4095] [] (z ?_)
 obtain⟨j30,x30,en30,ex30,hq2⟩:=av hq2
 refine aK en30 ex30 ?_
 rw[Tl] at hq2
 refine z ?_
 refine bP ex30 (z ?_)
 obtain⟨v31,e31,hq2⟩:=aa hq2
 refine bp 1 2 ts1_2 (cL (hid:=hid) e31) rfl rfl rfl rfl rfl (fun t31=> ?_)
 dsimp only[Option.bind_some] at hq2
 refine z ?_
 exact bk ⟨(i2+1,_,_,t31,(ts2_2+1)),hq2⟩
 rw[Ti h29] at hq2
 dsimp only[Option.bind_some] at hq2
 refine z ?_
 exact bk ⟨(i2+1,_,_,ts1_2,(ts2_2+1)),hq2⟩
 rw[Ti h23] at hq2
 refine zd ?_ ?_<;>intro h32
 rw[Th h32] at hq2
 rw[Tl] at hq2
 refine z ?_
 obtain⟨v33,e33,hq2⟩:=aa hq2
 refine bp 1 2 ts1_2 (cL (hid:=hid) e33) rfl rfl rfl rfl rfl (fun t33=> ?_)
 dsimp only[Option.bind_some] at hq2
 refine z ?_
 exact bk ⟨(i2+1,_,_,t33,ts2_2),hq2⟩
 rw[Ti h32] at hq2
 rw[Tl] at hq2
 refine z ?_
 refine dg ae [0,1,0,4,0,0,32,0,240,508,1020,2047,4095,8191] [⟨13,0,0,[5]⟩,⟨11,0,0,[6]⟩,⟨8,0,0,[2,1]⟩] (z ?_)
 obtain⟨v36,e36,hq2⟩:=aa hq2
 refine bp 1 2 ts1_2 (h e36) (by simp only[cx,bR,bQ];rfl) rfl rfl rfl rfl (fun t36=> ?_)
 rw[Tl] at hq2
 refine z ?_
 obtain⟨hg37,hq2⟩:=ay hq2
 dsimp only[Option.bind_some] at hq2
 refine z ?_
 refine aH ({label:=x3.label,data:=v36.fst}) (bB _) (z ?_)
 exact bk ⟨(i2+1,_,_,t36,(ts2_2+1)),hq2⟩
 rw[Ti h6] at hq2
 unfold Qp at hq2
 rw[Tl] at hq2
 unfold xV at hq2
 refine z ?_
 refine ci ae Tryz.f103 (z ?_)
 refine zm ?_ ?_<;>intro h38
 rw[Ti (nt h38)] at hq2
 rw[Ti h6] at hq2
 rw[Tl] at hq2
 refine z ?_
 refine bnt h6 (z ?_)
 obtain⟨j39,x39,en39,ex39,hq2⟩:=av hq2
 refine⟨_,_,en39,ex39,?_⟩
 refine z ?_
 refine zd ?_ ?_<;>intro h40
 rw[Th h40] at hq2
 dsimp only[Option.bind_some] at hq2
 rw[Th rfl] at hq2
 dsimp only[Option.bind_some] at hq2
 refine z ?_
 refine ei (z ?_)
 exact bk ⟨(i2+1,_,_,ts1_2,ts2_2),hq2⟩
 rw[Ti h40] at hq2
 refine⟨_,_,en39,ex39,?_⟩
 refine z ?_
 refine ei (z ?_)
 refine zd ?_ ?_<;>intro h41
 rw[Th h41] at hq2
 dsimp only[Option.bind_some] at hq2
 rw[Th rfl] at hq2
 dsimp only[Option.bind_some] at hq2
 refine z ?_
 exact bk ⟨(i2+1,_,_,ts1_2,ts2_2),hq2⟩
 rw[Ti h41] at hq2
 dsimp only[Option.bind_some] at hq2
 rw[Ti TL] at hq2
 rw[Ti h6] at hq2
 refine Ax h6 (z ?_)
 refine zd ?_ ?_<;>intro h42
 rw[Th h42] at hq2
 rw[Tl] at hq2
 refine z ?_
 obtain⟨v43,e43,hq2⟩:=aa hq2
 refine dv 1 2 ts1_2 (cL (hid:=hid) e43) rfl rfl (z ?_)
 intro t43
 dsimp only[Option.bind_some] at hq2
 refine z ?_
 exact bk ⟨(i2+1,_,_,t43,ts2_2),hq2⟩
 rw[Ti h42] at hq2
 rw[Tl] at hq2
 refine z ?_
 refine dg ae [0,1,0,4,0,0,32,0,240,508,1020,2047,4095,8191] [⟨13,0,0,[5]⟩,⟨11,0,0,[6]⟩,⟨8,0,0,[2,1,9]⟩] (z ?_)
 obtain⟨v46,e46,hq2⟩:=aa hq2
 refine dv 1 2 ts1_2 (h e46) (by simp only[aw,closed,aG,eC,cl,dx,Tq]) rfl (z ?_)
 intro t46
 rw[Tl] at hq2
 refine z ?_
 obtain⟨hg47,hq2⟩:=ay hq2
 dsimp only[Option.bind_some] at hq2
 refine z ?_
 refine aH ({label:=x3.label,data:=v46.fst}) (bB _) (z ?_)
 exact bk ⟨(i2+1,_,_,t46,(ts2_2+1)),hq2⟩
 rw[Th h38] at hq2
 dsimp only[Option.bind_some] at hq2
 rw[Ti TL] at hq2
 rw[Ti h6] at hq2
 refine ei (z ?_)
 refine Ax h6 (z ?_)
 refine zd ?_ ?_<;>intro h48
 rw[Th h48] at hq2
 rw[Tl] at hq2
 refine z ?_
 obtain⟨v49,e49,hq2⟩:=aa hq2
 refine dv 1 2 ts1_2 (cL (hid:=hid) e49) rfl rfl (z ?_)
 intro t49
 dsimp only[Option.bind_some] at hq2
 refine z ?_
 exact bk ⟨(i2+1,_,_,t49,ts2_2),hq2⟩
 rw[Ti h48] at hq2
 rw[Tl] at hq2
 refine z ?_
 refine dg ae [0,1,0,4,0,0,32,0,240,508,1020,2047,4095,8191] [⟨13,0,0,[5]⟩,⟨11,0,0,[6]⟩,⟨8,0,0,[2,1,9]⟩] (z ?_)
 obtain⟨v52,e52,hq2⟩:=aa hq2
 refine dv 1 2 ts1_2 (h e52) (by simp only[aw,closed,aG,eC,cl,dx,Tq]) rfl (z ?_)
 intro t52
 rw[Tl] at hq2
 refine z ?_
 obtain⟨hg53,hq2⟩:=ay hq2
 dsimp only[Option.bind_some] at hq2
 refine z ?_
 refine aH ({label:=x3.label,data:=v52.fst}) (bB _) (z ?_)
 exact bk ⟨(i2+1,_,_,t52,(ts2_2+1)),hq2⟩
 rw[aq h3,FF] at hq2
 cases hq2
 refine aV (z ?_)
 exact ml
 refine z ?_
 obtain⟨hg1,hm⟩:=ah hm
 refine bJ 5 4 6 rfl rfl ?_
 refine lg (α:=Nat×List er×List (Mem aO)×Nat×Nat) ae (fun(iw,s1,s2,ts1,ts2)=>(FF hid rec (p0::path) (List.drop iw c.fields) s1 s2=some r,⟨105,[(16,.int .i64 iw),(15,.int .i64 ↑c.fields.length),(14,.aE false (List.map (di aL) c.fields)),(7,.ptr 5 0),(6,.ptr 4 0),(0,.ptr 1 0),(2,.aE false (List.map kd (p0::path)))]⟩,⟨[(6,.row 6 (s2.map (jF de)) ts2 false),(5,.cells [.int .i64 6,.int .i64 0,.str #[].toList,.ax,.own 6 ts2]),(4,.cells [.int .i64 0,.int .i64 0,.str #[].toList,.ax,.ax]),(3,.cells (aC aL c)),(0,aX),(1,.cells [.own 2 ts1,.bool hid]),(2,.row 2 (s1.map iM) ts1 false)],7,0,[],[]⟩,List.length c.fields-iw)) ⟨(0,_,_,t,(0)),hm⟩ ?_
 rintro⟨i2,s1_2,s2_2,ts1_2,ts2_2⟩ hq2
 dsimp only at hq2
 refine z ?_
 refine zd ?_ ?_<;>intro h3
 obtain⟨x3,ex3,ed3⟩:=an h3
 rw[ed3,FF] at hq2
 refine z ?_
 obtain⟨hg4,hq2⟩:=ah hq2
 refine bC (cW _) ex3 rfl (z ?_)
 refine dg ae [0,1,0,4,12,28,63,127] [] (z ?_)
 refine cd ae Tryz.f102 (z ?_)
 refine Ay (z ?_)
 refine ed (z ?_)
 obtain⟨hg5,hq2⟩:=ay hq2
 refine z ?_
 refine aH ({label:=x3.label,index:=0}) rfl (z ?_)
 refine zd ?_ ?_<;>intro h6
 rw[Th h6] at hq2
 unfold Qp at hq2
 rw[Tl] at hq2
 unfold xV at hq2
 refine z ?_
 refine ci ae Tryz.f103 (z ?_)
 refine zm ?_ ?_<;>intro h7
 rw[Ti (nt h7)] at hq2
 rw[Th h6] at hq2
 dsimp only[Option.bind_some] at hq2
 rw[Ti TL] at hq2
 rw[Th h6] at hq2
 refine bnf h6 (z ?_)
 refine ei (z ?_)
 refine Jk h6 (z ?_)
 refine zd ?_ ?_<;>intro h8
 rw[Th h8] at hq2
 rw[Tl] at hq2
 refine z ?_
 refine dg ae [0,1,0,0,8,28,60,124,255,511,1023] [⟨10,0,0,[5]⟩,⟨8,0,0,[6]⟩,⟨5,0,0,[10,10]⟩] (z ?_)
 obtain⟨v11,e11,hq2⟩:=aa hq2
 refine fI 10 0 2 rfl rfl ?_ rfl
 refine z ?_
 refine bp 10 11 (0) (h e11) (by simp only[cx,bR,bQ];rfl) rfl rfl rfl rfl (fun t11=> ?_)
 rw[Tl] at hq2
 refine z ?_
 obtain⟨hg12,hq2⟩:=ay hq2
 rw[Tl] at hq2
 refine z ?_
 refine aH ({label:=[],data:=v11.fst}) (bB _) (z ?_)
 obtain⟨hg13,hq2⟩:=ah hq2
 refine zd ?_ ?_<;>intro h14
 rw[Th h14] at hq2
 rw[Tl] at hq2
 refine z ?_
 refine dg ae [0,1,3,0,0,16,48,112,240,496,1008,2032,4095] [] (z ?_)
 obtain⟨j15,x15,en15,ex15,hq2⟩:=av hq2
 refine aK en15 ex15 ?_
 rw[Tl] at hq2
 refine z ?_
 refine bP ex15 (z ?_)
 obtain⟨v16,e16,hq2⟩:=aa hq2
 refine bp 1 2 ts1_2 (cL (hid:=hid) e16) (by simp only[cx,bR,bQ];rfl) rfl rfl rfl rfl (fun t16=> ?_)
 dsimp only[Option.bind_some] at hq2
 refine z ?_
 exact bk ⟨(i2+1,_,_,t16,(ts2_2+1)),hq2⟩
 rw[Ti h14] at hq2
 dsimp only[Option.bind_some] at hq2
 refine z ?_
 exact bk ⟨(i2+1,_,_,ts1_2,(ts2_2+1)),hq2⟩
 rw[Ti h8] at hq2
 refine zd ?_ ?_<;>intro h17
 rw[Th h17] at hq2
 rw[Tl] at hq2
 refine z ?_
 obtain⟨v18,e18,hq2⟩:=aa hq2
 refine bp 1 2 ts1_2 (cL (hid:=hid) e18) (by simp only[cx,bR,bQ];rfl) rfl rfl rfl rfl (fun t18=> ?_)
 dsimp only[Option.bind_some] at hq2
 refine z ?_
 exact bk ⟨(i2+1,_,_,t18,ts2_2),hq2⟩
 rw[Ti h17] at hq2
 rw[Tl] at hq2
 refine z ?_
 refine dg ae [0,1,0,4,0,0,32,0,240,508,1020,2047,4095,8191] [⟨13,0,0,[5]⟩,⟨11,0,0,[6]⟩,⟨8,0,0,[2,1]⟩] (z ?_)
 obtain⟨v21,e21,hq2⟩:=aa hq2
 refine bp 1 2 ts1_2 (h e21) (by simp only[cx,bR,bQ];rfl) rfl rfl rfl rfl (fun t21=> ?_)
 rw[Tl] at hq2
 refine z ?_
 obtain⟨hg22,hq2⟩:=ay hq2
 dsimp only[Option.bind_some] at hq2
 refine z ?_
 refine aH ({label:=x3.label,data:=v21.fst}) (bB _) (z ?_)
 exact bk ⟨(i2+1,_,_,t21,(ts2_2+1)),hq2⟩
 rw[Th h7] at hq2
 dsimp only[Option.bind_some] at hq2
 rw[Ti TL] at hq2
 rw[Th h6] at hq2
 refine ei (z ?_)
 refine Jk h6 (z ?_)
 refine zd ?_ ?_<;>intro h23
 rw[Th h23] at hq2
 rw[Tl] at hq2
 refine z ?_
 refine dg ae [0,1,0,0,8,28,60,124,255,511,1023] [⟨10,0,0,[5]⟩,⟨8,0,0,[6]⟩,⟨5,0,0,[10,10]⟩] (z ?_)
 obtain⟨v26,e26,hq2⟩:=aa hq2
 refine fI 10 0 2 rfl rfl ?_ rfl
 refine z ?_
 refine bp 10 11 (0) (h e26) (by simp only[cx,bR,bQ];rfl) rfl rfl rfl rfl (fun t26=> ?_)
 rw[Tl] at hq2
 refine z ?_
 obtain⟨hg27,hq2⟩:=ay hq2
 rw[Tl] at hq2
 refine z ?_
 refine aH ({label:=[],data:=v26.fst}) (bB _) (z ?_)
 obtain⟨hg28,hq2⟩:=ah hq2
 refine zd ?_ ?_<;>intro h29
 rw[Th h29] at hq2
 rw[Tl] at hq2
 refine z ?_
 refine dg ae [0,1,3,0,0,16,48,112,240,496,1008,2032,4095] [] (z ?_)
 obtain⟨j30,x30,en30,ex30,hq2⟩:=av hq2
 refine aK en30 ex30 ?_
 rw[Tl] at hq2
 refine z ?_
 refine bP ex30 (z ?_)
 obtain⟨v31,e31,hq2⟩:=aa hq2
 refine bp 1 2 ts1_2 (cL (hid:=hid) e31) (by simp only[cx,bR,bQ];rfl) rfl rfl rfl rfl (fun t31=> ?_)
 dsimp only[Option.bind_some] at hq2
 refine z ?_
 exact bk ⟨(i2+1,_,_,t31,(ts2_2+1)),hq2⟩
 rw[Ti h29] at hq2
 dsimp only[Option.bind_some] at hq2
 refine z ?_
 exact bk ⟨(i2+1,_,_,ts1_2,(ts2_2+1)),hq2⟩
 rw[Ti h23] at hq2
 refine zd ?_ ?_<;>intro h32
 rw[Th h32] at hq2
 rw[Tl] at hq2
 refine z ?_
 obtain⟨v33,e33,hq2⟩:=aa hq2
 refine bp 1 2 ts1_2 (cL (hid:=hid) e33) (by simp only[cx,bR,bQ];rfl) rfl rfl rfl rfl (fun t33=> ?_)
 dsimp only[Option.bind_some] at hq2
 refine z ?_
 exact bk ⟨(i2+1,_,_,t33,ts2_2),hq2⟩
 rw[Ti h32] at hq2
 rw[Tl] at hq2
 refine z ?_
 refine dg ae [0,1,0,4,0,0,32,0,240,508,1020,2047,4095,8191] [⟨13,0,0,[5]⟩,⟨11,0,0,[6]⟩,⟨8,0,0,[2,1]⟩] (z ?_)
 obtain⟨v36,e36,hq2⟩:=aa hq2
 refine bp 1 2 ts1_2 (h e36) (by simp only[cx,bR,bQ];rfl) rfl rfl rfl rfl (fun t36=> ?_)
 rw[Tl] at hq2
 refine z ?_
 obtain⟨hg37,hq2⟩:=ay hq2
 dsimp only[Option.bind_some] at hq2
 refine z ?_
 refine aH ({label:=x3.label,data:=v36.fst}) (bB _) (z ?_)
 exact bk ⟨(i2+1,_,_,t36,(ts2_2+1)),hq2⟩
 rw[Ti h6] at hq2
 unfold Qp at hq2
 rw[Tl] at hq2
 unfold xV at hq2
 refine z ?_
 refine ci ae Tryz.f103 (z ?_)
 refine zm ?_ ?_<;>intro h38
 rw[Ti (nt h38)] at hq2
 rw[Ti h6] at hq2
 rw[Tl] at hq2
 refine z ?_
 refine bnt h6 (z ?_)
 obtain⟨j39,x39,en39,ex39,hq2⟩:=av hq2
 refine⟨_,_,en39,ex39,?_⟩
 refine z ?_
 refine zd ?_ ?_<;>intro h40
 rw[Th h40] at hq2
 dsimp only[Option.bind_some] at hq2
 rw[Th rfl] at hq2
 dsimp only[Option.bind_some] at hq2
 refine z ?_
 refine ei (z ?_)
 exact bk ⟨(i2+1,_,_,ts1_2,ts2_2),hq2⟩
 rw[Ti h40] at hq2
 refine⟨_,_,en39,ex39,?_⟩
 refine z ?_
 refine ei (z ?_)
 refine zd ?_ ?_<;>intro h41
 rw[Th h41] at hq2
 dsimp only[Option.bind_some] at hq2
 rw[Th rfl] at hq2
 dsimp only[Option.bind_some] at hq2
 refine z ?_
 exact bk ⟨(i2+1,_,_,ts1_2,ts2_2),hq2⟩
 rw[Ti h41] at hq2
 dsimp only[Option.bind_some] at hq2
 rw[Ti TL] at hq2
 rw[Ti h6] at hq2
 refine Ax h6 (z ?_)
 refine zd ?_ ?_<;>intro h42
 rw[Th h42] at hq2
 rw[Tl] at hq2
 refine z ?_
 obtain⟨v43,e43,hq2⟩:=aa hq2
 refine dv 1 2 ts1_2 (cL (hid:=hid) e43) (by simp only[aw,closed,aG,eC,cl,dx,Tq]) rfl (z ?_)
 intro t43
 dsimp only[Option.bind_some] at hq2
 refine z ?_
 exact bk ⟨(i2+1,_,_,t43,ts2_2),hq2⟩
 rw[Ti h42] at hq2
 rw[Tl] at hq2
 refine z ?_
 refine dg ae [0,1,0,4,0,0,32,0,240,508,1020,2047,4095,8191] [⟨13,0,0,[5]⟩,⟨11,0,0,[6]⟩,⟨8,0,0,[2,1,8]⟩] (z ?_)
 obtain⟨v46,e46,hq2⟩:=aa hq2
 refine dv 1 2 ts1_2 (h e46) (by simp only[aw,closed,aG,eC,cl,dx,Tq]) rfl (z ?_)
 intro t46
 rw[Tl] at hq2
 refine z ?_
 obtain⟨hg47,hq2⟩:=ay hq2
 dsimp only[Option.bind_some] at hq2
 refine z ?_
 refine aH ({label:=x3.label,data:=v46.fst}) (bB _) (z ?_)
 exact bk ⟨(i2+1,_,_,t46,(ts2_2+1)),hq2⟩
 rw[Th h38] at hq2
 dsimp only[Option.bind_some] at hq2
 rw[Ti TL] at hq2
 rw[Ti h6] at hq2
 refine ei (z ?_)
 refine Ax h6 (z ?_)
 refine zd ?_ ?_<;>intro h48
 rw[Th h48] at hq2
 rw[Tl] at hq2
 refine z ?_
 obtain⟨v49,e49,hq2⟩:=aa hq2
 refine dv 1 2 ts1_2 (cL (hid:=hid) e49) (by simp only[aw,closed,aG,eC,cl,dx,Tq]) rfl (z ?_)
 intro t49
 dsimp only[Option.bind_some] at hq2
 refine z ?_
 exact bk ⟨(i2+1,_,_,t49,ts2_2),hq2⟩
 rw[Ti h48] at hq2
 rw[Tl] at hq2
 refine z ?_
 refine dg ae [0,1,0,4,0,0,32,0,240,508,1020,2047,4095,8191] [⟨13,0,0,[5]⟩,⟨11,0,0,[6]⟩,⟨8,0,0,[2,1,8]⟩] (z ?_)
 obtain⟨v52,e52,hq2⟩:=aa hq2
 refine dv 1 2 ts1_2 (h e52) (by simp only[aw,closed,aG,eC,cl,dx,Tq]) rfl (z ?_)
 intro t52
 rw[Tl] at hq2
 refine z ?_
 obtain⟨hg53,hq2⟩:=ay hq2
 dsimp only[Option.bind_some] at hq2
 refine z ?_
 refine aH ({label:=x3.label,data:=v52.fst}) (bB _) (z ?_)
 exact bk ⟨(i2+1,_,_,t52,(ts2_2+1)),hq2⟩
 rw[aq h3,FF] at hq2
 cases hq2
 refine aV (z ?_)
 exact ml
abbrev QR:aO:=nY 0 0 []
def oF (ps:List er) (path:List pz) (e:Int):Option (aO×List er):=(Dr ps path e).bind fun ps=>some (QR,ps)
def HD (hid:Bool) (rec:qE) (r:bG Va) (p:aO×Bool) (path:List pz) (ps:List er):Option (aO×List er):=if p.2 then some (p.1,ps) else
 if(r.lists.length:Int)=1 then(cN r.lists 0).bind fun c=>A7 rec c path ps else(cN r.structs 0).bind fun c=>A5 hid rec c path ps
def HE (hid:Bool) (rec:qE) (r:bG Va) (p:aO×Bool) (path:List pz) (ps:List er):Option (aO×List er):=
 if(r.lists.length:Int)+r.structs.length=0 then if p.2 then HD hid rec r p path ps else oF ps path 14 else HD hid rec r p path ps
def pB (hid:Bool) (rec:qE) (r:bG Va) (path:List pz) (ps:List er):Option (aO×List er):=(gT r.sc).bind fun p=>(iE r.sc).bind fun e=>(aN r.lists).bind fun _=>(aN r.structs).bind fun _=>
 (iL r).bind fun b=>if b then oF ps path 12 else if r.any then oF ps path 14 else if(r.lists.length:Int)+r.structs.length>1 then oF ps path 14 else
 if(r.lists.length:Int)+r.structs.length>0 then if e then HE hid rec r p path ps else oF ps path 14 else HE hid rec r p path ps
def wv (hid:Bool):Nat->qE
 |0,_,_,_=>none
 |n+1,x,path,ps=>(iL x.d).bind fun b=>if b then pB hid (wv hid n) x.v path ps else pB hid (wv hid n) x.d path ps
theorem NC {hid:Bool}:∀{n:Nat},S2 hid (wv hid n):=by
 intro n
 induction n with
 |zero=>intro x path ps r hm;cases hm
 |succ n ih=>
  intro x path ps r hm
  refine nF ae (fn:=Tryz.f43) rfl rfl (eC _ _) (by simp only[nb,cY,c7,cE,Tq];rfl) (fun t=> ?_)
  unfold wv at hm
  refine z ?_
  obtain⟨v1,e1,hm⟩:=aa hm
  refine ct (kE e1) (z ?_)
  refine zr ?_ ?_<;>intro h2
  ·rw[Th h2] at hm
   unfold pB at hm
   refine z ?_
   obtain⟨v3,e3,hm⟩:=aa hm
   refine ct (tH e3) (z ?_)
   obtain⟨v4,e4,hm⟩:=aa hm
   refine ct (nP e4) (z ?_)
   obtain⟨hg5,hm⟩:=ah hm
   obtain⟨hg6,hm⟩:=ah hm
   refine z ?_
   obtain⟨v8,e8,hm⟩:=aa hm
   refine ct (kE e8) (z ?_)
   refine zr ?_ ?_<;>intro h9
   ·rw[Th h9] at hm
    unfold oF at hm
    refine z ?_
    obtain⟨v10,e10,hm⟩:=aa hm
    refine bp 1 2 t (cL (hid:=hid) e10) (by simp only[cx,bR,bQ];rfl) rfl rfl rfl rfl (fun t10=> ?_)
    refine z ?_
    cases hm
    refine aV (z ?_)
    exact ml
   ·rw[Ti (nt h9)] at hm
    refine zr ?_ ?_<;>intro h11
    ·rw[Th h11] at hm
     unfold oF at hm
     refine z ?_
     obtain⟨v12,e12,hm⟩:=aa hm
     refine bp 1 2 t (cL (hid:=hid) e12) (by simp only[cx,bR,bQ];rfl) rfl rfl rfl rfl (fun t12=> ?_)
     refine z ?_
     cases hm
     refine aV (z ?_)
     exact ml
    ·rw[Ti (nt h11)] at hm
     refine zd ?_ ?_<;>intro h13
     ·rw[Th h13] at hm
      unfold oF at hm
      refine z ?_
      obtain⟨v14,e14,hm⟩:=aa hm
      refine bp 1 2 t (cL (hid:=hid) e14) (by simp only[cx,bR,bQ];rfl) rfl rfl rfl rfl (fun t14=> ?_)
      refine z ?_
      cases hm
      refine aV (z ?_)
      exact ml
     ·rw[Ti h13] at hm
      refine zd ?_ ?_<;>intro h15
      ·rw[Th h15] at hm
       refine zm ?_ ?_<;>intro h16
       ·rw[Ti (nt h16)] at hm
        unfold oF at hm
        refine z ?_
        obtain⟨v17,e17,hm⟩:=aa hm
        refine bp 1 2 t (cL (hid:=hid) e17) (by simp only[cx,bR,bQ];rfl) rfl rfl rfl rfl (fun t17=> ?_)
        refine z ?_
        cases hm
        refine aV (z ?_)
        exact ml
       ·rw[Th h16] at hm
        unfold HE at hm
        refine z ?_
        have h18:¬((↑x.v.lists.length+↑x.v.structs.length:Int)=0):=by omega
        refine Ax h18 (z ?_)
        rw[Ti h18] at hm
        unfold HD at hm
        refine z ?_
        refine zr ?_ ?_<;>intro h19
        ·rw[Th h19] at hm
         cases hm
         exact msl
        ·rw[Ti (nt h19)] at hm
         refine zd ?_ ?_<;>intro h20
         ·rw[Th h20] at hm
          obtain⟨j21,x21,en21,ex21,hm⟩:=av hm
          refine bF en21 ex21 rfl (z ?_)
          replace hm:=aB hm
          obtain⟨v22,e22,hm⟩:=aa hm
          refine bp 1 2 t (A6 ih e22) (by simp only[cx,bR,bQ];rfl) rfl rfl rfl rfl (fun t22=> ?_)
          refine z ?_
          cases hm
          exact msl
         ·rw[Ti h20] at hm
          obtain⟨j23,x23,en23,ex23,hm⟩:=av hm
          refine bF en23 ex23 rfl (z ?_)
          replace hm:=aB hm
          obtain⟨v24,e24,hm⟩:=aa hm
          refine bp 1 2 t (A4 ih e24) (by simp only[cx,bR,bQ];rfl) rfl rfl rfl rfl (fun t24=> ?_)
          refine z ?_
          cases hm
          exact msl
      ·rw[Ti h15] at hm
       unfold HE at hm
       refine z ?_
       have h25:((↑x.v.lists.length+↑x.v.structs.length:Int)=0):=by omega
       refine Jk h25 (z ?_)
       rw[Th h25] at hm
       refine zm ?_ ?_<;>intro h26
       ·rw[Ti (nt h26)] at hm
        unfold oF at hm
        refine z ?_
        obtain⟨v27,e27,hm⟩:=aa hm
        refine bp 1 2 t (cL (hid:=hid) e27) (by simp only[cx,bR,bQ];rfl) rfl rfl rfl rfl (fun t27=> ?_)
        refine z ?_
        cases hm
        refine aV (z ?_)
        exact ml
       ·rw[Th h26] at hm
        unfold HD at hm
        rw[Th h26] at hm
        refine brt h26 (z ?_)
        cases hm
        exact msl
  ·rw[Ti (nt h2)] at hm
   unfold pB at hm
   refine z ?_
   obtain⟨v28,e28,hm⟩:=aa hm
   refine ct (tH e28) (z ?_)
   obtain⟨v29,e29,hm⟩:=aa hm
   refine ct (nP e29) (z ?_)
   obtain⟨hg30,hm⟩:=ah hm
   obtain⟨hg31,hm⟩:=ah hm
   refine z ?_
   obtain⟨v33,e33,hm⟩:=aa hm
   refine ct (kE e33) (z ?_)
   refine zr ?_ ?_<;>intro h34
   ·rw[Th h34] at hm
    unfold oF at hm
    refine z ?_
    obtain⟨v35,e35,hm⟩:=aa hm
    refine bp 1 2 t (cL (hid:=hid) e35) (by simp only[cx,bR,bQ];rfl) rfl rfl rfl rfl (fun t35=> ?_)
    refine z ?_
    cases hm
    refine aV (z ?_)
    exact ml
   ·rw[Ti (nt h34)] at hm
    refine zr ?_ ?_<;>intro h36
    ·rw[Th h36] at hm
     unfold oF at hm
     refine z ?_
     obtain⟨v37,e37,hm⟩:=aa hm
     refine bp 1 2 t (cL (hid:=hid) e37) (by simp only[cx,bR,bQ];rfl) rfl rfl rfl rfl (fun t37=> ?_)
     refine z ?_
     cases hm
     refine aV (z ?_)
     exact ml
    ·rw[Ti (nt h36)] at hm
     refine zd ?_ ?_<;>intro h38
     ·rw[Th h38] at hm
      unfold oF at hm
      refine z ?_
      obtain⟨v39,e39,hm⟩:=aa hm
      refine bp 1 2 t (cL (hid:=hid) e39) (by simp only[cx,bR,bQ];rfl) rfl rfl rfl rfl (fun t39=> ?_)
      refine z ?_
      cases hm
      refine aV (z ?_)
      exact ml
     ·rw[Ti h38] at hm
      refine zd ?_ ?_<;>intro h40
      ·rw[Th h40] at hm
       refine zm ?_ ?_<;>intro h41
       ·rw[Ti (nt h41)] at hm
        unfold oF at hm
        refine z ?_
        obtain⟨v42,e42,hm⟩:=aa hm
        refine bp 1 2 t (cL (hid:=hid) e42) (by simp only[cx,bR,bQ];rfl) rfl rfl rfl rfl (fun t42=> ?_)
        refine z ?_
        cases hm
        refine aV (z ?_)
        exact ml
       ·rw[Th h41] at hm
        unfold HE at hm
        refine z ?_
        have h43:¬((↑x.d.lists.length+↑x.d.structs.length:Int)=0):=by omega
        refine Ax h43 (z ?_)
        rw[Ti h43] at hm
        unfold HD at hm
        refine z ?_
        refine zr ?_ ?_<;>intro h44
        ·rw[Th h44] at hm
         cases hm
         exact msl
        ·rw[Ti (nt h44)] at hm
         refine zd ?_ ?_<;>intro h45
         ·rw[Th h45] at hm
          obtain⟨j46,x46,en46,ex46,hm⟩:=av hm
          refine bF en46 ex46 rfl (z ?_)
          replace hm:=aB hm
          obtain⟨v47,e47,hm⟩:=aa hm
          refine bp 1 2 t (A6 ih e47) (by simp only[cx,bR,bQ];rfl) rfl rfl rfl rfl (fun t47=> ?_)
          refine z ?_
          cases hm
          exact msl
         ·rw[Ti h45] at hm
          obtain⟨j48,x48,en48,ex48,hm⟩:=av hm
          refine bF en48 ex48 rfl (z ?_)
          replace hm:=aB hm
          obtain⟨v49,e49,hm⟩:=aa hm
          refine bp 1 2 t (A4 ih e49) (by simp only[cx,bR,bQ];rfl) rfl rfl rfl rfl (fun t49=> ?_)
          refine z ?_
          cases hm
          exact msl
      ·rw[Ti h40] at hm
       unfold HE at hm
       refine z ?_
       have h50:((↑x.d.lists.length+↑x.d.structs.length:Int)=0):=by omega
       refine Jk h50 (z ?_)
       rw[Th h50] at hm
       refine zm ?_ ?_<;>intro h51
       ·rw[Ti (nt h51)] at hm
        unfold oF at hm
        refine z ?_
        obtain⟨v52,e52,hm⟩:=aa hm
        refine bp 1 2 t (cL (hid:=hid) e52) (by simp only[cx,bR,bQ];rfl) rfl rfl rfl rfl (fun t52=> ?_)
        refine z ?_
        cases hm
        refine aV (z ?_)
        exact ml
       ·rw[Th h51] at hm
        unfold HD at hm
        rw[Th h51] at hm
        refine brt h51 (z ?_)
        cases hm
        exact msl
def kJ (x:Va) (hid:Bool):Option (aO×List er):=(jW x).bind fun c=>if c then wv hid 18 x [] [] else(Dr [] [] 11).bind fun ps=>some (QR,ps)
theorem vE {x:Va} {hid:Bool} {r:aO×List er} (hm:kJ x hid=some r):bj Tryz.prog 28 [.agg (eo x),.bool hid] fun s=>s= .dT [.agg (cw r.1),.aE false (r.2.map iM)]:=by
 refine ht ae Tryz.f28 ?_
 unfold kJ at hm
 refine z ?_
 obtain⟨v1,e1,hm⟩:=aa hm
 refine ct (kr e1) (z ?_)
 refine zm ?_ ?_<;>intro h2
 rw[Ti (nt h2)] at hm
 obtain⟨v3,e3,hm⟩:=aa hm
 refine fI 3 0 2 rfl rfl ?_ rfl
 refine z ?_
 refine bp 3 4 (0) (cL (hid:=hid) e3) rfl rfl rfl rfl rfl (fun t3=> ?_)
 refine z ?_
 refine dg ae [0,0,2,6,14,30,1,127] [⟨6,0,0,[2]⟩] (z ?_)
 cases hm
 refine aV (z ?_)
 exact mt
 rw[Th h2] at hm
 replace hm:=aB hm
 obtain⟨v4,e4,hm⟩:=aa hm
 refine fI 3 0 2 rfl rfl ?_ rfl
 refine z ?_
 refine bp 3 4 (0) (NC e4) (by simp only[cx,bR,bQ];rfl) rfl rfl rfl rfl (fun t4=> ?_)
 refine z ?_
 refine dg ae [0,0,2,6,14,30,1,127] [⟨6,0,0,[2]⟩] (z ?_)
 cases hm
 refine aV (z ?_)
 exact mt
def vt (x:Va) (hid:Bool):Option (aO×Int):=(kJ x hid).bind fun p=>(aN p.2).bind fun _=>if(p.2.length:Int)>0 then(cN p.2 0).bind fun e=>some (QR,e.CF) else some (p.1,0)
theorem vr {x:Va} {hid:Bool} {r:aO×Int} (hm:vt x hid=some r):bj Tryz.prog 11 [.agg (eo x),.bool hid] fun s=>s= .dT [.agg (cw r.1),.int .i64 r.2]:=by
 refine ht ae Tryz.f11 ?_
 unfold vt at hm
 refine z ?_
 obtain⟨v1,e1,hm⟩:=aa hm
 refine ct (vE e1) (z ?_)
 obtain⟨hg2,hm⟩:=ah hm
 refine zd ?_ ?_<;>intro h3
 rw[Th h3] at hm
 refine dg ae [0,0,2,6,14,1,63] [⟨5,0,0,[2]⟩] (z ?_)
 obtain⟨j5,x5,en5,ex5,hm⟩:=av hm
 refine bF en5 ex5 rfl (z ?_)
 cases hm
 refine aV (z ?_)
 exact mt
 rw[Ti h3] at hm
 cases hm
 exact mst
def uk (x:Va) (hid:Bool):Option (List er):=(kJ x hid).bind fun p=>some p.2
theorem xE {x:Va} {hid:Bool} {r:List er} (hm:uk x hid=some r):bj Tryz.prog 22 [.agg (eo x),.bool hid] fun s=>s= .aE false (r.map iM):=by
 refine ht ae Tryz.f22 ?_
 unfold uk at hm
 refine z ?_
 obtain⟨v1,e1,hm⟩:=aa hm
 refine ct (vE e1) (z ?_)
 cases hm
 exact mst
abbrev OM {α:Type} (l:List α):Option Unit:=yf (l.length<9223372036854775808)
/-! measure -/
def Qr (rec:aO->aO->Option Bool) (a b:cJ aO):Nat->Int->Option Bool
 |0,_=>none
 |f+1,i=>(aN a.members).bind fun _=>if i<(a.members.length:Int) then(cN a.members i).bind fun x=>(cN b.members i).bind fun y=>if x.label=y.label then(cN a.members i).bind fun x=>(cN b.members i).bind fun y=>(rec x.data y.data).bind fun ok=>if ok then Qr rec a b f (i+1) else some false else some false else some true
def Rm (rec:aO->aO->Option Bool) (a b:cJ aO):Nat->Int->Option Bool
 |0,_=>none
 |f+1,i=>(aN a.items).bind fun _=>if i<(a.items.length:Int) then(cN a.items i).bind fun x=>(cN b.items i).bind fun y=>(rec x y).bind fun ok=>if ok then Rm rec a b f (i+1) else some false else Qr rec a b (a.members.length+1) 0
def sdC (rec:aO->aO->Option Bool) (a b:cJ aO):Option Bool:=if a.kind=b.kind then if a.num=b.num then if a.str=b.str then(aN a.items).bind fun _=>(aN b.items).bind fun _=>if(a.items.length:Int)=b.items.length then
  (aN a.members).bind fun _=>(aN b.members).bind fun _=>if(a.members.length:Int)=b.members.length then Rm rec a b (a.items.length+1) 0 else some false else some false else some false else some false else some false
def Oe:Nat->aO->aO->Option Bool
 |0,_,_=>none
 |n+1,a,b=>sdC (Oe n) a.c b.c
theorem Rl:∀{n:Nat} {a b:aO} {r:Bool} (hm:Oe n a b=some r),Has Tryz.prog 12 [.agg (cw a),.agg (cw b)] fun s=>s= .bool r:=by
 intro n
 induction n with
 |zero=>intro a b r hm;cases hm
 |succ n ih=>
  intro a b r hm
  refine hs ae Tryz.f12 ?_
  unfold Oe sdC at hm
  refine z ?_
  refine zn ?_ ?_<;>intro h1
  ·rw[Ti h1] at hm
   cases hm
   exact fc
  ·rw[Th h1] at hm
   refine zn ?_ ?_<;>intro h2
   ·rw[Ti h2] at hm
    cases hm
    exact fc
   ·rw[Th h2] at hm
    refine zn ?_ ?_<;>intro h3
    ·rw[Ti h3] at hm
     cases hm
     exact fc
    ·rw[Th h3] at hm
     obtain⟨hg4,hm⟩:=ah hm
     obtain⟨hg5,hm⟩:=ah hm
     refine zn ?_ ?_<;>intro h6
     ·rw[Ti h6] at hm
      cases hm
      exact fc
     ·rw[Th h6] at hm
      obtain⟨hg7,hm⟩:=ah hm
      obtain⟨hg8,hm⟩:=ah hm
      refine zn ?_ ?_<;>intro h9
      ·rw[Ti h9] at hm
       cases hm
       exact fc
      ·rw[Th h9] at hm
       refine lg (α:=Nat×Int) ae (fun(nw,s1)=>(Rm (Oe n) a.c b.c nw s1=some r,⟨99,[(5,.int .i64 s1),(4,.bool false),(3,.ptr 1 0),(2,.ptr 0 0)]⟩,⟨[(1,.cells (cw b)),(0,.cells (cw a))],2,0,[],[]⟩,nw)) ⟨(_,_),hm⟩ ?_
       rintro⟨n10,s1_10⟩ hq10
       dsimp only at hq10
       rcases n10 with _|n10
       ·(unfold Rm at hq10;cases hq10)
       unfold Rm at hq10
       refine z ?_
       obtain⟨hg11,hq10⟩:=ah hq10
       refine zd ?_ ?_<;>intro h12
       ·rw[Th h12] at hq10
        refine dg ae [0,1,0,7,15,0,32,0,224,480,1023,2047] [] (z ?_)
        obtain⟨j13,x13,en13,ex13,hq10⟩:=av hq10
        refine bI (cK _) en13 ex13 rfl (z ?_)
        obtain⟨j14,x14,en14,ex14,hq10⟩:=av hq10
        refine bI (cK _) en14 ex14 rfl (z ?_)
        obtain⟨v15,e15,hq10⟩:=aa hq10
        refine ce (ih e15) (z ?_)
        refine zm ?_ ?_<;>intro h16
        ·rw[Ti (nt h16)] at hq10
         cases hq10
         exact fc
        ·rw[Th h16] at hq10
         exact bk ⟨(n10,_),hq10⟩
       ·rw[Ti h12] at hq10
        refine aY rfl rfl ?_
        refine lg (α:=Nat×Int) ae (fun(nw,s1)=>(Qr (Oe n) a.c b.c nw s1=some r,⟨99,[(6,.int .i64 s1),(4,.bool false),(3,.ptr 1 0),(2,.ptr 0 0)]⟩,⟨[(1,.cells (cw b)),(0,.cells (cw a))],2,0,[],[]⟩,nw)) ⟨(_,_),hq10⟩ ?_
        rintro⟨n17,s1_17⟩ hq17
        dsimp only at hq17
        rcases n17 with _|n17
        ·(unfold Qr at hq17;cases hq17)
        unfold Qr at hq17
        refine z ?_
        obtain⟨hg18,hq17⟩:=ah hq17
        refine zd ?_ ?_<;>intro h19
        ·rw[Th h19] at hq17
         refine dg ae [0,1,0,7,15,31,0,64,0,448,960,1984,4095,8191,16383,32767,16383,131071,262143,524287,16383,1064959,16383,7356415,15745023,32522239,67108863,134217727,268435455] [] (z ?_)
         obtain⟨j20,x20,en20,ex20,hq17⟩:=av hq17
         refine bI (bB _) en20 ex20 rfl (z ?_)
         obtain⟨j21,x21,en21,ex21,hq17⟩:=av hq17
         refine bI (bB _) en21 ex21 rfl (z ?_)
         refine zn ?_ ?_<;>intro h22
         ·rw[Ti h22] at hq17
          cases hq17
          exact fc
         ·rw[Th h22] at hq17
          obtain⟨j23,x23,en23,ex23,hq17⟩:=av hq17
          refine bI (bB _) en23 ex23 rfl (z ?_)
          obtain⟨j24,x24,en24,ex24,hq17⟩:=av hq17
          refine bI (bB _) en24 ex24 rfl (z ?_)
          obtain⟨v25,e25,hq17⟩:=aa hq17
          refine ce (ih e25) (z ?_)
          refine zm ?_ ?_<;>intro h26
          ·rw[Ti (nt h26)] at hq17
           cases hq17
           exact fc
          ·rw[Th h26] at hq17
           exact bk ⟨(n17,_),hq17⟩
        ·rw[Ti h19] at hq17
         cases hq17
         exact fc
def rP (a b:aO):Option Bool:=Oe 20 a b
theorem pN {a b:aO} {r:Bool} (hm:rP a b=some r):Has Tryz.prog 12 [.agg (cw a),.agg (cw b)] fun s=>s= .bool r:=Rl hm
def K1 (a:List ba):Option (List ba):=MU.bind fun al=>mq al a
theorem Oy {a r:List ba} (hm:K1 a=some r):bj Tryz.prog 63 [.agg [aA a]] fun s=>s= .agg [aA r]:=by
 refine ht ae Tryz.f63 ?_
 unfold K1 at hm
 refine z ?_
 refine dg ae [0,0,3,7] [] (z ?_)
 obtain⟨v1,e1,hm⟩:=aa hm
 refine ce (Hg e1) (z ?_)
 replace hm:=aB hm
 obtain⟨v2,e2,hm⟩:=aa hm
 refine ct (ny e2) (z ?_)
 cases hm
 exact mst
def Ro (s:bX):Option Va:=plain ⟨false,s,[],[]⟩
theorem Og {s:bX} {r:Va} (hm:Ro s=some r):Has Tryz.prog 65 [.agg (cr s)] fun v=>v= .agg (eo r):=by
 refine hs ae Tryz.f65 ?_
 unfold Ro at hm
 refine z ?_
 replace hm:=aB hm
 obtain⟨v1,e1,hm⟩:=aa hm
 refine ce (ku e1) (z ?_)
 cases hm
 exact fc
theorem Ii {fs:List (dO Va)} {n:List ba} {other r:Va} (hm:plain ⟨false,bw,[],[⟨fs,[⟨n,other⟩]⟩]⟩=some r):Has Tryz.prog 21 [.agg [.bool false,.bool false,.bool false,.bool false,.aE false [],.aE false [],.aE false [],.aE false [],.aE false [[.aE false (fs.map (di aL)),.aE false [fA ⟨n,other⟩]]]]] fun s=>s= .agg (eo r):=by
 have h:=ku hm
 have e:cj aL ⟨false,bw,[],[⟨fs,[⟨n,other⟩]⟩]⟩=[.bool false,.bool false,.bool false,.bool false,.aE false [],.aE false [],.aE false [],.aE false [],.aE false [[.aE false (fs.map (di aL)),.aE false [fA ⟨n,other⟩]]]]:=by
  simp only[cj,aC,List.map,dN,fA,cP,bw,aW,aA]
 rwa [e] at h
def Qw (rec:aO->Option Va):List aO->List Va->Option Va
 |[],out=>plain ⟨false,bw,[⟨out,[]⟩],[]⟩
 |x::r,out=>(rec x).bind fun v=>(push out v).bind fun out=>Qw rec r out
def ofM (rec:aO->Option Va) (other:Va):List (Mem aO)->List (dO Va)->List ba->Option Va
 |[],out,fs=>(K1 fs).bind fun n=>plain ⟨false,bw,[],[⟨out,[⟨n,other⟩]⟩]⟩
 |m::r,out,fs=>(rec m.data).bind fun v=>(push out ⟨m.label,1,v⟩).bind fun out=>(oa m.label).bind fun w=>(Im fs w).bind fun fs=>ofM rec other r out fs
def Ju (other:Va):Nat->aO->Option Va
 |0,_=>none
 |n+1,d=>if d.c.kind=5 then(aN d.c.items).bind fun _=>Qw (Ju other n) d.c.items [] else if d.c.kind=6 then(aN d.c.members).bind fun _=>ofM (Ju other n) other d.c.members [] [] else(AP d).bind fun p=>Ro p.1
theorem RJ {other:Va}:∀{n:Nat} {d:aO} {r:Va} (hm:Ju other n d=some r),bj Tryz.prog 39 [.agg (cw d),.agg (eo other)] fun s=>s= .agg (eo r):=by
 intro n
 induction n with
 |zero=>intro d r hm;cases hm
 |succ n ih=>
  intro d r hm
  refine ht ae Tryz.f39 ?_
  unfold Ju at hm
  refine z ?_
  refine zd ?_ ?_<;>intro h1
  ·rw[Th h1] at hm
   obtain⟨hg2,hm⟩:=ah hm
   refine bJ 4 0 18 rfl rfl ?_
   refine lg (α:=Nat×List Va×Nat) ae (fun(iw,s1,ts1)=>(Qw (Ju other n) (List.drop iw d.c.items) s1=some r,⟨82,[(21,.int .i64 iw),(20,.int .i64 ↑d.c.items.length),(19,.aE false (List.map de d.c.items)),(5,.ptr 4 0),(4,.ptr 3 0),(3,.ptr 2 0),(2,.ptr 1 0)]⟩,⟨[(5,.row 18 (s1.map aL) ts1 false),(4,.cells [.own 5 ts1,.ax]),(3,.cells [.bool false,.bool false,.bool false,.bool false,.ax,.ax,.ax,.ax,.ax,.bool false,.bool false,.bool false,.bool false,.ax,.ax,.ax,.ax,.ax]),(2,.cells (eo other)),(1,.cells (cw d)),(0,aX)],6,0,[],[]⟩,List.length d.c.items-iw)) ⟨(0,_,(0)),hm⟩ ?_
   rintro⟨i3,s1_3,ts1_3⟩ hq3
   dsimp only at hq3
   refine z ?_
   refine zd ?_ ?_<;>intro h4
   ·obtain⟨x4,ex4,ed4⟩:=an h4
    rw[ed4,Qw] at hq3
    refine z ?_
    refine bC (cK _) ex4 rfl (z ?_)
    refine dg ae [0,1,0,0,12,28,63,127,255] [] (z ?_)
    obtain⟨v5,e5,hq3⟩:=aa hq3
    refine ct (ih e5) (z ?_)
    obtain⟨hg6,hq3⟩:=ay hq3
    refine z ?_
    refine aH v5 (cP _) (z ?_)
    exact bk ⟨(i3+1,_,(ts1_3+1)),hq3⟩
   ·rw[aq h4,Qw] at hq3
    replace hq3:=aB hq3
    obtain⟨v7,e7,hq3⟩:=aa hq3
    refine fJ (ku e7) (z ?_)
    cases hq3
    exact mst
  ·rw[Ti h1] at hm
   refine zd ?_ ?_<;>intro h8
   ·rw[Th h8] at hm
    obtain⟨hg9,hm⟩:=ah hm
    refine bJ 4 0 20 rfl rfl ?_
    refine iZ 5 0 rfl rfl ?_
    refine lg (α:=Nat×List (dO Va)×List ba×Nat) ae (fun(iw,s1,s2,ts1)=>(ofM (Ju other n) other (List.drop iw d.c.members) s1 s2=some r,⟨82,[(43,.int .i64 iw),(42,.int .i64 ↑d.c.members.length),(41,.aE false (List.map (jF de) d.c.members)),(9,.ptr 5 0),(8,.ptr 4 0),(4,.ptr 3 0),(3,.ptr 2 0),(2,.ptr 1 0)]⟩,⟨[(6,.row 20 (s1.map (di aL)) ts1 false),(5,.cells [aA s2]),(4,.cells [.own 6 ts1,.ax]),(3,.cells [.bool false,.bool false,.bool false,.bool false,.ax,.ax,.ax,.ax,.ax,.bool false,.bool false,.bool false,.bool false,.ax,.ax,.ax,.ax,.ax]),(2,.cells (eo other)),(1,.cells (cw d)),(0,aX)],7,0,[],[]⟩,List.length d.c.members-iw)) ⟨(0,_,_,(0)),hm⟩ ?_
    rintro⟨i10,s1_10,s2_10,ts1_10⟩ hq10
    dsimp only at hq10
    refine z ?_
    refine zd ?_ ?_<;>intro h11
    ·obtain⟨x11,ex11,ed11⟩:=an h11
     rw[ed11,ofM] at hq10
     refine z ?_
     refine bC (bB _) ex11 rfl (z ?_)
     refine dg ae [0,1,0,4,0,16,0,112,252,508,1023,2047,4095] [] (z ?_)
     obtain⟨v12,e12,hq10⟩:=aa hq10
     refine ct (ih e12) (z ?_)
     obtain⟨hg13,hq10⟩:=ay hq10
     refine z ?_
     refine aH ({label:=x11.label,fj:=1,val:=v12}) (cW _) (z ?_)
     refine dg ae [0,0,2,6,15,31] [] (z ?_)
     obtain⟨v14,e14,hq10⟩:=aa hq10
     refine ce (Fy e14) (z ?_)
     obtain⟨v15,e15,hq10⟩:=aa hq10
     refine ct (zG e15) (z ?_)
     exact bk ⟨(i10+1,_,_,(ts1_10+1)),hq10⟩
    ·rw[aq h11,ofM] at hq10
     refine dg ae [0,1,0,7,15,31,63] [] (z ?_)
     obtain⟨v16,e16,hq10⟩:=aa hq10
     refine ct (Oy e16) (z ?_)
     replace hq10:=aB hq10
     obtain⟨v17,e17,hq10⟩:=aa hq10
     refine fJ (Ii e17) (z ?_)
     cases hq10
     exact mst
   ·rw[Ti h8] at hm
    obtain⟨v18,e18,hm⟩:=aa hm
    refine ct (Em e18) (z ?_)
    replace hm:=aB hm
    obtain⟨v19,e19,hm⟩:=aa hm
    refine ce (Og e19) (z ?_)
    cases hm
    exact mst
def uE (d:aO) (other:Va):Option (Va×Int):=(lU d).bind fun e=>if e=0 then(Ju other 18 d).bind fun v=>(eQ v).bind fun ok=>if ok then mw v else some (pv,9) else some (pv,e)
theorem B3 {d:aO} {other:Va} {r:Va×Int} (hm:uE d other=some r):bj Tryz.prog 24 [.agg (cw d),.agg (eo other)] fun s=>s= .dT [.agg (eo r.1),.int .i64 r.2]:=by
 refine ht ae Tryz.f24 ?_
 unfold uE at hm
 refine z ?_
 obtain⟨v1,e1,hm⟩:=aa hm
 refine ce (As e1) (z ?_)
 refine zn ?_ ?_<;>intro h2
 rw[Ti h2] at hm
 cases hm
 refine aV (z ?_)
 exact mt
 rw[Th h2] at hm
 obtain⟨v3,e3,hm⟩:=aa hm
 refine ct (RJ e3) (z ?_)
 obtain⟨v4,e4,hm⟩:=aa hm
 refine ct (xo e4) (z ?_)
 refine zm ?_ ?_<;>intro h5
 rw[Ti (nt h5)] at hm
 cases hm
 refine aV (z ?_)
 exact mt
 rw[Th h5] at hm
 replace hm:=aB hm
 obtain⟨v6,e6,hm⟩:=aa hm
 refine ct (uD e6) (z ?_)
 cases hm
 exact mst
def PV (d:aO):Option (Va×Int):=uE d pv
theorem Aw {d:aO} {r:Va×Int} (hm:PV d=some r):bj Tryz.prog 8 [.agg (cw d)] fun s=>s= .dT [.agg (eo r.1),.int .i64 r.2]:=by
 refine ht ae Tryz.f8 ?_
 unfold PV at hm
 refine z ?_
 replace hm:=aB hm
 obtain⟨v1,e1,hm⟩:=aa hm
 refine ct (B3 e1) (z ?_)
 cases hm
 exact mst
def rD (d:aO):Option (Va×Int):=Q8.bind fun t=>uE d t
theorem yK {d:aO} {r:Va×Int} (hm:rD d=some r):bj Tryz.prog 9 [.agg (cw d)] fun s=>s= .dT [.agg (eo r.1),.int .i64 r.2]:=by
 refine ht ae Tryz.f9 ?_
 unfold rD at hm
 refine z ?_
 refine dg ae [0,0,3,7,7,31,63] [] (z ?_)
 obtain⟨v1,e1,hm⟩:=aa hm
 refine ce (NW e1) (z ?_)
 replace hm:=aB hm
 obtain⟨v2,e2,hm⟩:=aa hm
 refine ct (B3 e2) (z ?_)
 cases hm
 exact mst
theorem Pu {ll:List (List (aM Va))} {r:List (aM Va)} (hm:Pw ll=some r):Has Tryz.prog 58 [.aE false (ll.map (ig (aC aL)))] fun s=>s= .aE false (r.map (aC aL)):=by
 refine hs ae Tryz.f58 ?_
 unfold Pw at hm
 refine z ?_
 obtain⟨hg1,hm⟩:=ah hm
 obtain⟨v2,hv2,hm⟩:=aa hm
 refine lg (α:=Nat×Int) ae (fun(iw,s1)=>(IT (List.drop iw ll) s1=some v2,⟨36,[(11,.int .i64 iw),(10,.int .i64 ↑ll.length),(9,.aE false (List.map (ig (aC aL)) ll)),(3,.int .i64 s1),(2,.ax),(0,.aE false (List.map (ig (aC aL)) ll))]⟩,⟨[],0,0,[],[]⟩,List.length ll-iw)) ⟨(0,_),hv2⟩ ?_
 rintro⟨i2,s1_2⟩ hq2
 dsimp only at hq2
 refine z ?_
 refine zd ?_ ?_<;>intro h3
 obtain⟨x3,ex3,ed3⟩:=an h3
 rw[ed3,IT] at hq2
 refine z ?_
 obtain⟨hg4,hq2⟩:=ah hq2
 obtain⟨hg5,hq2⟩:=ah hq2
 refine bq ex3 rfl (z ?_)
 refine zd ?_ ?_<;>intro h6
 rw[Th h6] at hq2
 cases hq2
 rw[Ti h6] at hq2
 exact bk ⟨(i2+1,_),hq2⟩
 rw[aq h3,IT] at hq2
 cases hq2
 refine z ?_
 refine ci ae Tryz.f90 (z ?_)
 obtain⟨hg7,hm⟩:=ah hm
 refine zd ?_ ?_<;>intro h8
 rw[Th h8] at hm
 cases hm
 rw[Ti h8] at hm
 refine gL (z ?_)
 refine⟨by simp only[xd,Tr,T0,Tu,TQ,Tt];omega,?_⟩
 refine z ?_
 refine⟨by simp only[xd,Tr,T0,Tu,TQ,Tt];omega,?_⟩
 refine z ?_
 refine zd ?_ ?_<;>intro h9
 refine⟨v2.toNat,by simp only[T0] at*;omega,by simp only[T0] at*;omega,by omega,Di ?_⟩
 refine z ?_
 refine gL (z ?_)
 refine⟨0,rfl,TC _,MN (List.map (aC aL) []) rfl ?_⟩
 refine z ?_
 refine ei (z ?_)
 refine lg (α:=Nat×List (aM Va)×Nat) ae (fun(iw,s1,ts1)=>(wk (List.drop iw ll) s1=some r,⟨36,[(27,.int .i64 iw),(26,.int .i64 ↑ll.length),(25,.aE false (List.map (ig (aC aL)) ll)),(6,.own 0 ts1),(2,.ax)]⟩,⟨[(0,.row 2 (s1.map (aC aL)) ts1 false)],1,0,[],[]⟩,List.length ll-iw)) ⟨(0,_,(1)),hm⟩ ?_
 rintro⟨i10,s1_10,ts1_10⟩ hq10
 dsimp only at hq10
 refine z ?_
 refine zd ?_ ?_<;>intro h11
 obtain⟨x11,ex11,ed11⟩:=an h11
 rw[ed11,wk] at hq10
 refine z ?_
 refine bq ex11 rfl (z ?_)
 obtain⟨hg12,hq10⟩:=fS hq10
 refine z ?_
 refine lu (z ?_)
 exact bk ⟨(i10+1,_,(ts1_10+1)),hq10⟩
 rw[aq h11,wk] at hq10
 cases hq10
 refine dy (z ?_)
 first|exact e2|exact rfl
 refine z ?_
 refine ei (z ?_)
 refine cy 6 2 rfl ?_
 refine lg (α:=Nat×List (aM Va)×Nat) ae (fun(iw,s1,ts1)=>(wk (List.drop iw ll) s1=some r,⟨36,[(6,.own 0 ts1),(27,.int .i64 iw),(26,.int .i64 ↑ll.length),(25,.aE false (List.map (ig (aC aL)) ll)),(2,.ax)]⟩,⟨[(0,.row 2 (s1.map (aC aL)) ts1 false)],1,0,[],[]⟩,List.length ll-iw)) ⟨(0,_,(0)),hm⟩ ?_
 rintro⟨i13,s1_13,ts1_13⟩ hq13
 dsimp only at hq13
 refine z ?_
 refine zd ?_ ?_<;>intro h14
 obtain⟨x14,ex14,ed14⟩:=an h14
 rw[ed14,wk] at hq13
 refine z ?_
 refine bq ex14 rfl (z ?_)
 obtain⟨hg15,hq13⟩:=fS hq13
 refine z ?_
 refine lu (z ?_)
 exact bk ⟨(i13+1,_,(ts1_13+1)),hq13⟩
 rw[aq h14,wk] at hq13
 cases hq13
 refine dy (z ?_)
 first|exact e2|exact rfl
theorem IV {a b r:List (aM Va)} (hm:mJ a b=some r):Has Tryz.prog 58 [.aE false [[.aE false (a.map (aC aL))],[.aE false (b.map (aC aL))]]] fun s=>s= .aE false (r.map (aC aL)):=Pu (vy hm)
def unL:List (bG Va)->bX->List (bg Va)->List (aM Va)->Option (bG Va)
 |[],sc,ls,ss=>(mw (.mk ⟨false,sc,ls,ss⟩ zV)).bind fun p=>some p.1.v
 |v::r,sc,ls,ss=>if v.any then some ⟨true,bw,[],[]⟩ else(aN ls).bind fun _=>(aN v.lists).bind fun _=>(yf (ls.length+v.lists.length<1000000000)).bind fun _=>
   (Rx sc v.sc).bind fun sc=>(pS ls v.lists).bind fun ls=>(mJ ss v.structs).bind fun ss=>unL r sc ls ss
def y8 (l:List (bG Va)):Option (bG Va):=(aN l).bind fun _=>unL l bw [] []
theorem xl {l:List (bG Va)} {r:bG Va} (hm:y8 l=some r):bj Tryz.prog 37 [.aE false (l.map (cj aL))] fun s=>s= .agg (cj aL r):=by
 refine ht ae Tryz.f37 ?_
 unfold y8 at hm
 refine z ?_
 obtain⟨hg1,hm⟩:=ah hm
 refine iZ 2 4 rfl rfl ?_
 refine iZ 2 5 rfl rfl ?_
 refine iZ 2 6 rfl rfl ?_
 refine iZ 2 7 rfl rfl ?_
 refine iZ 2 8 rfl rfl ?_
 refine lg (α:=Nat×bX×List (bg Va)×List (aM Va)) ae (fun(iw,s1,s2,s3)=>(unL (List.drop iw l) s1 s2 s3=some r,⟨58,[(11,.int .i64 iw),(10,.int .i64 ↑l.length),(9,.aE false (List.map (cj aL) l)),(3,.ptr 2 0),(2,.ptr 1 0)]⟩,⟨[(2,.cells [.bool false,.bool s1.null,.bool s1.py,.bool s1.px,aW s1.ints,aW s1.bz,aA s1.strs,.aE false (s2.map (aQ aL)),.aE false (s3.map (aC aL))]),(1,.cells [.bool false,.bool false,.bool false,.bool false,.ax,.ax,.ax,.ax,.ax]),(0,aX)],3,0,[],[]⟩,List.length l-iw)) ⟨(0,_,_,_),hm⟩ ?_
 rintro⟨i2,s1_2,s2_2,s3_2⟩ hq2
 dsimp only at hq2
 refine z ?_
 refine zd ?_ ?_<;>intro h3
 obtain⟨x3,ex3,ed3⟩:=an h3
 rw[ed3,unL] at hq2
 refine z ?_
 refine bq ex3 rfl (z ?_)
 refine zr ?_ ?_<;>intro h4
 rw[Th h4] at hq2
 cases hq2
 refine aV (z ?_)
 exact mt
 rw[Ti (nt h4)] at hq2
 obtain⟨hg5,hq2⟩:=ah hq2
 obtain⟨hg6,hq2⟩:=ah hq2
 obtain⟨hg7,hq2⟩:=ah hq2
 refine z ?_
 refine⟨_,_,rfl,(Int.natCast_add _ _).symm,by omega,by omega,Di ?_⟩
 refine z ?_
 refine⟨by simp only[Tr,Ty],?_⟩
 refine z ?_
 refine Di (z ?_)
 refine dg ae [0,1,0,4,15,0,0,64,255,0,512,0,2048,7680,16383,32767,65535] [] (z ?_)
 obtain⟨v10,e10,hq2⟩:=aa hq2
 refine ct (KP e10) (z ?_)
 obtain⟨hg11,hq2⟩:=fS hq2
 refine z ?_
 refine lu (z ?_)
 obtain⟨v12,e12,hq2⟩:=aa hq2
 refine fJ (IV e12) (z ?_)
 refine vT rfl rfl ?_
 refine yQ 2 7 rfl rfl rfl ?_
 exact bk ⟨(i2+1,_,_,_),hq2⟩
 rw[aq h3,unL] at hq2
 obtain⟨v13,e13,hq2⟩:=aa hq2
 refine ct (uD e13) (z ?_)
 cases hq2
 exact mst
def EN (marks:List Bool) (sm:Bool):List Va->Int->List (bG Va)->List (bG Va)->Option (Va×Int)
 |[],_,al,pr=>(y8 al).bind fun v=>(y8 pr).bind fun d=>some (.mk v d,0)
 |x::r,i,al,pr=>(jW x).bind fun ok=>if ok then(push al x.v).bind fun al=>(cN marks i).bind fun m=>if m then(push pr x.d).bind fun pr=>EN marks sm r (i+1) al pr else if sm then EN marks sm r (i+1) al pr else(push pr x.d).bind fun pr=>EN marks sm r (i+1) al pr else some (pv,11)
def GU (l:List Va) (marks:List Bool):Option (Va×Int):=(aN l).bind fun _=>if(l.length:Int)=0 then some (pv,2) else(aN marks).bind fun _=>if(l.length:Int)=marks.length then(IX marks true).bind fun sm=>EN marks sm l 0 [] [] else some (pv,2)
theorem L7 {l:List Va} {marks:List Bool} {r:Va×Int} (hm:GU l marks=some r):bj Tryz.prog 20 [.aE false (l.map aL),.aE false (marks.map dd)] fun s=>s= .dT [.agg (eo r.1),.int .i64 r.2]:=by
 refine ht ae Tryz.f20 ?_
 unfold GU at hm
 refine z ?_
 obtain⟨hg1,hm⟩:=ah hm
 refine zd ?_ ?_<;>intro h2
 rw[Th h2] at hm
 cases hm
 refine aV (z ?_)
 exact mt
 rw[Ti h2] at hm
 obtain⟨hg3,hm⟩:=ah hm
 refine zn ?_ ?_<;>intro h4
 rw[Ti h4] at hm
 cases hm
 refine aV (z ?_)
 exact mt
 rw[Th h4] at hm
 obtain⟨v5,e5,hm⟩:=aa hm
 refine ce (Ai e5) (z ?_)
 refine cy 7 9 rfl ?_
 refine cy 8 9 rfl ?_
 refine lg (α:=Nat×List (bG Va)×List (bG Va)×Nat×Nat) ae (fun(iw,s1,s2,ts1,ts2)=>(EN marks v5 (List.drop iw l) (iw:Int) s1 s2=some r,⟨59,[(8,.own 3 ts2),(7,.own 2 ts1),(26,.int .i64 iw),(25,.int .i64 ↑l.length),(24,.aE false (List.map aL l)),(6,.bool v5),(5,.int .i64 0),(4,.ptr 1 0),(1,.aE false (List.map dd marks))]⟩,⟨[(3,.row 9 (s2.map (cj aL)) ts2 false),(2,.row 9 (s1.map (cj aL)) ts1 false),(1,.cells [.bool false,.bool false,.bool false,.bool false,.ax,.ax,.ax,.ax,.ax,.bool false,.bool false,.bool false,.bool false,.ax,.ax,.ax,.ax,.ax]),(0,aX)],4,0,[],[]⟩,List.length l-iw)) ⟨(0,_,_,(0),(0)),hm⟩ ?_
 rintro⟨i6,s1_6,s2_6,ts1_6,ts2_6⟩ hq6
 dsimp only at hq6
 refine z ?_
 refine zd ?_ ?_<;>intro h7
 obtain⟨x7,ex7,ed7⟩:=an h7
 rw[ed7,EN] at hq6
 refine z ?_
 refine bC (cP _) ex7 rfl (z ?_)
 obtain⟨v8,e8,hq6⟩:=aa hq6
 refine ct (kr e8) (z ?_)
 refine zm ?_ ?_<;>intro h9
 rw[Ti (nt h9)] at hq6
 cases hq6
 refine aV (z ?_)
 exact mt
 rw[Th h9] at hq6
 obtain⟨hg10,hq6⟩:=ay hq6
 refine z ?_
 refine aH x7.v rfl (z ?_)
 obtain⟨j11,x11,en11,ex11,hq6⟩:=av hq6
 refine bF en11 ex11 rfl (z ?_)
 refine zr ?_ ?_<;>intro h12
 rw[Th h12] at hq6
 obtain⟨hg13,hq6⟩:=ay hq6
 refine z ?_
 refine aH x7.d rfl (z ?_)
 exact bk ⟨(i6+1,_,_,(ts1_6+1),(ts2_6+1)),hq6⟩
 rw[Ti (nt h12)] at hq6
 refine zm ?_ ?_<;>intro h14
 rw[Ti (nt h14)] at hq6
 obtain⟨hg15,hq6⟩:=ay hq6
 refine z ?_
 refine aH x7.d rfl (z ?_)
 exact bk ⟨(i6+1,_,_,(ts1_6+1),(ts2_6+1)),hq6⟩
 rw[Th h14] at hq6
 exact bk ⟨(i6+1,_,_,(ts1_6+1),ts2_6),hq6⟩
 rw[aq h7,EN] at hq6
 obtain⟨v16,e16,hq6⟩:=aa hq6
 refine bH (xl e16) (z ?_)
 obtain⟨v17,e17,hq6⟩:=aa hq6
 refine bH (xl e17) (z ?_)
 cases hq6
 exact mst
/-! paths -/
def sgn (b:Bool):Option Int:=if b then some (-1) else some 1
theorem tJ {b:Bool} {r:Int} (hm:sgn b=some r):Has Tryz.prog 60 [.bool b] fun s=>s= .int .i64 r:=by
 refine hs ae Tryz.f60 ?_
 unfold sgn at hm
 refine z ?_
 refine zr ?_ ?_<;>intro h1
 rw[Th h1] at hm
 cases hm
 exact fc
 rw[Ti (nt h1)] at hm
 cases hm
 exact fc
def RE (a b:pz):Option Int:=if(decide (a.label=[])==decide (b.label=[])) then if a.label=b.label then if a.index=b.index then some 0 else sgn (decide (a.index<b.index)) else sgn (Op.bytesLess a.label b.label) else sgn (!decide (a.label=[]))
theorem Ou {a b:pz} {r:Int} (hm:RE a b=some r):Has Tryz.prog 59 [.agg (kd a),.agg (kd b)] fun s=>s= .int .i64 r:=by
 refine hs ae Tryz.f59 ?_
 unfold RE at hm
 refine z ?_
 refine zm ?_ ?_<;>intro h1
 rw[Ti (nt h1)] at hm
 replace hm:=aB hm
 obtain⟨v2,e2,hm⟩:=aa hm
 refine ce (tJ e2) (z ?_)
 cases hm
 exact fc
 rw[Th h1] at hm
 refine zn ?_ ?_<;>intro h3
 rw[Ti h3] at hm
 replace hm:=aB hm
 obtain⟨v4,e4,hm⟩:=aa hm
 refine ce (tJ e4) (z ?_)
 cases hm
 exact fc
 rw[Th h3] at hm
 refine zn ?_ ?_<;>intro h5
 rw[Ti h5] at hm
 replace hm:=aB hm
 obtain⟨v6,e6,hm⟩:=aa hm
 refine ce (tJ e6) (z ?_)
 cases hm
 exact fc
 rw[Th h5] at hm
 cases hm
 exact fc
def G1 (a b:List pz):Option Int:=(aN a).bind fun _=>(aN b).bind fun _=>if(a.length:Int)=b.length then some 0 else sgn (decide ((a.length:Int)<b.length))
def CZ (a b:List pz):Nat->Int->Option Int
 |0,_=>none
 |f+1,i=>(aN a).bind fun _=>if i<(a.length:Int) then(aN b).bind fun _=>if i<(b.length:Int) then(cN a i).bind fun x=>(cN b i).bind fun y=>(RE x y).bind fun n=>if n=0 then CZ a b f (i+1) else some n else G1 a b else G1 a b
def Sz (a b:List pz):Option Int:=CZ a b (a.length+1) 0
theorem PH {a b:List pz} {r:Int} (hm:Sz a b=some r):Has Tryz.prog 38 [.aE false (a.map kd),.aE false (b.map kd)] fun s=>s= .int .i64 r:=by
 refine hs ae Tryz.f38 ?_
 unfold Sz at hm
 refine z ?_
 refine lg (α:=Nat×Int) ae (fun(nw,s1)=>(CZ a b nw s1=some r,⟨42,[(5,.int .i64 s1),(4,.int .i64 0),(0,.aE false (List.map kd a)),(1,.aE false (List.map kd b))]⟩,⟨[],0,0,[],[]⟩,nw)) ⟨(_,_),hm⟩ ?_
 rintro⟨n1,s1_1⟩ hq1
 dsimp only at hq1
 rcases n1 with _|n1
 (unfold CZ at hq1;cases hq1)
 unfold CZ at hq1
 refine z ?_
 obtain⟨hg2,hq1⟩:=ah hq1
 refine zd ?_ ?_<;>intro h3
 rw[Th h3] at hq1
 obtain⟨hg4,hq1⟩:=ah hq1
 refine zd ?_ ?_<;>intro h5
 rw[Th h5] at hq1
 refine dg ae [0,0,3,7,0,0,48,112,255,511] [] (z ?_)
 obtain⟨j6,x6,en6,ex6,hq1⟩:=av hq1
 refine bF en6 ex6 rfl (z ?_)
 obtain⟨j7,x7,en7,ex7,hq1⟩:=av hq1
 refine bF en7 ex7 rfl (z ?_)
 obtain⟨v8,e8,hq1⟩:=aa hq1
 refine ce (Ou e8) (z ?_)
 refine zn ?_ ?_<;>intro h9
 rw[Ti h9] at hq1
 cases hq1
 exact fc
 rw[Th h9] at hq1
 exact bk ⟨(n1,_),hq1⟩
 rw[Ti h5] at hq1
 unfold G1 at hq1
 refine z ?_
 obtain⟨hg10,hq1⟩:=ah hq1
 obtain⟨hg11,hq1⟩:=ah hq1
 have h12:¬((↑a.length:Int)=↑b.length):=by omega
 refine bnt h12 (z ?_)
 rw[Ti h12] at hq1
 replace hq1:=aB hq1
 obtain⟨v13,e13,hq1⟩:=aa hq1
 refine ce (tJ e13) (z ?_)
 cases hq1
 exact fc
 rw[Ti h3] at hq1
 unfold G1 at hq1
 refine z ?_
 obtain⟨hg14,hq1⟩:=ah hq1
 obtain⟨hg15,hq1⟩:=ah hq1
 refine zn ?_ ?_<;>intro h16
 rw[Ti h16] at hq1
 replace hq1:=aB hq1
 obtain⟨v17,e17,hq1⟩:=aa hq1
 refine ce (tJ e17) (z ?_)
 cases hq1
 exact fc
 rw[Th h16] at hq1
 cases hq1
 exact fc
def Rr (a b:List pz):Option Bool:=(Sz a b).bind fun n=>some (decide (n=0))
theorem Oi {a b:List pz} {r:Bool} (hm:Rr a b=some r):Has Tryz.prog 23 [.aE false (a.map kd),.aE false (b.map kd)] fun s=>s= .bool r:=by
 refine hs ae Tryz.f23 ?_
 unfold Rr at hm
 refine z ?_
 obtain⟨v1,e1,hm⟩:=aa hm
 refine ce (PH e1) (z ?_)
 cases hm
 exact fc
def Is (n:Int):Option aO:=some (nY 3 n [])
theorem sV {n:Int} {r:aO} (hm:Is n=some r):Has Tryz.prog 19 [.int .i64 n] fun s=>s= .agg (cw r):=by
 refine hs ae Tryz.f19 ?_
 unfold Is at hm
 refine z ?_
 cases hm
 refine dy (z ?_)
 first|exact rfl|exact⟨rfl,rfl⟩
theorem IS {x y:Va} {a b:Bool} {r:Va×Int} (hm:GU [x,y] [a,b]=some r):bj Tryz.prog 20 [.aE false [eo x,eo y],.aE false [[.bool a],[.bool b]]] fun s=>s= .dT [.agg (eo r.1),.int .i64 r.2]:=by
 have h:=L7 hm
 rwa [show List.map aL [x,y]=[eo x,eo y] from by rw[List.map,List.map,List.map,cP,cP]] at h
theorem E8 {w:List UInt8} {n:aO} {r:Va×Int} (hm:rD (.mk ⟨6,0,[],[],[⟨w,n⟩]⟩)=some r):bj Tryz.prog 9 [.agg [.int .i64 6,.int .i64 0,.str [],.aE false [],.aE false [.str w::cw n]]] fun s=>s= .dT [.agg (eo r.1),.int .i64 r.2]:=by
 have h:=yK hm
 have e:cw (.mk ⟨6,0,[],[],[⟨w,n⟩]⟩)=[.int .i64 6,.int .i64 0,.str [],.aE false [],.aE false [.str w::cw n]]:=by
  show[SVal.int _ 6,.int _ 0,.str [],.aE false [],.aE false [.str w::de n]]=_
  rw[cK]
 rwa [e] at h
theorem Ij {w:List UInt8} {i:Int} {p:Va} {ks:List (dH Va)} {r:Va} (hm:plain ⟨false,bw,[],[⟨[⟨w,i,p⟩],ks⟩]⟩=some r):Has Tryz.prog 21 [.agg [.bool false,.bool false,.bool false,.bool false,.aE false [],.aE false [],.aE false [],.aE false [],.aE false [[.aE false [.str w:: .int .i64 i::eo p],.aE false (ks.map (dN aL))]]]] fun s=>s= .agg (eo r):=by
 have h:=ku hm
 have e:cj aL ⟨false,bw,[],[⟨[⟨w,i,p⟩],ks⟩]⟩=[.bool false,.bool false,.bool false,.bool false,.aE false [],.aE false [],.aE false [],.aE false [],.aE false [[.aE false [.str w:: .int .i64 i::eo p],.aE false (ks.map (dN aL))]]]:=by
  show[SVal.bool _,.bool _,.bool _,.bool _,.aE false [],.aE false [],.aE false [],.aE false [],.aE false [[.aE false [.str w:: .int .i64 i::aL p],_]]]=_
  rw[cP]
  rfl
 rwa [e] at h
def exQ (v:Va):Option Bool:=(plain ⟨false,⟨false,false,false,[⟨0,9⟩],[],[]⟩,[],[]⟩).bind fun p=>(cN v.v.structs 0).bind fun c0=>(plain ⟨false,bw,[],[⟨[⟨[97],1,p⟩],c0.az⟩]⟩).bind fun q=>
 (uk q true).bind fun l=>(aN l).bind fun _=>if(l.length:Int)=1 then(cN l 0).bind fun e=>if e.CF=14 then(cN l 0).bind fun e=>Rr e.path [⟨[97],0⟩] else some false else some false
def exP:Option Bool:=(Is 0).bind fun n0=>(rD (.mk ⟨6,0,[],[],[⟨[97],n0⟩]⟩)).bind fun v=>if v.2=0 then(aN v.1.v.structs).bind fun _=>if(v.1.v.structs.length:Int)=1 then exQ v.1 else some false else some false
def ka:Option Bool:=(Is 10000).bind fun n1=>(PV n1).bind fun one=>(Is 20000).bind fun n2=>(PV n2).bind fun two=>(GU [one.1,two.1] [true,false]).bind fun ei=>(vt ei.1 true).bind fun d=>
 if one.2=0 then if two.2=0 then if ei.2=0 then if d.2=0 then(Is 10000).bind fun n=>(rP d.1 n).bind fun ok=>if ok then exP else some false else some false else some false else some false else some false
theorem iS {r:Bool} (hm:ka=some r):bj Tryz.prog 7 [] fun s=>s= .bool r:=by
 refine ht ae Tryz.f7 ?_
 unfold ka at hm
 refine z ?_
 obtain⟨v1,e1,hm⟩:=aa hm
 refine ce (sV e1) (z ?_)
 obtain⟨v2,e2,hm⟩:=aa hm
 refine ct (Aw e2) (z ?_)
 obtain⟨v3,e3,hm⟩:=aa hm
 refine ce (sV e3) (z ?_)
 obtain⟨v4,e4,hm⟩:=aa hm
 refine ct (Aw e4) (z ?_)
 obtain⟨v5,e5,hm⟩:=aa hm
 refine bH (IS e5) (z ?_)
 obtain⟨v6,e6,hm⟩:=aa hm
 refine ct (vr e6) (z ?_)
 refine dg ae [0,1,3,7,15,31,63,127,255,511,1023,2047,4095,8191,16383,32767,32767,131071,262143,524287] [] (z ?_)
 refine zn ?_ ?_<;>intro h7
 rw[Ti h7] at hm
 cases hm
 exact mst
 rw[Th h7] at hm
 refine zn ?_ ?_<;>intro h8
 rw[Ti h8] at hm
 cases hm
 exact mst
 rw[Th h8] at hm
 refine zn ?_ ?_<;>intro h9
 rw[Ti h9] at hm
 cases hm
 exact mst
 rw[Th h9] at hm
 refine zn ?_ ?_<;>intro h10
 rw[Ti h10] at hm
 cases hm
 exact mst
 rw[Th h10] at hm
 obtain⟨v11,e11,hm⟩:=aa hm
 refine ce (sV e11) (z ?_)
 obtain⟨v12,e12,hm⟩:=aa hm
 refine ce (pN e12) (z ?_)
 refine zm ?_ ?_<;>intro h13
 rw[Ti (nt h13)] at hm
 cases hm
 exact mst
 rw[Th h13] at hm
 unfold exP at hm
 refine z ?_
 obtain⟨v14,e14,hm⟩:=aa hm
 refine ce (sV e14) (z ?_)
 obtain⟨v15,e15,hm⟩:=aa hm
 refine bH (E8 e15) (z ?_)
 refine zn ?_ ?_<;>intro h16
 rw[Ti h16] at hm
 cases hm
 exact mst
 rw[Th h16] at hm
 obtain⟨hg17,hm⟩:=ah hm
 refine zn ?_ ?_<;>intro h18
 rw[Ti h18] at hm
 cases hm
 exact mst
 rw[Th h18] at hm
 unfold exQ at hm
 refine z ?_
 refine dg ae [0,1,3,7,15,31,63,127,0,256,768,1792,3840,7936,16383,0,65535] [] (z ?_)
 obtain⟨v19,e19,hm⟩:=aa hm
 refine fJ (ku e19) (z ?_)
 obtain⟨j20,x20,en20,ex20,hm⟩:=av hm
 refine bF en20 ex20 rfl (z ?_)
 obtain⟨v21,e21,hm⟩:=aa hm
 refine fJ (Ij e21) (z ?_)
 obtain⟨v22,e22,hm⟩:=aa hm
 refine ct (xE e22) (z ?_)
 obtain⟨hg23,hm⟩:=ah hm
 refine zd ?_ ?_<;>intro h24
 rw[Th h24] at hm
 obtain⟨j25,x25,en25,ex25,hm⟩:=av hm
 refine bF en25 ex25 rfl (z ?_)
 refine zd ?_ ?_<;>intro h26
 rw[Th h26] at hm
 obtain⟨j27,x27,en27,ex27,hm⟩:=av hm
 refine bF en27 ex27 rfl (z ?_)
 replace hm:=aB hm
 obtain⟨v28,e28,hm⟩:=aa hm
 refine cm (Oi e28) rfl (z ?_)
 cases hm
 exact mst
 rw[Ti h26] at hm
 cases hm
 exact mst
 rw[Ti h24] at hm
 cases hm
 exact mst
def KA (u:Int):Option Bool:=if u>= -1000000000000000 then some (decide (u<=1000000000000000)) else some false
theorem Ol {u:Int} {r:Bool} (hm:KA u=some r):Has Tryz.prog 35 [.int .i64 u] fun s=>s= .bool r:=by
 refine hs ae Tryz.f35 ?_
 unfold KA at hm
 refine z ?_
 refine zd ?_ ?_<;>intro h1
 rw[Th h1] at hm
 cases hm
 exact fc
 rw[Ti h1] at hm
 cases hm
 exact fc
def plR (d:cJ aO):Option Bool:=(aN d.items).bind fun _=>(aN d.members).bind fun _=>if d.kind<1 then some false else if d.kind>6 then some false else
 if d.kind=2 then jk d else if d.kind=3 then jk d else
 if d.num=0 then if d.kind=4 then if(d.items.length:Int)=0 then some (decide ((d.members.length:Int)=0)) else some false else
  if d.str=[] then if d.kind=5 then some (decide ((d.members.length:Int)=0)) else if(d.items.length:Int)=0 then if d.kind=6 then some true else some (decide ((d.members.length:Int)=0)) else some false else some false
 else some false
theorem Rt {d:aO} {r:Bool} (hm:plR d.c=some r):Has Tryz.prog 34 [.agg (cw d)] fun s=>s= .bool r:=by
 refine hs ae Tryz.f34 ?_
 unfold plR at hm
 refine z ?_
 obtain⟨hg1,hm⟩:=ah hm
 obtain⟨hg2,hm⟩:=ah hm
 refine zd ?_ ?_<;>intro h3
 rw[Th h3] at hm
 cases hm
 exact fc
 rw[Ti h3] at hm
 refine zd ?_ ?_<;>intro h4
 rw[Th h4] at hm
 cases hm
 exact fc
 rw[Ti h4] at hm
 refine zn ?_ ?_<;>intro h5
 rw[Ti h5] at hm
 refine zn ?_ ?_<;>intro h6
 rw[Ti h6] at hm
 refine zn ?_ ?_<;>intro h7
 rw[Ti h7] at hm
 cases hm
 exact fc
 rw[Th h7] at hm
 refine zn ?_ ?_<;>intro h8
 rw[Ti h8] at hm
 refine zn ?_ ?_<;>intro h9
 rw[Ti h9] at hm
 cases hm
 exact fc
 rw[Th h9] at hm
 refine zd ?_ ?_<;>intro h10
 rw[Th h10] at hm
 have h11:¬((d.c.kind:Int)=6):=by omega
 refine Ax h11 (z ?_)
 cases hm
 exact fc
 rw[Ti h10] at hm
 refine zd ?_ ?_<;>intro h12
 rw[Th h12] at hm
 refine zd ?_ ?_<;>intro h13
 rw[Th h13] at hm
 cases hm
 exact fc
 rw[Ti h13] at hm
 cases hm
 exact fc
 rw[Ti h12] at hm
 cases hm
 exact fc
 rw[Th h8] at hm
 have h14:¬((d.c.kind:Int)=5):=by omega
 refine Ax h14 (z ?_)
 refine zd ?_ ?_<;>intro h15
 rw[Th h15] at hm
 have h16:¬((d.c.kind:Int)=6):=by omega
 refine Ax h16 (z ?_)
 cases hm
 exact fc
 rw[Ti h15] at hm
 cases hm
 exact fc
 rw[Th h6] at hm
 unfold jk at hm
 refine z ?_
 have h17:¬((d.c.kind:Int)=4):=by omega
 refine bnt h17 (z ?_)
 refine zn ?_ ?_<;>intro h18
 rw[Ti h18] at hm
 cases hm
 exact fc
 rw[Th h18] at hm
 have h19:¬((d.c.kind:Int)=5):=by omega
 refine Ax h19 (z ?_)
 refine zd ?_ ?_<;>intro h20
 rw[Th h20] at hm
 have h21:¬((d.c.kind:Int)=6):=by omega
 refine Ax h21 (z ?_)
 cases hm
 exact fc
 rw[Ti h20] at hm
 cases hm
 exact fc
 rw[Th h5] at hm
 unfold jk at hm
 refine z ?_
 have h22:¬((d.c.kind:Int)=4):=by omega
 refine bnt h22 (z ?_)
 refine zn ?_ ?_<;>intro h23
 rw[Ti h23] at hm
 cases hm
 exact fc
 rw[Th h23] at hm
 have h24:¬((d.c.kind:Int)=5):=by omega
 refine Ax h24 (z ?_)
 refine zd ?_ ?_<;>intro h25
 rw[Th h25] at hm
 have h26:¬((d.c.kind:Int)=6):=by omega
 refine Ax h26 (z ?_)
 cases hm
 exact fc
 rw[Ti h25] at hm
 cases hm
 exact fc
def DA (rec:aO->Int->Option Int) (level:Int) (l:List (Mem aO)):Nat->Int->Option Int
 |0,_=>none
 |f+1,i=>if i<(l.length:Int) then(cN l i).bind fun x=>(dV (level+1)).bind fun _=>(rec x.data (level+1)).bind fun e=>if e=0 then DA rec level l f (i+1) else some e else some 0
def DC (rec:aO->Int->Option Int) (level:Int) (l:List aO) (ms:List (Mem aO)):Nat->Int->Option Int
 |0,_=>none
 |f+1,i=>if i<(l.length:Int) then(cN l i).bind fun x=>(dV (level+1)).bind fun _=>(rec x (level+1)).bind fun e=>if e=0 then DC rec level l ms f (i+1) else some e else DA rec level ms (ms.length+1) 0
def DB (rec:aO->Int->Option Int) (level:Int) (l:List aO) (ms:List (Mem aO)):Nat->Int->Option Int
 |0,_=>none
 |f+1,i=>if i<(ms.length:Int) then(dV (i-1)).bind fun _=>(cN ms (i-1)).bind fun x=>(cN ms i).bind fun y=>if Op.bytesLess x.label y.label then DB rec level l ms f (i+1) else some 6 else DC rec level l ms (l.length+1) 0
def Ni (rec:aO->Int->Option Int) (level:Int) (d:cJ aO):Option Int:=(aN d.items).bind fun _=>(aN d.members).bind fun _=>DB rec level d.items d.members (d.members.length+1) 1
def rcC (rec:aO->Int->Option Int) (d:cJ aO) (level:Int):Option Int:=if level>16 then some 9 else(plR d).bind fun ok=>if ok then
  if d.kind=2 then if d.num=0 then Ni rec level d else if d.num=1 then Ni rec level d else some 1
  else if d.kind=3 then(KA d.num).bind fun ok=>if ok then Ni rec level d else some 1
  else Ni rec level d
 else some 11
def kW:Nat->aO->Int->Option Int
 |0,_,_=>none
 |n+1,d,level=>rcC (kW n) d.c level
theorem Ok:∀{n:Nat} {d:aO} {level r:Int} (hm:kW n d level=some r),Has Tryz.prog 18 [.agg (cw d),.int .i64 level] fun s=>s= .int .i64 r:=by
 intro n
 induction n with
 |zero=>intro d level r hm;cases hm
 |succ n ih=>
  intro d level r hm
  refine hs ae Tryz.f18 ?_
  unfold kW rcC at hm
  refine z ?_
  refine zd ?_ ?_<;>intro h1
  ·rw[Th h1] at hm
   cases hm
   exact fc
  ·rw[Ti h1] at hm
   obtain⟨v2,e2,hm⟩:=aa hm
   refine ce (Rt e2) (z ?_)
   refine zm ?_ ?_<;>intro h3
   ·rw[Ti (nt h3)] at hm
    cases hm
    exact fc
   ·rw[Th h3] at hm
    refine zd ?_ ?_<;>intro h4
    ·rw[Th h4] at hm
     refine zn ?_ ?_<;>intro h5
     ·rw[Ti h5] at hm
      refine zn ?_ ?_<;>intro h6
      ·rw[Ti h6] at hm
       cases hm
       exact fc
      ·rw[Th h6] at hm
       unfold Ni at hm
       refine z ?_
       obtain⟨hg7,hm⟩:=ah hm
       obtain⟨hg8,hm⟩:=ah hm
       have h9:¬((d.c.kind:Int)=3):=by omega
       refine Ax h9 (z ?_)
       refine lg (α:=Nat×Int) ae (fun(nw,s1)=>(DB (kW n) level d.c.items d.c.members nw s1=some r,⟨97,[(5,.int .i64 s1),(4,.int .i64 0),(2,.ptr 0 0),(1,.int .i64 level)]⟩,⟨[(0,.cells (cw d))],1,0,[],[]⟩,nw)) ⟨(_,_),hm⟩ ?_
       rintro⟨n10,s1_10⟩ hq10
       dsimp only at hq10
       rcases n10 with _|n10
       ·(unfold DB at hq10;cases hq10)
       unfold DB at hq10
       refine z ?_
       refine zd ?_ ?_<;>intro h11
       ·rw[Th h11] at hq10
        refine dg ae [0,1,0,4,15,31,63,0,128,0,896,1920,3968,8191] [] (z ?_)
        obtain⟨hg12,hq10⟩:=ah hq10
        refine z ?_
        obtain⟨j14,x14,en14,ex14,hq10⟩:=av hq10
        refine bI (bB _) en14 ex14 rfl (z ?_)
        obtain⟨j15,x15,en15,ex15,hq10⟩:=av hq10
        refine bI (bB _) en15 ex15 rfl (z ?_)
        refine zm ?_ ?_<;>intro h16
        ·rw[Ti (nt h16)] at hq10
         cases hq10
         exact fc
        ·rw[Th h16] at hq10
         exact bk ⟨(n10,_),hq10⟩
       ·rw[Ti h11] at hq10
        refine aY rfl rfl ?_
        refine lg (α:=Nat×Int) ae (fun(nw,s1)=>(DC (kW n) level d.c.items d.c.members nw s1=some r,⟨97,[(6,.int .i64 s1),(4,.int .i64 0),(2,.ptr 0 0),(1,.int .i64 level)]⟩,⟨[(0,.cells (cw d))],1,0,[],[]⟩,nw)) ⟨(_,_),hq10⟩ ?_
        rintro⟨n17,s1_17⟩ hq17
        dsimp only at hq17
        rcases n17 with _|n17
        ·(unfold DC at hq17;cases hq17)
        unfold DC at hq17
        refine z ?_
        refine zd ?_ ?_<;>intro h18
        ·rw[Th h18] at hq17
         obtain⟨j19,x19,en19,ka,hq17⟩:=av hq17
         refine bI (cK _) en19 ka rfl (z ?_)
         obtain⟨hg20,hq17⟩:=ah hq17
         refine z ?_
         obtain⟨v22,e22,hq17⟩:=aa hq17
         refine ce (ih e22) (z ?_)
         refine zn ?_ ?_<;>intro h23
         ·rw[Ti h23] at hq17
          cases hq17
          exact fc
         ·rw[Th h23] at hq17
          exact bk ⟨(n17,_),hq17⟩
        ·rw[Ti h18] at hq17
         refine aY rfl rfl ?_
         refine lg (α:=Nat×Int) ae (fun(nw,s1)=>(DA (kW n) level d.c.members nw s1=some r,⟨97,[(8,.int .i64 s1),(4,.int .i64 0),(2,.ptr 0 0),(1,.int .i64 level)]⟩,⟨[(0,.cells (cw d))],1,0,[],[]⟩,nw)) ⟨(_,_),hq17⟩ ?_
         rintro⟨n24,s1_24⟩ hq24
         dsimp only at hq24
         rcases n24 with _|n24
         ·(unfold DA at hq24;cases hq24)
         unfold DA at hq24
         refine z ?_
         refine zd ?_ ?_<;>intro h25
         ·rw[Th h25] at hq24
          obtain⟨j26,x26,en26,ex26,hq24⟩:=av hq24
          refine bI (bB _) en26 ex26 rfl (z ?_)
          obtain⟨hg27,hq24⟩:=ah hq24
          refine z ?_
          obtain⟨v29,e29,hq24⟩:=aa hq24
          refine ce (ih e29) (z ?_)
          refine zn ?_ ?_<;>intro h30
          ·rw[Ti h30] at hq24
           cases hq24
           exact fc
          ·rw[Th h30] at hq24
           exact bk ⟨(n24,_),hq24⟩
         ·rw[Ti h25] at hq24
          cases hq24
          exact fc
     ·rw[Th h5] at hm
      unfold Ni at hm
      refine z ?_
      obtain⟨hg31,hm⟩:=ah hm
      obtain⟨hg32,hm⟩:=ah hm
      have h33:¬((d.c.kind:Int)=3):=by omega
      refine Ax h33 (z ?_)
      refine lg (α:=Nat×Int) ae (fun(nw,s1)=>(DB (kW n) level d.c.items d.c.members nw s1=some r,⟨97,[(5,.int .i64 s1),(4,.int .i64 0),(2,.ptr 0 0),(1,.int .i64 level)]⟩,⟨[(0,.cells (cw d))],1,0,[],[]⟩,nw)) ⟨(_,_),hm⟩ ?_
      rintro⟨n34,s1_34⟩ hq34
      dsimp only at hq34
      rcases n34 with _|n34
      ·(unfold DB at hq34;cases hq34)
      unfold DB at hq34
      refine z ?_
      refine zd ?_ ?_<;>intro h35
      ·rw[Th h35] at hq34
       refine dg ae [0,1,0,4,15,31,63,0,128,0,896,1920,3968,8191] [] (z ?_)
       obtain⟨hg36,hq34⟩:=ah hq34
       refine z ?_
       obtain⟨j38,x38,en38,ex38,hq34⟩:=av hq34
       refine bI (bB _) en38 ex38 rfl (z ?_)
       obtain⟨j39,x39,en39,ex39,hq34⟩:=av hq34
       refine bI (bB _) en39 ex39 rfl (z ?_)
       refine zm ?_ ?_<;>intro h40
       ·rw[Ti (nt h40)] at hq34
        cases hq34
        exact fc
       ·rw[Th h40] at hq34
        exact bk ⟨(n34,_),hq34⟩
      ·rw[Ti h35] at hq34
       refine aY rfl rfl ?_
       refine lg (α:=Nat×Int) ae (fun(nw,s1)=>(DC (kW n) level d.c.items d.c.members nw s1=some r,⟨97,[(6,.int .i64 s1),(4,.int .i64 0),(2,.ptr 0 0),(1,.int .i64 level)]⟩,⟨[(0,.cells (cw d))],1,0,[],[]⟩,nw)) ⟨(_,_),hq34⟩ ?_
       rintro⟨n41,s1_41⟩ hq41
       dsimp only at hq41
       rcases n41 with _|n41
       ·(unfold DC at hq41;cases hq41)
       unfold DC at hq41
       refine z ?_
       refine zd ?_ ?_<;>intro h42
       ·rw[Th h42] at hq41
        obtain⟨j43,x43,en43,ex43,hq41⟩:=av hq41
        refine bI (cK _) en43 ex43 rfl (z ?_)
        obtain⟨hg44,hq41⟩:=ah hq41
        refine z ?_
        obtain⟨v46,e46,hq41⟩:=aa hq41
        refine ce (ih e46) (z ?_)
        refine zn ?_ ?_<;>intro h47
        ·rw[Ti h47] at hq41
         cases hq41
         exact fc
        ·rw[Th h47] at hq41
         exact bk ⟨(n41,_),hq41⟩
       ·rw[Ti h42] at hq41
        refine aY rfl rfl ?_
        refine lg (α:=Nat×Int) ae (fun(nw,s1)=>(DA (kW n) level d.c.members nw s1=some r,⟨97,[(8,.int .i64 s1),(4,.int .i64 0),(2,.ptr 0 0),(1,.int .i64 level)]⟩,⟨[(0,.cells (cw d))],1,0,[],[]⟩,nw)) ⟨(_,_),hq41⟩ ?_
        rintro⟨n48,s1_48⟩ hq48
        dsimp only at hq48
        rcases n48 with _|n48
        ·(unfold DA at hq48;cases hq48)
        unfold DA at hq48
        refine z ?_
        refine zd ?_ ?_<;>intro h49
        ·rw[Th h49] at hq48
         obtain⟨j50,x50,en50,ex50,hq48⟩:=av hq48
         refine bI (bB _) en50 ex50 rfl (z ?_)
         obtain⟨hg51,hq48⟩:=ah hq48
         refine z ?_
         obtain⟨v53,e53,hq48⟩:=aa hq48
         refine ce (ih e53) (z ?_)
         refine zn ?_ ?_<;>intro h54
         ·rw[Ti h54] at hq48
          cases hq48
          exact fc
         ·rw[Th h54] at hq48
          exact bk ⟨(n48,_),hq48⟩
        ·rw[Ti h49] at hq48
         cases hq48
         exact fc
    ·rw[Ti h4] at hm
     refine zd ?_ ?_<;>intro h55
     ·rw[Th h55] at hm
      obtain⟨v56,e56,hm⟩:=aa hm
      refine ce (Ol e56) (z ?_)
      refine zm ?_ ?_<;>intro h57
      ·rw[Ti (nt h57)] at hm
       cases hm
       exact fc
      ·rw[Th h57] at hm
       unfold Ni at hm
       refine z ?_
       obtain⟨hg58,hm⟩:=ah hm
       obtain⟨hg59,hm⟩:=ah hm
       refine lg (α:=Nat×Int) ae (fun(nw,s1)=>(DB (kW n) level d.c.items d.c.members nw s1=some r,⟨97,[(5,.int .i64 s1),(4,.int .i64 0),(2,.ptr 0 0),(1,.int .i64 level)]⟩,⟨[(0,.cells (cw d))],1,0,[],[]⟩,nw)) ⟨(_,_),hm⟩ ?_
       rintro⟨n60,s1_60⟩ hq60
       dsimp only at hq60
       rcases n60 with _|n60
       ·(unfold DB at hq60;cases hq60)
       unfold DB at hq60
       refine z ?_
       refine zd ?_ ?_<;>intro h61
       ·rw[Th h61] at hq60
        refine dg ae [0,1,0,4,15,31,63,0,128,0,896,1920,3968,8191] [] (z ?_)
        obtain⟨hg62,hq60⟩:=ah hq60
        refine z ?_
        obtain⟨j64,x64,en64,ex64,hq60⟩:=av hq60
        refine bI (bB _) en64 ex64 rfl (z ?_)
        obtain⟨j65,x65,en65,ex65,hq60⟩:=av hq60
        refine bI (bB _) en65 ex65 rfl (z ?_)
        refine zm ?_ ?_<;>intro h66
        ·rw[Ti (nt h66)] at hq60
         cases hq60
         exact fc
        ·rw[Th h66] at hq60
         exact bk ⟨(n60,_),hq60⟩
       ·rw[Ti h61] at hq60
        refine aY rfl rfl ?_
        refine lg (α:=Nat×Int) ae (fun(nw,s1)=>(DC (kW n) level d.c.items d.c.members nw s1=some r,⟨97,[(6,.int .i64 s1),(4,.int .i64 0),(2,.ptr 0 0),(1,.int .i64 level)]⟩,⟨[(0,.cells (cw d))],1,0,[],[]⟩,nw)) ⟨(_,_),hq60⟩ ?_
        rintro⟨n67,s1_67⟩ hq67
        dsimp only at hq67
        rcases n67 with _|n67
        ·(unfold DC at hq67;cases hq67)
        unfold DC at hq67
        refine z ?_
        refine zd ?_ ?_<;>intro h68
        ·rw[Th h68] at hq67
         obtain⟨j69,x69,en69,ex69,hq67⟩:=av hq67
         refine bI (cK _) en69 ex69 rfl (z ?_)
         obtain⟨hg70,hq67⟩:=ah hq67
         refine z ?_
         obtain⟨v72,e72,hq67⟩:=aa hq67
         refine ce (ih e72) (z ?_)
         refine zn ?_ ?_<;>intro h73
         ·rw[Ti h73] at hq67
          cases hq67
          exact fc
         ·rw[Th h73] at hq67
          exact bk ⟨(n67,_),hq67⟩
        ·rw[Ti h68] at hq67
         refine aY rfl rfl ?_
         refine lg (α:=Nat×Int) ae (fun(nw,s1)=>(DA (kW n) level d.c.members nw s1=some r,⟨97,[(8,.int .i64 s1),(4,.int .i64 0),(2,.ptr 0 0),(1,.int .i64 level)]⟩,⟨[(0,.cells (cw d))],1,0,[],[]⟩,nw)) ⟨(_,_),hq67⟩ ?_
         rintro⟨n74,s1_74⟩ hq74
         dsimp only at hq74
         rcases n74 with _|n74
         ·(unfold DA at hq74;cases hq74)
         unfold DA at hq74
         refine z ?_
         refine zd ?_ ?_<;>intro h75
         ·rw[Th h75] at hq74
          obtain⟨j76,x76,en76,ex76,hq74⟩:=av hq74
          refine bI (bB _) en76 ex76 rfl (z ?_)
          obtain⟨hg77,hq74⟩:=ah hq74
          refine z ?_
          obtain⟨v79,e79,hq74⟩:=aa hq74
          refine ce (ih e79) (z ?_)
          refine zn ?_ ?_<;>intro h80
          ·rw[Ti h80] at hq74
           cases hq74
           exact fc
          ·rw[Th h80] at hq74
           exact bk ⟨(n74,_),hq74⟩
         ·rw[Ti h75] at hq74
          cases hq74
          exact fc
     ·rw[Ti h55] at hm
      unfold Ni at hm
      refine z ?_
      obtain⟨hg81,hm⟩:=ah hm
      obtain⟨hg82,hm⟩:=ah hm
      refine lg (α:=Nat×Int) ae (fun(nw,s1)=>(DB (kW n) level d.c.items d.c.members nw s1=some r,⟨97,[(5,.int .i64 s1),(4,.int .i64 0),(2,.ptr 0 0),(1,.int .i64 level)]⟩,⟨[(0,.cells (cw d))],1,0,[],[]⟩,nw)) ⟨(_,_),hm⟩ ?_
      rintro⟨n83,s1_83⟩ hq83
      dsimp only at hq83
      rcases n83 with _|n83
      ·(unfold DB at hq83;cases hq83)
      unfold DB at hq83
      refine z ?_
      refine zd ?_ ?_<;>intro h84
      ·rw[Th h84] at hq83
       refine dg ae [0,1,0,4,15,31,63,0,128,0,896,1920,3968,8191] [] (z ?_)
       obtain⟨hg85,hq83⟩:=ah hq83
       refine z ?_
       obtain⟨j87,x87,en87,ex87,hq83⟩:=av hq83
       refine bI (bB _) en87 ex87 rfl (z ?_)
       obtain⟨j88,x88,en88,ex88,hq83⟩:=av hq83
       refine bI (bB _) en88 ex88 rfl (z ?_)
       refine zm ?_ ?_<;>intro h89
       ·rw[Ti (nt h89)] at hq83
        cases hq83
        exact fc
       ·rw[Th h89] at hq83
        exact bk ⟨(n83,_),hq83⟩
      ·rw[Ti h84] at hq83
       refine aY rfl rfl ?_
       refine lg (α:=Nat×Int) ae (fun(nw,s1)=>(DC (kW n) level d.c.items d.c.members nw s1=some r,⟨97,[(6,.int .i64 s1),(4,.int .i64 0),(2,.ptr 0 0),(1,.int .i64 level)]⟩,⟨[(0,.cells (cw d))],1,0,[],[]⟩,nw)) ⟨(_,_),hq83⟩ ?_
       rintro⟨n90,s1_90⟩ hq90
       dsimp only at hq90
       rcases n90 with _|n90
       ·(unfold DC at hq90;cases hq90)
       unfold DC at hq90
       refine z ?_
       refine zd ?_ ?_<;>intro h91
       ·rw[Th h91] at hq90
        obtain⟨j92,x92,en92,ex92,hq90⟩:=av hq90
        refine bI (cK _) en92 ex92 rfl (z ?_)
        obtain⟨hg93,hq90⟩:=ah hq90
        refine z ?_
        obtain⟨v95,e95,hq90⟩:=aa hq90
        refine ce (ih e95) (z ?_)
        refine zn ?_ ?_<;>intro h96
        ·rw[Ti h96] at hq90
         cases hq90
         exact fc
        ·rw[Th h96] at hq90
         exact bk ⟨(n90,_),hq90⟩
       ·rw[Ti h91] at hq90
        refine aY rfl rfl ?_
        refine lg (α:=Nat×Int) ae (fun(nw,s1)=>(DA (kW n) level d.c.members nw s1=some r,⟨97,[(8,.int .i64 s1),(4,.int .i64 0),(2,.ptr 0 0),(1,.int .i64 level)]⟩,⟨[(0,.cells (cw d))],1,0,[],[]⟩,nw)) ⟨(_,_),hq90⟩ ?_
        rintro⟨n97,s1_97⟩ hq97
        dsimp only at hq97
        rcases n97 with _|n97
        ·(unfold DA at hq97;cases hq97)
        unfold DA at hq97
        refine z ?_
        refine zd ?_ ?_<;>intro h98
        ·rw[Th h98] at hq97
         obtain⟨j99,x99,en99,ex99,hq97⟩:=av hq97
         refine bI (bB _) en99 ex99 rfl (z ?_)
         obtain⟨hg100,hq97⟩:=ah hq97
         refine z ?_
         obtain⟨v102,e102,hq97⟩:=aa hq97
         refine ce (ih e102) (z ?_)
         refine zn ?_ ?_<;>intro h103
         ·rw[Ti h103] at hq97
          cases hq97
          exact fc
         ·rw[Th h103] at hq97
          exact bk ⟨(n97,_),hq97⟩
        ·rw[Ti h98] at hq97
         cases hq97
         exact fc
def Ic (d:aO):Option Int:=kW 18 d 1
theorem zD {d:aO} {r:Int} (hm:Ic d=some r):Has Tryz.prog 6 [.agg (cw d)] fun s=>s= .int .i64 r:=by
 refine hs ae Tryz.f6 ?_
 unfold Ic at hm
 refine z ?_
 replace hm:=aB hm
 obtain⟨v1,e1,hm⟩:=aa hm
 refine ce (Ok e1) (z ?_)
 cases hm
 exact fc
def isC (x:Va):Option Bool:=(uk x true).bind fun l=>some (decide ((l.length:Int)=0))
theorem Lr {x:Va} {r:Bool} (hm:isC x=some r):bj Tryz.prog 13 [.agg (eo x)] fun s=>s= .bool r:=by
 refine ht ae Tryz.f13 ?_
 unfold isC at hm
 refine z ?_
 obtain⟨v1,e1,hm⟩:=aa hm
 refine ct (xE e1) (z ?_)
 cases hm
 exact mst
def yg (v:bG Va):Option Bool:=jW (.mk v zV)
theorem LJ {v:bG Va} {r:Bool} (hm:yg v=some r):bj Tryz.prog 31 [.agg (cj aL v)] fun s=>s= .bool r:=by
 refine ht ae Tryz.f31 ?_
 unfold yg at hm
 refine z ?_
 replace hm:=aB hm
 obtain⟨v1,e1,hm⟩:=aa hm
 refine ct (kr e1) (z ?_)
 cases hm
 exact mst
def nW (s:bX) (d:aO):Option Bool:=(AP d).bind fun p=>if p.2=0 then dA p.1 s else some false
theorem O3 {s:bX} {d:aO} {r:Bool} (hm:nW s d=some r):bj Tryz.prog 47 [.agg (cr s),.agg (cw d)] fun s=>s= .bool r:=by
 refine ht ae Tryz.f47 ?_
 unfold nW at hm
 refine z ?_
 obtain⟨v1,e1,hm⟩:=aa hm
 refine ct (Em e1) (z ?_)
 refine zd ?_ ?_<;>intro h2
 rw[Th h2] at hm
 replace hm:=aB hm
 obtain⟨v3,e3,hm⟩:=aa hm
 refine ct (oH e3) (z ?_)
 cases hm
 exact mst
 rw[Ti h2] at hm
 cases hm
 exact mst
theorem RV {fn:FuncId} {cap:List SVal} (hc:aw cap=true) (hw:cG cap=cap) {g:Mem aO->Option Bool} (hg:∀{x r},g x=some r->Has Tryz.prog fn (.agg (HH x)::cap) fun s=>s= .bool r) {l:List (Mem aO)} {r:Int} (hm:oV g l=some r):Has Tryz.prog 112 [.aE false (l.map (jF de)),.func (.func fn) [] cap] fun s=>s= .int .i64 r:=by
 refine hs ae Tryz.f112 ?_
 unfold oV at hm
 refine z ?_
 obtain⟨hg1,hm⟩:=ah hm
 refine lg (α:=Nat) ae (fun iw=>(fg g (List.drop iw l) (iw:Int)=some r,⟨19,[(8,.int .i64 iw),(7,.int .i64 ↑l.length),(4,.int .i64 0),(0,.aE false (List.map (jF de) l)),(1,.func (.func fn) [] cap)]⟩,⟨[],0,0,[],[]⟩,List.length l-iw)) ⟨(0),hm⟩ ?_
 intro i2 hq2
 dsimp only at hq2
 refine z ?_
 refine zd ?_ ?_<;>intro h3
 obtain⟨x3,ex3,ed3⟩:=an h3
 rw[ed3,fg] at hq2
 refine z ?_
 refine bC (bB _) ex3 rfl (z ?_)
 obtain⟨v4,e4,hq2⟩:=aa hq2
 refine kK (hg e4) (by(simp only[cG,kp,hw];try rfl)) (z ?_)
 refine zr ?_ ?_<;>intro h5
 rw[Th h5] at hq2
 cases hq2
 exact fc
 rw[Ti (nt h5)] at hq2
 exact bk ⟨i2+1,hq2⟩
 rw[aq h3,fg] at hq2
 cases hq2
 exact fc
theorem Ss {fn:FuncId} {cap:List SVal} (hc:aw cap=true) (hw:cG cap=cap) {g:Mem aO->Option Bool} (hg:∀{x r},g x=some r->Has Tryz.prog fn (.agg (HH x)::cap) fun s=>s= .bool r) {l:List (Mem aO)} {r:Bool} (hm:lT g l=some r):Has Tryz.prog 84 [.aE false (l.map (jF de)),.func (.func fn) [] cap] fun s=>s= .bool r:=by
 refine hs ae Tryz.f84 ?_
 unfold lT at hm
 refine z ?_
 obtain⟨v1,e1,hm⟩:=aa hm
 refine ce (RV hc hw hg e1) (z ?_)
 cases hm
 exact fc
def perm (c:bg Va) (d:cJ aO):Option Bool:=(aN d.items).bind fun _=>(aN c.items).bind fun _=>if(d.items.length:Int)=c.items.length then some true else if(d.items.length:Int)>c.items.length then some (decide ((c.rest.length:Int)>0)) else some false
theorem On {c:bg Va} {d:aO} {r:Bool} (hm:perm c d.c=some r):Has Tryz.prog 50 [.agg (aQ aL c),.agg (cw d)] fun s=>s= .bool r:=by
 refine hs ae Tryz.f50 ?_
 unfold perm at hm
 refine z ?_
 obtain⟨hg1,hm⟩:=ah hm
 obtain⟨hg2,hm⟩:=ah hm
 refine zd ?_ ?_<;>intro h3
 rw[Th h3] at hm
 cases hm
 exact fc
 rw[Ti h3] at hm
 refine zd ?_ ?_<;>intro h4
 rw[Th h4] at hm
 cases hm
 exact fc
 rw[Ti h4] at hm
 cases hm
 exact fc
abbrev M8 (rec:bG Va->aO->Option Bool):Prop:=∀{v d r},rec v d=some r->bj Tryz.prog 33 [.agg (cj aL v),.agg (cw d)] fun s=>s= .bool r
def QE (rec:bG Va->aO->Option Bool) (c:bg Va):List aO->Int->List Int->Option (List Int)
 |[],_,out=>some out
 |x::r,i,out=>(item c i).bind fun p=>(rec p.1.v x).bind fun h=>if h then QE rec c r (i+1) out else(push out i).bind fun out=>QE rec c r (i+1) out
def itM (rec:bG Va->aO->Option Bool) (c:bg Va) (d:cJ aO):Option (List Int):=(aN d.items).bind fun _=>QE rec c d.items 0 []
theorem RY {rec:bG Va->aO->Option Bool} (h:M8 rec) {c:bg Va} {d:aO} {r:List Int} (hm:itM rec c d.c=some r):bj Tryz.prog 51 [.agg (aQ aL c),.agg (cw d)] fun s=>s= .aE false (r.map bM):=by
 refine ht ae Tryz.f51 ?_
 unfold itM at hm
 refine z ?_
 obtain⟨hg1,hm⟩:=ah hm
 refine cy 5 1 rfl ?_
 refine lg (α:=Nat×List Int×Nat) ae (fun(iw,s1,ts1)=>(QE rec c (List.drop iw d.c.items) (iw:Int) s1=some r,⟨35,[(5,.own 3 ts1),(13,.int .i64 iw),(12,.int .i64 ↑d.c.items.length),(11,.aE false (List.map de d.c.items)),(4,.ax),(2,.ptr 1 0)]⟩,⟨[(3,.row 1 (s1.map bM) ts1 false),(2,.cells (cw d)),(1,.cells (aQ aL c)),(0,aX)],4,0,[],[]⟩,List.length d.c.items-iw)) ⟨(0,_,(0)),hm⟩ ?_
 rintro⟨i2,s1_2,ts1_2⟩ hq2
 dsimp only at hq2
 refine z ?_
 refine zd ?_ ?_<;>intro h3
 obtain⟨x3,ex3,ed3⟩:=an h3
 rw[ed3,QE] at hq2
 refine z ?_
 refine bC (cK _) ex3 rfl (z ?_)
 obtain⟨v4,e4,hq2⟩:=aa hq2
 refine ce (zY e4) (z ?_)
 obtain⟨v5,e5,hq2⟩:=aa hq2
 refine ct (h e5) (z ?_)
 refine zm ?_ ?_<;>intro h6
 rw[Ti (nt h6)] at hq2
 obtain⟨hg7,hq2⟩:=ay hq2
 refine z ?_
 refine aH (↑i2) rfl (z ?_)
 exact bk ⟨(i2+1,_,(ts1_2+1)),hq2⟩
 rw[Th h6] at hq2
 exact bk ⟨(i2+1,_,ts1_2),hq2⟩
 rw[aq h3,QE] at hq2
 cases hq2
 refine aV (z ?_)
 exact mt
theorem RR {m:Mem aO} {f:dO Va} {r:Bool} (hm:some (decide (m.label=f.label))=some r):Has Tryz.prog 85 [.agg (HH m),.bN (lK f) 0] fun s=>s= .bool r:=by
 refine hs ae Tryz.f85 (z ?_)
 cases hm
 exact fc
def No (ms:List (Mem aO)):List (dO Va)->List (List UInt8)->Option (List (List UInt8))
 |[],out=>some out
 |f::r,out=>(lT (fun m=>some (decide (m.label=f.label))) ms).bind fun c=>if c then No ms r out else(push out f.label).bind fun out=>No ms r out
def miM (c:aM Va) (d:cJ aO):Option (List (List UInt8)):=(aN c.fields).bind fun _=>No d.members c.fields []
theorem RQ {c:aM Va} {d:aO} {r:List (List UInt8)} (hm:miM c d.c=some r):Has Tryz.prog 54 [.agg (aC aL c),.agg (cw d)] fun s=>s= .aE false (r.map lj):=by
 refine hs ae Tryz.f54 ?_
 unfold miM at hm
 refine z ?_
 obtain⟨hg1,hm⟩:=ah hm
 refine cy 5 1 rfl ?_
 refine lg (α:=Nat×List (List UInt8)×Nat) ae (fun(iw,s1,ts1)=>(No d.c.members (List.drop iw c.fields) s1=some r,⟨27,[(5,.own 2 ts1),(11,.int .i64 iw),(10,.int .i64 ↑c.fields.length),(9,.aE false (List.map (di aL) c.fields)),(4,.ax),(3,.ptr 1 0)]⟩,⟨[(2,.row 1 (s1.map lj) ts1 false),(1,.cells (cw d)),(0,.cells (aC aL c))],3,0,[],[]⟩,List.length c.fields-iw)) ⟨(0,_,(0)),hm⟩ ?_
 rintro⟨i2,s1_2,ts1_2⟩ hq2
 dsimp only at hq2
 refine z ?_
 refine zd ?_ ?_<;>intro h3
 obtain⟨x3,ex3,ed3⟩:=an h3
 rw[ed3,No] at hq2
 refine z ?_
 refine bC (cW _) ex3 rfl (z ?_)
 obtain⟨v4,e4,hq2⟩:=aa hq2
 refine cm (Ss (by simp only[aw,closed,aG,cM,bK,b6,eC,cl,dx,Tq]) rfl RR e4) rfl (z ?_)
 refine zm ?_ ?_<;>intro h5
 rw[Ti (nt h5)] at hq2
 obtain⟨hg6,hq2⟩:=ay hq2
 refine z ?_
 refine aH x3.label rfl (z ?_)
 exact bk ⟨(i2+1,_,(ts1_2+1)),hq2⟩
 rw[Th h5] at hq2
 exact bk ⟨(i2+1,_,ts1_2),hq2⟩
 rw[aq h3,No] at hq2
 cases hq2
 refine dy (z ?_)
 first|exact e2|exact rfl
def Sd (rec:bG Va->aO->Option Bool) (c:aM Va):List (Mem aO)->Option Bool
 |[]=>some true
 |m::r=>(view c m.label).bind fun p=>(rec p.1.v m.data).bind fun h=>if h then Sd rec c r else some false
def fiM (rec:bG Va->aO->Option Bool) (c:aM Va) (d:cJ aO):Option Bool:=(aN d.members).bind fun _=>Sd rec c d.members
theorem Sc {rec:bG Va->aO->Option Bool} (h:M8 rec) {c:aM Va} {d:aO} {r:Bool} (hm:fiM rec c d.c=some r):bj Tryz.prog 55 [.agg (aC aL c),.agg (cw d)] fun s=>s= .bool r:=by
 refine ht ae Tryz.f55 ?_
 unfold fiM at hm
 refine z ?_
 obtain⟨hg1,hm⟩:=ah hm
 refine lg (α:=Nat) ae (fun iw=>(Sd rec c (List.drop iw d.c.members)=some r,⟨30,[(12,.int .i64 iw),(11,.int .i64 ↑d.c.members.length),(10,.aE false (List.map (jF de) d.c.members)),(4,.bool false),(2,.ptr 1 0)]⟩,⟨[(2,.cells (cw d)),(1,.cells (aC aL c)),(0,aX)],3,0,[],[]⟩,List.length d.c.members-iw)) ⟨(0),hm⟩ ?_
 intro i2 hq2
 dsimp only at hq2
 refine z ?_
 refine zd ?_ ?_<;>intro h3
 obtain⟨x3,ex3,ed3⟩:=an h3
 rw[ed3,Sd] at hq2
 refine z ?_
 refine bC (bB _) ex3 rfl (z ?_)
 obtain⟨v4,e4,hq2⟩:=aa hq2
 refine ce (pD e4) (z ?_)
 obtain⟨v5,e5,hq2⟩:=aa hq2
 refine ct (h e5) (z ?_)
 refine zm ?_ ?_<;>intro h6
 rw[Ti (nt h6)] at hq2
 cases hq2
 exact mst
 rw[Th h6] at hq2
 exact bk ⟨i2+1,hq2⟩
 rw[aq h3,Sd] at hq2
 cases hq2
 exact mst
def GA (rec:bG Va->aO->Option Bool) (d:aO) (c:bg Va):Option Bool:=(perm c d.c).bind fun p=>if p then(itM rec c d.c).bind fun l=>some (decide ((l.length:Int)=0)) else some false
theorem R1 {rec:bG Va->aO->Option Bool} (h:M8 rec) {d:aO} {c:bg Va} {r:Bool} (hm:GA rec d c=some r):bj Tryz.prog 49 [.agg (aQ aL c),.bN (cw d) 0] fun s=>s= .bool r:=by
 refine ht ae Tryz.f49 ?_
 unfold GA at hm
 refine z ?_
 obtain⟨v1,e1,hm⟩:=aa hm
 refine ce (On e1) (z ?_)
 refine zr ?_ ?_<;>intro h2
 rw[Th h2] at hm
 obtain⟨v3,e3,hm⟩:=aa hm
 refine ct (RY h e3) (z ?_)
 cases hm
 exact mst
 rw[Ti (nt h2)] at hm
 cases hm
 exact mst
def OZ (rec:bG Va->aO->Option Bool) (d:aO) (c:aM Va):Option Bool:=(miM c d.c).bind fun l=>(aN l).bind fun _=>if(l.length:Int)=0 then fiM rec c d.c else some false
theorem R0 {rec:bG Va->aO->Option Bool} (h:M8 rec) {d:aO} {c:aM Va} {r:Bool} (hm:OZ rec d c=some r):bj Tryz.prog 53 [.agg (aC aL c),.bN (cw d) 0] fun s=>s= .bool r:=by
 refine ht ae Tryz.f53 ?_
 unfold OZ at hm
 refine z ?_
 obtain⟨v1,e1,hm⟩:=aa hm
 refine ce (RQ e1) (z ?_)
 obtain⟨hg2,hm⟩:=ah hm
 refine zd ?_ ?_<;>intro h3
 rw[Th h3] at hm
 replace hm:=aB hm
 obtain⟨v4,e4,hm⟩:=aa hm
 refine ct (Sc h e4) (z ?_)
 cases hm
 exact mst
 rw[Ti h3] at hm
 cases hm
 exact mst
def lP:Nat->bG Va->aO->Option Bool
 |0,_,_=>none
 |n+1,v,d=>if v.any then some true else(nW v.sc d).bind fun h=>if h then some true else if d.c.kind=5 then lT (GA (lP n) d) v.lists else if d.c.kind=6 then lT (OZ (lP n) d) v.structs else some false
theorem O6:∀{n:Nat},M8 (lP n):=by
 intro n
 induction n with
 |zero=>intro v d r hm;cases hm
 |succ n ih=>
  intro v d r hm
  refine ht ae Tryz.f33 ?_
  unfold lP at hm
  refine z ?_
  refine zr ?_ ?_<;>intro h1
  ·rw[Th h1] at hm
   cases hm
   exact mst
  ·rw[Ti (nt h1)] at hm
   obtain⟨v2,e2,hm⟩:=aa hm
   refine ct (O3 e2) (z ?_)
   refine zr ?_ ?_<;>intro h3
   ·rw[Th h3] at hm
    cases hm
    exact mst
   ·rw[Ti (nt h3)] at hm
    refine zd ?_ ?_<;>intro h4
    ·rw[Th h4] at hm
     replace hm:=aB hm
     obtain⟨v5,e5,hm⟩:=aa hm
     refine bH (Mc (by simp only[aw,closed,aG,cM,bK,b6,eC,cl,dx,Tq]) rfl (R1 ih) e5) (z ?_)
     cases hm
     exact mst
    ·rw[Ti h4] at hm
     refine zd ?_ ?_<;>intro h6
     ·rw[Th h6] at hm
      replace hm:=aB hm
      obtain⟨v7,e7,hm⟩:=aa hm
      refine bH (Mb (by simp only[aw,closed,aG,cM,bK,b6,eC,cl,dx,Tq]) rfl (R0 ih) e7) (z ?_)
      cases hm
      exact mst
     ·rw[Ti h6] at hm
      cases hm
      exact mst
def IK (v:bG Va) (d:aO):Option Bool:=(yg v).bind fun g=>if g then(lU d).bind fun e=>if e=0 then lP 20 v d else some false else some false
theorem GC {v:bG Va} {d:aO} {r:Bool} (hm:IK v d=some r):bj Tryz.prog 15 [.agg (cj aL v),.agg (cw d)] fun s=>s= .bool r:=by
 refine ht ae Tryz.f15 ?_
 unfold IK at hm
 refine z ?_
 obtain⟨v1,e1,hm⟩:=aa hm
 refine ct (LJ e1) (z ?_)
 refine zr ?_ ?_<;>intro h2
 rw[Th h2] at hm
 obtain⟨v3,e3,hm⟩:=aa hm
 refine ce (As e3) (z ?_)
 refine zd ?_ ?_<;>intro h4
 rw[Th h4] at hm
 replace hm:=aB hm
 obtain⟨v5,e5,hm⟩:=aa hm
 refine ct (O6 e5) (z ?_)
 cases hm
 exact mst
 rw[Ti h4] at hm
 cases hm
 exact mst
 rw[Ti (nt h2)] at hm
 cases hm
 exact mst
def J0 (rec:aO->Int->Option Int) (most:Int) (ms:List (Mem aO)):Nat->Int->Int->Option Int
 |0,_,_=>none
 |f+1,i,n=>(OM ms).bind fun _=>if i<(ms.length:Int) then if n<=most then(cN ms i).bind fun m=>(dV (most-n)).bind fun _=>(rec m.data (most-n)).bind fun k=>(dV (n+k)).bind fun _=>J0 rec most ms f (i+1) (n+k) else some n else some n
def Ra (rec:aO->Int->Option Int) (most:Int) (l:List aO) (ms:List (Mem aO)):Nat->Int->Int->Option Int
 |0,_,_=>none
 |f+1,i,n=>(OM l).bind fun _=>if i<(l.length:Int) then if n<=most then(cN l i).bind fun d=>(dV (most-n)).bind fun _=>(rec d (most-n)).bind fun k=>(dV (n+k)).bind fun _=>Ra rec most l ms f (i+1) (n+k)
  else J0 rec most ms (ms.length+1) 0 n else J0 rec most ms (ms.length+1) 0 n
def NY:Nat->aO->Int->Option Int
 |0,_,_=>none
 |f+1,d,most=>Ra (NY f) most d.c.items d.c.members (d.c.items.length+1) 0 1
theorem Q9:∀{f:Nat} {d:aO} {most r:Int} (hm:NY f d most=some r),Has Tryz.prog 16 [.agg (cw d),.int .i64 most] fun s=>s= .int .i64 r:=by
 intro f
 induction f with
 |zero=>intro d most r hm;cases hm
 |succ f ih=>
  intro d most r hm
  refine hs ae Tryz.f16 ?_
  unfold NY at hm
  refine z ?_
  refine lg (α:=Nat×Int×Int) ae (fun(nw,s1,s2)=>(Ra (NY f) most d.c.items d.c.members nw s1 s2=some r,⟨56,[(6,.int .i64 s1),(5,.int .i64 s2),(4,.int .i64 0),(2,.ptr 0 0),(1,.int .i64 most)]⟩,⟨[(0,.cells (cw d))],1,0,[],[]⟩,nw)) ⟨(_,_,_),hm⟩ ?_
  rintro⟨n1,s1_1,s2_1⟩ hq1
  dsimp only at hq1
  rcases n1 with _|n1
  ·(unfold Ra at hq1;cases hq1)
  unfold Ra at hq1
  refine z ?_
  obtain⟨hg2,hq1⟩:=ah hq1
  refine zd ?_ ?_<;>intro h3
  ·rw[Th h3] at hq1
   refine zd ?_ ?_<;>intro h4
   ·rw[Th h4] at hq1
    obtain⟨j5,x5,en5,ex5,hq1⟩:=av hq1
    refine bI (cK _) en5 ex5 rfl (z ?_)
    obtain⟨hg6,hq1⟩:=ah hq1
    refine z ?_
    obtain⟨v8,e8,hq1⟩:=aa hq1
    refine ce (ih e8) (z ?_)
    obtain⟨hg9,hq1⟩:=ah hq1
    refine z ?_
    exact bk ⟨(n1,_,_),hq1⟩
   ·rw[Ti h4] at hq1
    refine aY rfl rfl ?_
    refine lg (α:=Nat×Int×Int) ae (fun(nw,s1,s2)=>(J0 (NY f) most d.c.members nw s1 s2=some r,⟨56,[(7,.int .i64 s1),(5,.int .i64 s2),(4,.int .i64 0),(2,.ptr 0 0),(1,.int .i64 most)]⟩,⟨[(0,.cells (cw d))],1,0,[],[]⟩,nw)) ⟨(_,_,_),hq1⟩ ?_
    rintro⟨n10,s1_10,s2_10⟩ hq10
    dsimp only at hq10
    rcases n10 with _|n10
    ·(unfold J0 at hq10;cases hq10)
    unfold J0 at hq10
    refine z ?_
    obtain⟨hg11,hq10⟩:=ah hq10
    refine zd ?_ ?_<;>intro h12
    ·rw[Th h12] at hq10
     refine zd ?_ ?_<;>intro h13
     ·rw[Th h13] at hq10
      obtain⟨j14,x14,en14,ex14,hq10⟩:=av hq10
      refine bI (bB _) en14 ex14 rfl (z ?_)
      obtain⟨hg15,hq10⟩:=ah hq10
      refine z ?_
      obtain⟨v17,e17,hq10⟩:=aa hq10
      refine ce (ih e17) (z ?_)
      obtain⟨hg18,hq10⟩:=ah hq10
      refine z ?_
      exact bk ⟨(n10,_,_),hq10⟩
     ·rw[Ti h13] at hq10
      cases hq10
      exact fc
    ·rw[Ti h12] at hq10
     cases hq10
     exact fc
  ·rw[Ti h3] at hq1
   refine aY rfl rfl ?_
   refine lg (α:=Nat×Int×Int) ae (fun(nw,s1,s2)=>(J0 (NY f) most d.c.members nw s1 s2=some r,⟨56,[(7,.int .i64 s1),(5,.int .i64 s2),(4,.int .i64 0),(2,.ptr 0 0),(1,.int .i64 most)]⟩,⟨[(0,.cells (cw d))],1,0,[],[]⟩,nw)) ⟨(_,_,_),hq1⟩ ?_
   rintro⟨n19,s1_19,s2_19⟩ hq19
   dsimp only at hq19
   rcases n19 with _|n19
   ·(unfold J0 at hq19;cases hq19)
   unfold J0 at hq19
   refine z ?_
   obtain⟨hg20,hq19⟩:=ah hq19
   refine zd ?_ ?_<;>intro h21
   ·rw[Th h21] at hq19
    refine zd ?_ ?_<;>intro h22
    ·rw[Th h22] at hq19
     obtain⟨j23,x23,en23,ex23,hq19⟩:=av hq19
     refine bI (bB _) en23 ex23 rfl (z ?_)
     obtain⟨hg24,hq19⟩:=ah hq19
     refine z ?_
     obtain⟨v26,e26,hq19⟩:=aa hq19
     refine ce (ih e26) (z ?_)
     obtain⟨hg27,hq19⟩:=ah hq19
     refine z ?_
     exact bk ⟨(n19,_,_),hq19⟩
    ·rw[Ti h22] at hq19
     cases hq19
     exact fc
   ·rw[Ti h21] at hq19
    cases hq19
    exact fc
def Rf (rec:aO->Option Bool) (ms:List (Mem aO)):Nat->Int->Option Bool
 |0,_=>none
 |f+1,i=>(aN ms).bind fun _=>if i<(ms.length:Int) then(cN ms i).bind fun m=>(OM m.label).bind fun _=>if(m.label.length:Int)>80 then some false else(cN ms i).bind fun m=>(rec m.data).bind fun ok=>if ok then Rf rec ms f (i+1) else some false else some true
def Rg (rec:aO->Option Bool) (l:List aO) (ms:List (Mem aO)):Nat->Int->Option Bool
 |0,_=>none
 |f+1,i=>(aN l).bind fun _=>if i<(l.length:Int) then(cN l i).bind fun d=>(rec d).bind fun ok=>if ok then Rg rec l ms f (i+1) else some false else Rf rec ms (ms.length+1) 0
def Qq:Nat->aO->Option Bool
 |0,_=>none
 |f+1,d=>(OM d.c.str).bind fun _=>if(d.c.str.length:Int)>80 then some false else Rg (Qq f) d.c.items d.c.members (d.c.items.length+1) 0
theorem Re:∀{f:Nat} {d:aO} {r:Bool} (hm:Qq f d=some r),Has Tryz.prog 17 [.agg (cw d)] fun s=>s= .bool r:=by
 intro f
 induction f with
 |zero=>intro d r hm;cases hm
 |succ f ih=>
  intro d r hm
  refine hs ae Tryz.f17 ?_
  unfold Qq at hm
  refine z ?_
  obtain⟨hg1,hm⟩:=ah hm
  refine zd ?_ ?_<;>intro h2
  ·rw[Th h2] at hm
   cases hm
   exact fc
  ·rw[Ti h2] at hm
   refine lg (α:=Nat×Int) ae (fun(nw,s1)=>(Rg (Qq f) d.c.items d.c.members nw s1=some r,⟨48,[(3,.int .i64 s1),(2,.bool false),(1,.ptr 0 0)]⟩,⟨[(0,.cells (cw d))],1,0,[],[]⟩,nw)) ⟨(_,_),hm⟩ ?_
   rintro⟨n3,s1_3⟩ hq3
   dsimp only at hq3
   rcases n3 with _|n3
   ·(unfold Rg at hq3;cases hq3)
   unfold Rg at hq3
   refine z ?_
   obtain⟨hg4,hq3⟩:=ah hq3
   refine zd ?_ ?_<;>intro h5
   ·rw[Th h5] at hq3
    obtain⟨j6,x6,en6,ex6,hq3⟩:=av hq3
    refine bI (cK _) en6 ex6 rfl (z ?_)
    obtain⟨v7,e7,hq3⟩:=aa hq3
    refine ce (ih e7) (z ?_)
    refine zm ?_ ?_<;>intro h8
    ·rw[Ti (nt h8)] at hq3
     cases hq3
     exact fc
    ·rw[Th h8] at hq3
     exact bk ⟨(n3,_),hq3⟩
   ·rw[Ti h5] at hq3
    refine aY rfl rfl ?_
    refine lg (α:=Nat×Int) ae (fun(nw,s1)=>(Rf (Qq f) d.c.members nw s1=some r,⟨48,[(4,.int .i64 s1),(2,.bool false),(1,.ptr 0 0)]⟩,⟨[(0,.cells (cw d))],1,0,[],[]⟩,nw)) ⟨(_,_),hq3⟩ ?_
    rintro⟨n9,s1_9⟩ hq9
    dsimp only at hq9
    rcases n9 with _|n9
    ·(unfold Rf at hq9;cases hq9)
    unfold Rf at hq9
    refine z ?_
    obtain⟨hg10,hq9⟩:=ah hq9
    refine zd ?_ ?_<;>intro h11
    ·rw[Th h11] at hq9
     obtain⟨j12,x12,en12,ex12,hq9⟩:=av hq9
     refine bI (bB _) en12 ex12 rfl (z ?_)
     obtain⟨hg13,hq9⟩:=ah hq9
     refine zd ?_ ?_<;>intro h14
     ·rw[Th h14] at hq9
      cases hq9
      exact fc
     ·rw[Ti h14] at hq9
      obtain⟨j15,x15,en15,ex15,hq9⟩:=av hq9
      refine bI (bB _) en15 ex15 rfl (z ?_)
      obtain⟨v16,e16,hq9⟩:=aa hq9
      refine ce (ih e16) (z ?_)
      refine zm ?_ ?_<;>intro h17
      ·rw[Ti (nt h17)] at hq9
       cases hq9
       exact fc
      ·rw[Th h17] at hq9
       exact bk ⟨(n9,_),hq9⟩
    ·rw[Ti h11] at hq9
     cases hq9
     exact fc
def oK (d:aO):Option Bool:=(NY 50 d 40).bind fun n=>if n<=40 then Qq 50 d else some false
theorem qQ {d:aO} {r:Bool} (hm:oK d=some r):Has Tryz.prog 5 [.agg (cw d)] fun s=>s= .bool r:=by
 refine hs ae Tryz.f5 ?_
 unfold oK at hm
 refine z ?_
 obtain⟨v1,e1,hm⟩:=aa hm
 refine ce (Q9 e1) (z ?_)
 refine zd ?_ ?_<;>intro h2
 rw[Th h2] at hm
 replace hm:=aB hm
 obtain⟨v3,e3,hm⟩:=aa hm
 refine ce (Re e3) (z ?_)
 cases hm
 exact fc
 rw[Ti h2] at hm
 cases hm
 exact fc
def OQ (c d:aO):Option Bool:=(oK c).bind fun s=>if s then(oK d).bind fun s=>if s then(Ic c).bind fun e=>if e=0 then(PV d).bind fun p=>if p.2=0 then
  (IK p.1.v c).bind fun h=>(rP c d).bind fun s=>if h==s then(IK p.1.v d).bind fun h=>if h then ka else some false else some false
 else ka else ka else ka else ka
theorem OP {c d:aO} {r:Bool} (hm:OQ c d=some r):bj Tryz.prog 4 [.agg (cw c),.agg (cw d)] fun s=>s= .bool r:=by
 refine ht ae Tryz.f4 ?_
 unfold OQ at hm
 refine z ?_
 obtain⟨v1,e1,hm⟩:=aa hm
 refine ce (qQ e1) (z ?_)
 refine zm ?_ ?_<;>intro h2
 rw[Ti (nt h2)] at hm
 replace hm:=aB hm
 obtain⟨v3,e3,hm⟩:=aa hm
 refine ct (iS e3) (z ?_)
 cases hm
 exact mst
 rw[Th h2] at hm
 obtain⟨v4,e4,hm⟩:=aa hm
 refine ce (qQ e4) (z ?_)
 refine zm ?_ ?_<;>intro h5
 rw[Ti (nt h5)] at hm
 replace hm:=aB hm
 obtain⟨v6,e6,hm⟩:=aa hm
 refine ct (iS e6) (z ?_)
 cases hm
 exact mst
 rw[Th h5] at hm
 obtain⟨v7,e7,hm⟩:=aa hm
 refine ce (zD e7) (z ?_)
 refine zn ?_ ?_<;>intro h8
 rw[Ti h8] at hm
 replace hm:=aB hm
 obtain⟨v9,e9,hm⟩:=aa hm
 refine ct (iS e9) (z ?_)
 cases hm
 exact mst
 rw[Th h8] at hm
 obtain⟨v10,e10,hm⟩:=aa hm
 refine ct (Aw e10) (z ?_)
 refine zn ?_ ?_<;>intro h11
 rw[Ti h11] at hm
 replace hm:=aB hm
 obtain⟨v12,e12,hm⟩:=aa hm
 refine ct (iS e12) (z ?_)
 cases hm
 exact mst
 rw[Th h11] at hm
 refine dg ae [0,1,0,7,0,0,63,127,255,511,1023,511,4095,8191,16383,32767,65535,131071] [] (z ?_)
 obtain⟨v13,e13,hm⟩:=aa hm
 refine ct (GC e13) (z ?_)
 obtain⟨v14,e14,hm⟩:=aa hm
 refine ce (pN e14) (z ?_)
 refine zr ?_ ?_<;>intro h15
 rw[Th h15] at hm
 obtain⟨v16,e16,hm⟩:=aa hm
 refine ct (GC e16) (z ?_)
 refine zr ?_ ?_<;>intro h17
 rw[Th h17] at hm
 replace hm:=aB hm
 obtain⟨v18,e18,hm⟩:=aa hm
 refine ct (iS e18) (z ?_)
 cases hm
 exact mst
 rw[Ti (nt h17)] at hm
 cases hm
 exact mst
 rw[Ti (nt h15)] at hm
 cases hm
 exact mst
end Go.Proofs.YtaagahmkmcnhaaaGreatDoor
