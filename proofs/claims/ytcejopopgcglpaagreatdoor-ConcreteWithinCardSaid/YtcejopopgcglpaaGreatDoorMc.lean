/- For ConcreteWithin: functions of the program, walked beside Lean functions that say what they compute. -/
import Derived.Test.YtcejopopgcglpaaGreatDoorMb
set_option linter.unusedVariables false
set_option linter.unusedSimpArgs false
set_option linter.unusedSectionVars false
namespace Go.Proofs.YtcejopopgcglpaaGreatDoor
open Sv
set_option maxRecDepth 100000
set_option maxHeartbeats 2000000
def iA (l:List bj):Option Bool:=(mB l).bind fun p=>if p.2=0 then pV l p.1 else some false
theorem qW {l:List bj} {r:Bool} (hm:iA l=some r):bp Tryz.prog 114 [.agg [aE l]] fun s=>s= .bool r:=by
 refine ht ae Tryz.f114 ?_
 unfold iA at hm
 refine z ?_
 obtain⟨v1,e1,hm⟩:=aa hm
 refine ct (vo e1) (z ?_)
 refine zd ?_ ?_<;>intro h2
 rw[HP h2] at hm
 replace hm:=aJ hm
 obtain⟨v3,e3,hm⟩:=aa hm
 refine ce (AA e3) (z ?_)
 cases hm
 exact mst
 rw[TP h2] at hm
 cases hm
 exact mst
def fq (l:List bj):Option (List bj):=(iA l).bind fun ok=>if ok then some l else some []
theorem ic {l r:List bj} (hm:fq l=some r):bp Tryz.prog 94 [.agg [aE l]] fun s=>s= .agg [aE r]:=by
 refine ht ae Tryz.f94 ?_
 unfold fq at hm
 refine z ?_
 obtain⟨v1,e1,hm⟩:=aa hm
 refine ct (qW e1) (z ?_)
 refine zm ?_ ?_<;>intro h2
 rw[TP (nt h2)] at hm
 cases hm
 refine a8 (z ?_)
 exact mt
 rw[HP h2] at hm
 cases hm
 exact mst
def GO:List bj->List bj->Option (List bj)
 |[],out=>some out
 |s::r,out=>(By s.aI).bind fun e=>(push out ⟨s.acc,e⟩).bind fun out=>GO r out
def jJ (l:List bj):Option (List bj):=(aR l).bind fun _=>GO l []
theorem rL {l r:List bj} (hm:jJ l=some r):Has Tryz.prog 93 [.agg [aE l]] fun s=>s= .agg [aE r]:=by
 refine hs ae Tryz.f93 ?_
 unfold jJ at hm
 refine z ?_
 obtain⟨hg1,hm⟩:=ah hm
 refine bK 2 0 2 rfl rfl ?_
 refine lg (α:=Nat×List bj×Nat) ae (fun(iw,s1,ts1)=>(GO (List.drop iw l) s1=some r,⟨26,[(9,.int .i64 iw),(8,.int .i64 ↑l.length),(7,aE l),(3,.ptr 2 0),(2,.ptr 1 0)]⟩,⟨[(3,.row 2 (s1.map gT) ts1 false),(2,.cells [.own 3 ts1]),(1,.cells [.aD]),(0,.cells [aE l])],4,0,[],[]⟩,List.length l-iw)) ⟨(0,_,(0)),hm⟩ ?_
 rintro⟨i2,s1_2,ts1_2⟩ hq2
 dsimp only at hq2
 refine z ?_
 refine zd ?_ ?_<;>intro h3
 obtain⟨x3,ex3,ed3⟩:=av h3
 rw[ed3,GO] at hq2
 refine z ?_
 refine bx ex3 rfl (z ?_)
 refine dg ae [0,1,0,4,0,16,48,124,252,511,1023,2047] [] (z ?_)
 obtain⟨v4,e4,hq2⟩:=aa hq2
 refine ce (Bz e4) (z ?_)
 obtain⟨hg5,hq2⟩:=aC hq2
 refine z ?_
 refine aM ({acc:=x3.acc,aI:=v4}) rfl (z ?_)
 exact bk ⟨(i2+1,_,(ts1_2+1)),hq2⟩
 rw[aA h3,GO] at hq2
 cases hq2
 refine dH (z ?_)
 first|exact e2|exact rfl
structure dw where
 a:Int
 b:Int
def gj (p:dw):List SVal:=[.int .i64 p.a,.int .i64 p.b]
instance :Cl gj:=⟨fun _=>rfl⟩
abbrev Gg (x y:dw):Bool:=decide (x.a=y.a)&&(decide (x.b=y.b)&&true)
def gb (p:dw):List dw->Int->Option Int
 |[],_=>some (-1)
 |x::r,i=>if Gg p x then some i else gb p r (i+1)
def nQ (l:List dw) (p:dw):Option Int:=(aR l).bind fun _=>gb p l 0
theorem eL {l:List dw} {p:dw} {r:Int} (hm:nQ l p=some r):Has Tryz.prog 116 [.aK false (l.map gj),.agg (gj p)] fun s=>s= .int .i64 r:=by
 refine hs ae Tryz.f116 ?_
 unfold nQ at hm
 refine z ?_
 obtain⟨hg1,hm⟩:=ah hm
 refine lg (α:=Nat) ae (fun iw=>(gb p (List.drop iw l) (iw:Int)=some r,⟨19,[(8,.int .i64 iw),(7,.int .i64 ↑l.length),(4,.int .i64 0),(3,.ptr 0 0),(0,.aK false (List.map gj l))]⟩,⟨[(0,.cells (gj p))],1,0,[],[]⟩,List.length l-iw)) ⟨(0),hm⟩ ?_
 intro i2 hq2
 dsimp only at hq2
 refine z ?_
 refine zd ?_ ?_<;>intro h3
 obtain⟨x3,ex3,ed3⟩:=av h3
 rw[ed3,gb] at hq2
 refine z ?_
 refine dg ae [0,0,0,6,14,31] [] (z ?_)
 refine bx ex3 rfl (z ?_)
 refine zr ?_ ?_<;>intro h4
 rw[HP h4] at hq2
 cases hq2
 exact fc
 rw[TP (nt h4)] at hq2
 exact bk ⟨i2+1,hq2⟩
 rw[aA h3,gb] at hq2
 cases hq2
 exact fc
/-! products -/
def gn:List Sv.Edge->List Bool->Option (List Bool)
 |[],a=>some a
 |e::r,a=>(s6 256 a e.lo true).bind fun a=>if e.hi<255 then(lO e.hi).bind fun _=>(s6 256 a (e.hi+1) true).bind fun a=>gn r a else gn r a
def we (l:List bj) (s:Int) (a:List Bool):Option (List Bool):=
 if s<0 then some a else if s>=l.length then some a else(cJ l s).bind fun x=>(aR x.aI).bind fun _=>gn x.aI a
def dk (a b:List bj) (p:dw) (at':List Bool):Nat->Int->List dw->List Sv.Edge->Option (List dw×List Sv.Edge)
 |0,_,l,e=>some (l,e)
 |n+1,c,l,e=>(Vw 256 at' c).bind fun x=>if x then
   (jf a p.a c).bind fun x=>(jf b p.b c).bind fun y=>(nQ l ⟨x,y⟩).bind fun k=>if k<0 then
     (push l ⟨x,y⟩).bind fun l'=>(push e ⟨c,0,l.length⟩).bind fun e=>(aR e).bind fun _=>(ot e (e.length-1) fun q=>⟨q.lo,c,q.to⟩).bind fun e=>dk a b p at' n (c+1) l' e
    else(push e ⟨c,0,k⟩).bind fun e=>(aR e).bind fun _=>(ot e (e.length-1) fun q=>⟨q.lo,c,q.to⟩).bind fun e=>dk a b p at' n (c+1) l e
  else(aR e).bind fun _=>(ot e (e.length-1) fun q=>⟨q.lo,c,q.to⟩).bind fun e=>dk a b p at' n (c+1) l e
def kR:List Bool:=true::List.replicate 255 false
def oH (a b:List bj) (is:Bool->Bool->Option Bool):Nat->Int->List dw->List bj->Option (List bj)
 |0,_,_,_=>none
 |n+1,k,l,out=>(aR l).bind fun _=>if k<l.length then(cJ l k).bind fun p=>(iu a p.a).bind fun x=>(iu b p.b).bind fun y=>(is x y).bind fun acc=>
   (we a p.a kR).bind fun a'=>(we b p.b a').bind fun a'=>(dk a b p a' 256 0 l []).bind fun q=>(push out ⟨acc,q.2⟩).bind fun out=>oH a b is n (k+1) q.1 out
  else some out
def fW (is:Bool->Bool->Option Bool) (a b:List bj):Option (List bj):=(fq a).bind fun a=>(fq b).bind fun b=>
 (oH a b is ((a.length+2)*(b.length+2)+1) 0 [⟨0,0⟩] []).bind fun out=>(mB out).bind fun p=>some p.1
theorem o5 {fn:FuncId} {cap:List SVal} (hc:aB cap=true) (hw:cH cap=cap) {is:Bool->Bool->Option Bool} (hg:∀{x y r},is x y=some r->Has Tryz.prog fn (.bool x:: .bool y::cap) fun s=>s= .bool r) {a b r:List bj} (hm:fW is a b=some r):
  bp Tryz.prog 95 [.agg [aE a],.agg [aE b],.func (.func fn) [] cap] fun s=>s= .agg [aE r]:=by
 refine ht ae Tryz.f95 ?_
 unfold fW at hm
 refine z ?_
 refine dg ae [0,1,0,7,15,31] [] (z ?_)
 obtain⟨v1,e1,hm⟩:=aa hm
 refine ct (ic e1) (z ?_)
 obtain⟨v2,e2,hm⟩:=aa hm
 refine ct (ic e2) (z ?_)
 obtain⟨v3,hv3,hm⟩:=aa hm
 refine cr 9 2 rfl ?_
 refine lg (α:=Nat×Int×List dw×List bj×Nat×Nat) ae (fun(nw,s1,s2,s3,ts2,ts3)=>(oH v1 v2 is nw s1 s2 s3=some v3,⟨104,[(9,.own 6 ts3),(10,.int .i64 s1),(8,.func (.func 115) [] [.ptr 5 0]),(7,.ptr 5 0),(6,.ptr 3 0),(4,.ptr 2 0),(3,.ptr 1 0),(2,.func (.func fn) [] cap)]⟩,⟨[(6,.row 2 (s3.map gT) ts3 false),(5,.cells [.own 4 ts2]),(4,.row 2 (s2.map gj) ts2 false),(3,.cells [.aD]),(2,.cells [aE v2]),(1,.cells [aE v1]),(0,ba)],7,0,[],[]⟩,nw)) ⟨(_,_,_,_,(0),(0)),hv3⟩ ?_
 rintro⟨n3,s1_3,s2_3,s3_3,ts2_3,ts3_3⟩ hq3
 dsimp only at hq3
 rcases n3 with _|n3
 ·(unfold oH at hq3;cases hq3)
 unfold oH at hq3
 refine z ?_
 obtain⟨hg4,hq3⟩:=ah hq3
 refine zd ?_ ?_<;>intro h5
 ·rw[HP h5] at hq3
  obtain⟨j6,x6,en6,ex6,hq3⟩:=az hq3
  refine aP en6 ex6 (z ?_)
  refine bT ex6 (z ?_)
  refine dg ae [0,0,0,4,14,0,0,64,254,511,1023,0,4095] [] (z ?_)
  obtain⟨v7,e7,hq3⟩:=aa hq3
  refine ce (w9 e7) (z ?_)
  obtain⟨v8,e8,hq3⟩:=aa hq3
  refine ce (w9 e8) (z ?_)
  obtain⟨v9,e9,hq3⟩:=aa hq3
  refine kO (hg e9) (by(simp only[cH,kh,hw];try rfl)) ?_
  unfold we at hq3
  refine z ?_
  refine ci ae Tryz.f118 (z ?_)
  refine zd ?_ ?_<;>intro h10
  ·rw[HP h10] at hq3
   dsimp only[Option.bind_some] at hq3
   refine z ?_
   refine ei (z ?_)
   refine ci ae Tryz.f118 (z ?_)
   refine zd ?_ ?_<;>intro h11
   ·rw[HP h11] at hq3
    dsimp only[Option.bind_some] at hq3
    refine z ?_
    refine ei (z ?_)
    obtain⟨v12,hv12,hq3⟩:=aa hq3
    refine bK 8 1 3 rfl rfl ?_
    refine lg (α:=Nat×List dw×List Sv.Edge×Nat×Nat) ae (fun(iw,s1,s2,ts1,ts2)=>(dk v1 v2 x6 kR (256-iw) (iw:Int) s1 s2=some v12,⟨104,[(54,.int .i64 iw),(13,.ptr 9 0),(12,.ptr 8 0),(11,.ptr 7 0),(9,.own 6 ts3_3),(10,.int .i64 s1_3),(8,.func (.func 115) [] [.ptr 5 0]),(7,.ptr 5 0),(6,.ptr 3 0),(4,.ptr 2 0),(3,.ptr 1 0),(2,.func (.func fn) [] cap)]⟩,⟨[(12,.row 3 (s2.map cR) ts2 false),(11,.cells [aE v2]),(10,.cells [aE v1]),(9,.cells ((kR).map .bool)),(8,.cells [.bool v9,.own 12 ts2]),(7,.cells [.int .i64 x6.a,.int .i64 x6.b]),(6,.row 2 (List.map gT s3_3) ts3_3 false),(5,.cells [.own 4 ts1]),(4,.row 2 (s1.map gj) ts1 false),(3,.cells [.aD]),(2,.cells [aE v2]),(1,.cells [aE v1]),(0,ba)],13,0,[],[]⟩,(256)-iw)) ⟨(0,_,_,ts2_3,(0)),hv12⟩ ?_
    rintro⟨i12,s1_12,s2_12,ts1_12,ts2_12⟩ hq12
    dsimp only at hq12
    refine z ?_
    refine zd ?_ ?_<;>intro h13
    ·have h13':(i12:Int)<(((256):Nat):Int):=by(try simp only[V4,Wc,Wb,V7] at h13);omega
     rw[df h13',dk] at hq12
     refine z ?_
     obtain⟨j14,x14,en14,ej14,ex14,hq12⟩:=gX hq12
     refine cC en14 ej14 (z ?_)
     rw[fa ex14 (by(show _+_*1=_;omega)) rfl]
     refine z ?_
     refine zr ?_ ?_<;>intro h15
     ·rw[HP h15] at hq12
      refine dg ae [0,1,0,4,0,0,0,64,0,256,992,0,0,4096,0,16384,65504,131040,262128,524284,1048572,2097151,4194303,8388607] [⟨23,0,0,[8]⟩,⟨21,0,0,[12]⟩,⟨18,0,0,[5,4]⟩] (z ?_)
      obtain⟨v22,e22,hq12⟩:=aa hq12
      refine ce (dK e22) (z ?_)
      obtain⟨v23,e23,hq12⟩:=aa hq12
      refine ce (dK e23) (z ?_)
      refine cd ae Tryz.f115 (z ?_)
      obtain⟨v24,e24,hq12⟩:=aa hq12
      refine b6 (eL e24) rfl (z ?_)
      refine zd ?_ ?_<;>intro h25
      ·rw[HP h25] at hq12
       obtain⟨hg26,hq12⟩:=aC hq12
       refine z ?_
       refine aM ({a:=v22,b:=v23}) rfl (z ?_)
       refine ed (z ?_)
       obtain⟨hg27,hq12⟩:=aC hq12
       refine z ?_
       refine aM ({lo:=↑i12,hi:=0,to:=↑s1_12.length}) rfl (z ?_)
       obtain⟨hg28,hq12⟩:=ah hq12
       refine z ?_
       obtain⟨j30,x30,en30,ex30,hq12⟩:=bY hq12
       refine aP en30 ex30 (z ?_)
       refine cw _ ({lo:=x30.lo,hi:=↑i12,to:=x30.to}) ex30 rfl (z ?_)
       exact bk ⟨(i12+1,_,_,(ts1_12+1),(ts2_12+1)),hq12⟩
      ·rw[TP h25] at hq12
       refine ed (z ?_)
       obtain⟨hg31,hq12⟩:=aC hq12
       refine z ?_
       refine aM ({lo:=↑i12,hi:=0,to:=v24}) rfl (z ?_)
       obtain⟨hg32,hq12⟩:=ah hq12
       refine z ?_
       obtain⟨j34,x34,en34,ex34,hq12⟩:=bY hq12
       refine aP en34 ex34 (z ?_)
       refine cw _ ({lo:=x34.lo,hi:=↑i12,to:=x34.to}) ex34 rfl (z ?_)
       exact bk ⟨(i12+1,_,_,ts1_12,(ts2_12+1)),hq12⟩
     ·rw[TP (nt h15)] at hq12
      obtain⟨hg35,hq12⟩:=ah hq12
      refine z ?_
      obtain⟨j37,x37,en37,ex37,hq12⟩:=bY hq12
      refine aP en37 ex37 (z ?_)
      refine cw _ ({lo:=x37.lo,hi:=↑i12,to:=x37.to}) ex37 rfl (z ?_)
      exact bk ⟨(i12+1,_,_,ts1_12,ts2_12),hq12⟩
    ·have h13':¬(i12:Int)<(((256):Nat):Int):=by(try simp only[V4,Wc,Wb,V7] at h13);omega
     rw[de h13',dk] at hq12
     cases hq12
     dsimp only at hq3
     refine z ?_
     obtain⟨hg38,hq3⟩:=aC hq3
     refine z ?_
     refine aM ({acc:=v9,aI:=s2_12}) rfl (z ?_)
     exact bk ⟨(n3,_,_,_,ts1_12,(ts3_3+1)),hq3⟩
   ·rw[TP h11] at hq3
    refine zd ?_ ?_<;>intro h39
    ·rw[HP h39] at hq3
     dsimp only[Option.bind_some] at hq3
     refine z ?_
     refine ei (z ?_)
     obtain⟨v40,hv40,hq3⟩:=aa hq3
     refine bK 8 1 3 rfl rfl ?_
     refine lg (α:=Nat×List dw×List Sv.Edge×Nat×Nat) ae (fun(iw,s1,s2,ts1,ts2)=>(dk v1 v2 x6 kR (256-iw) (iw:Int) s1 s2=some v40,⟨104,[(54,.int .i64 iw),(13,.ptr 9 0),(12,.ptr 8 0),(11,.ptr 7 0),(9,.own 6 ts3_3),(10,.int .i64 s1_3),(8,.func (.func 115) [] [.ptr 5 0]),(7,.ptr 5 0),(6,.ptr 3 0),(4,.ptr 2 0),(3,.ptr 1 0),(2,.func (.func fn) [] cap)]⟩,⟨[(12,.row 3 (s2.map cR) ts2 false),(11,.cells [aE v2]),(10,.cells [aE v1]),(9,.cells ((kR).map .bool)),(8,.cells [.bool v9,.own 12 ts2]),(7,.cells [.int .i64 x6.a,.int .i64 x6.b]),(6,.row 2 (List.map gT s3_3) ts3_3 false),(5,.cells [.own 4 ts1]),(4,.row 2 (s1.map gj) ts1 false),(3,.cells [.aD]),(2,.cells [aE v2]),(1,.cells [aE v1]),(0,ba)],13,0,[],[]⟩,(256)-iw)) ⟨(0,_,_,ts2_3,(0)),hv40⟩ ?_
     rintro⟨i40,s1_40,s2_40,ts1_40,ts2_40⟩ hq40
     dsimp only at hq40
     refine z ?_
     refine zd ?_ ?_<;>intro h41
     ·have h41':(i40:Int)<(((256):Nat):Int):=by(try simp only[V4,Wc,Wb,V7] at h41);omega
      rw[df h41',dk] at hq40
      refine z ?_
      obtain⟨j42,x42,en42,ej42,ex42,hq40⟩:=gX hq40
      refine cC en42 ej42 (z ?_)
      rw[fa ex42 (by(show _+_*1=_;omega)) rfl]
      refine z ?_
      refine zr ?_ ?_<;>intro h43
      ·rw[HP h43] at hq40
       refine dg ae [0,1,0,4,0,0,0,64,0,256,992,0,0,4096,0,16384,65504,131040,262128,524284,1048572,2097151,4194303,8388607] [⟨23,0,0,[8]⟩,⟨21,0,0,[12]⟩,⟨18,0,0,[5,4]⟩] (z ?_)
       obtain⟨v50,e50,hq40⟩:=aa hq40
       refine ce (dK e50) (z ?_)
       obtain⟨v51,e51,hq40⟩:=aa hq40
       refine ce (dK e51) (z ?_)
       refine cd ae Tryz.f115 (z ?_)
       obtain⟨v52,e52,hq40⟩:=aa hq40
       refine b6 (eL e52) rfl (z ?_)
       refine zd ?_ ?_<;>intro h53
       ·rw[HP h53] at hq40
        obtain⟨hg54,hq40⟩:=aC hq40
        refine z ?_
        refine aM ({a:=v50,b:=v51}) rfl (z ?_)
        refine ed (z ?_)
        obtain⟨hg55,hq40⟩:=aC hq40
        refine z ?_
        refine aM ({lo:=↑i40,hi:=0,to:=↑s1_40.length}) rfl (z ?_)
        obtain⟨hg56,hq40⟩:=ah hq40
        refine z ?_
        obtain⟨j58,x58,en58,ex58,hq40⟩:=bY hq40
        refine aP en58 ex58 (z ?_)
        refine cw _ ({lo:=x58.lo,hi:=↑i40,to:=x58.to}) ex58 rfl (z ?_)
        exact bk ⟨(i40+1,_,_,(ts1_40+1),(ts2_40+1)),hq40⟩
       ·rw[TP h53] at hq40
        refine ed (z ?_)
        obtain⟨hg59,hq40⟩:=aC hq40
        refine z ?_
        refine aM ({lo:=↑i40,hi:=0,to:=v52}) rfl (z ?_)
        obtain⟨hg60,hq40⟩:=ah hq40
        refine z ?_
        obtain⟨j62,x62,en62,ex62,hq40⟩:=bY hq40
        refine aP en62 ex62 (z ?_)
        refine cw _ ({lo:=x62.lo,hi:=↑i40,to:=x62.to}) ex62 rfl (z ?_)
        exact bk ⟨(i40+1,_,_,ts1_40,(ts2_40+1)),hq40⟩
      ·rw[TP (nt h43)] at hq40
       obtain⟨hg63,hq40⟩:=ah hq40
       refine z ?_
       obtain⟨j65,x65,en65,ex65,hq40⟩:=bY hq40
       refine aP en65 ex65 (z ?_)
       refine cw _ ({lo:=x65.lo,hi:=↑i40,to:=x65.to}) ex65 rfl (z ?_)
       exact bk ⟨(i40+1,_,_,ts1_40,ts2_40),hq40⟩
     ·have h41':¬(i40:Int)<(((256):Nat):Int):=by(try simp only[V4,Wc,Wb,V7] at h41);omega
      rw[de h41',dk] at hq40
      cases hq40
      dsimp only at hq3
      refine z ?_
      obtain⟨hg66,hq3⟩:=aC hq3
      refine z ?_
      refine aM ({acc:=v9,aI:=s2_40}) rfl (z ?_)
      exact bk ⟨(n3,_,_,_,ts1_40,(ts3_3+1)),hq3⟩
    ·rw[TP h39] at hq3
     rw[VY] at hq3
     refine z ?_
     obtain⟨j67,x67,en67,ex67,hq3⟩:=az hq3
     refine bD en67 ex67 rfl ?_
     rw[VY] at hq3
     refine z ?_
     obtain⟨hg68,hq3⟩:=ah hq3
     obtain⟨v69,hv69,hq3⟩:=aa hq3
     refine lg (α:=Nat×List Bool) ae (fun(iw,s1)=>(gn (List.drop iw x67.aI) s1=some v69,⟨43,[(24,.int .i64 iw),(23,.int .i64 ↑x67.aI.length),(22,.aK false (List.map cR x67.aI)),(10,.bool false),(14,.int .i64 ↑v2.length),(13,aE v2),(12,.ptr 11 0),(11,.int .i64 x6.b),(8,.int .i64 x6.b),(3,.ptr 11 0),(0,.agg [aE v2]),(2,.ptr 9 0)]⟩,⟨[(11,.cells [aE v2]),(10,.cells [aE v1]),(9,.cells (s1.map .bool)),(8,.cells [.bool v9,.aD]),(7,.cells [.int .i64 x6.a,.int .i64 x6.b]),(6,.row 2 (List.map gT s3_3) ts3_3 false),(5,.cells [.own 4 ts2_3]),(4,.row 2 (List.map gj s2_3) ts2_3 false),(3,.cells [.aD]),(2,.cells [aE v2]),(1,.cells [aE v1]),(0,ba)],12,0,[],[]⟩,List.length x67.aI-iw)) ⟨(0,_),hv69⟩ ?_
     rintro⟨i69,s1_69⟩ hq69
     dsimp only at hq69
     refine z ?_
     refine zd ?_ ?_<;>intro h70
     ·obtain⟨x70,ex70,ed70⟩:=av h70
      rw[ed70,gn] at hq69
      refine z ?_
      refine bx ex70 rfl (z ?_)
      refine dg ae [0,0,2,1,15,31] [] (z ?_)
      obtain⟨j71,x71,en71,ej71,ex71,hq69⟩:=dp hq69
      refine cC en71 ej71 (z ?_)
      rw[dS ex71 (by(show _+_*1=_;omega))]
      refine z ?_
      refine zd ?_ ?_<;>intro h72
      ·rw[HP h72] at hq69
       refine dg ae [0,0,2,6,1,31,63] [] (z ?_)
       obtain⟨hg73,hq69⟩:=ah hq69
       refine z ?_
       obtain⟨j75,x75,en75,ej75,ex75,hq69⟩:=dp hq69
       refine cC en75 ej75 (z ?_)
       rw[dS ex75 (by(show _+_*1=_;omega))]
       refine z ?_
       exact bk ⟨(i69+1,_),hq69⟩
      ·rw[TP h72] at hq69
       exact bk ⟨(i69+1,_),hq69⟩
     ·rw[aA h70,gn] at hq69
      cases hq69
      refine z ?_
      refine ei (z ?_)
      obtain⟨v76,hv76,hq3⟩:=aa hq3
      refine bK 8 1 3 rfl rfl ?_
      refine lg (α:=Nat×List dw×List Sv.Edge×Nat×Nat) ae (fun(iw,s1,s2,ts1,ts2)=>(dk v1 v2 x6 v69 (256-iw) (iw:Int) s1 s2=some v76,⟨104,[(54,.int .i64 iw),(13,.ptr 9 0),(12,.ptr 8 0),(11,.ptr 7 0),(9,.own 6 ts3_3),(10,.int .i64 s1_3),(8,.func (.func 115) [] [.ptr 5 0]),(7,.ptr 5 0),(6,.ptr 3 0),(4,.ptr 2 0),(3,.ptr 1 0),(2,.func (.func fn) [] cap)]⟩,⟨[(12,.row 3 (s2.map cR) ts2 false),(11,.cells [aE v2]),(10,.cells [aE v1]),(9,.cells ((v69).map .bool)),(8,.cells [.bool v9,.own 12 ts2]),(7,.cells [.int .i64 x6.a,.int .i64 x6.b]),(6,.row 2 (List.map gT s3_3) ts3_3 false),(5,.cells [.own 4 ts1]),(4,.row 2 (s1.map gj) ts1 false),(3,.cells [.aD]),(2,.cells [aE v2]),(1,.cells [aE v1]),(0,ba)],13,0,[],[]⟩,(256)-iw)) ⟨(0,_,_,ts2_3,(0)),hv76⟩ ?_
      rintro⟨i76,s1_76,s2_76,ts1_76,ts2_76⟩ hq76
      dsimp only at hq76
      refine z ?_
      refine zd ?_ ?_<;>intro h77
      ·have h77':(i76:Int)<(((256):Nat):Int):=by(try simp only[V4,Wc,Wb,V7] at h77);omega
       rw[df h77',dk] at hq76
       refine z ?_
       obtain⟨j78,x78,en78,ej78,ex78,hq76⟩:=gX hq76
       refine cC en78 ej78 (z ?_)
       rw[fa ex78 (by(show _+_*1=_;omega)) rfl]
       refine z ?_
       refine zr ?_ ?_<;>intro h79
       ·rw[HP h79] at hq76
        refine dg ae [0,1,0,4,0,0,0,64,0,256,992,0,0,4096,0,16384,65504,131040,262128,524284,1048572,2097151,4194303,8388607] [⟨23,0,0,[8]⟩,⟨21,0,0,[12]⟩,⟨18,0,0,[5,4]⟩] (z ?_)
        obtain⟨v86,e86,hq76⟩:=aa hq76
        refine ce (dK e86) (z ?_)
        obtain⟨v87,e87,hq76⟩:=aa hq76
        refine ce (dK e87) (z ?_)
        refine cd ae Tryz.f115 (z ?_)
        obtain⟨v88,e88,hq76⟩:=aa hq76
        refine b6 (eL e88) rfl (z ?_)
        refine zd ?_ ?_<;>intro h89
        ·rw[HP h89] at hq76
         obtain⟨hg90,hq76⟩:=aC hq76
         refine z ?_
         refine aM ({a:=v86,b:=v87}) rfl (z ?_)
         refine ed (z ?_)
         obtain⟨hg91,hq76⟩:=aC hq76
         refine z ?_
         refine aM ({lo:=↑i76,hi:=0,to:=↑s1_76.length}) rfl (z ?_)
         obtain⟨hg92,hq76⟩:=ah hq76
         refine z ?_
         obtain⟨j94,x94,en94,ex94,hq76⟩:=bY hq76
         refine aP en94 ex94 (z ?_)
         refine cw _ ({lo:=x94.lo,hi:=↑i76,to:=x94.to}) ex94 rfl (z ?_)
         exact bk ⟨(i76+1,_,_,(ts1_76+1),(ts2_76+1)),hq76⟩
        ·rw[TP h89] at hq76
         refine ed (z ?_)
         obtain⟨hg95,hq76⟩:=aC hq76
         refine z ?_
         refine aM ({lo:=↑i76,hi:=0,to:=v88}) rfl (z ?_)
         obtain⟨hg96,hq76⟩:=ah hq76
         refine z ?_
         obtain⟨j98,x98,en98,ex98,hq76⟩:=bY hq76
         refine aP en98 ex98 (z ?_)
         refine cw _ ({lo:=x98.lo,hi:=↑i76,to:=x98.to}) ex98 rfl (z ?_)
         exact bk ⟨(i76+1,_,_,ts1_76,(ts2_76+1)),hq76⟩
       ·rw[TP (nt h79)] at hq76
        obtain⟨hg99,hq76⟩:=ah hq76
        refine z ?_
        obtain⟨j101,x101,en101,ex101,hq76⟩:=bY hq76
        refine aP en101 ex101 (z ?_)
        refine cw _ ({lo:=x101.lo,hi:=↑i76,to:=x101.to}) ex101 rfl (z ?_)
        exact bk ⟨(i76+1,_,_,ts1_76,ts2_76),hq76⟩
      ·have h77':¬(i76:Int)<(((256):Nat):Int):=by(try simp only[V4,Wc,Wb,V7] at h77);omega
       rw[de h77',dk] at hq76
       cases hq76
       dsimp only at hq3
       refine z ?_
       obtain⟨hg102,hq3⟩:=aC hq3
       refine z ?_
       refine aM ({acc:=v9,aI:=s2_76}) rfl (z ?_)
       exact bk ⟨(n3,_,_,_,ts1_76,(ts3_3+1)),hq3⟩
  ·rw[TP h10] at hq3
   refine zd ?_ ?_<;>intro h103
   ·rw[HP h103] at hq3
    dsimp only[Option.bind_some] at hq3
    refine z ?_
    refine ei (z ?_)
    refine ci ae Tryz.f118 (z ?_)
    refine zd ?_ ?_<;>intro h104
    ·rw[HP h104] at hq3
     dsimp only[Option.bind_some] at hq3
     refine z ?_
     refine ei (z ?_)
     obtain⟨v105,hv105,hq3⟩:=aa hq3
     refine bK 8 1 3 rfl rfl ?_
     refine lg (α:=Nat×List dw×List Sv.Edge×Nat×Nat) ae (fun(iw,s1,s2,ts1,ts2)=>(dk v1 v2 x6 kR (256-iw) (iw:Int) s1 s2=some v105,⟨104,[(54,.int .i64 iw),(13,.ptr 9 0),(12,.ptr 8 0),(11,.ptr 7 0),(9,.own 6 ts3_3),(10,.int .i64 s1_3),(8,.func (.func 115) [] [.ptr 5 0]),(7,.ptr 5 0),(6,.ptr 3 0),(4,.ptr 2 0),(3,.ptr 1 0),(2,.func (.func fn) [] cap)]⟩,⟨[(12,.row 3 (s2.map cR) ts2 false),(11,.cells [aE v2]),(10,.cells [aE v1]),(9,.cells ((kR).map .bool)),(8,.cells [.bool v9,.own 12 ts2]),(7,.cells [.int .i64 x6.a,.int .i64 x6.b]),(6,.row 2 (List.map gT s3_3) ts3_3 false),(5,.cells [.own 4 ts1]),(4,.row 2 (s1.map gj) ts1 false),(3,.cells [.aD]),(2,.cells [aE v2]),(1,.cells [aE v1]),(0,ba)],13,0,[],[]⟩,(256)-iw)) ⟨(0,_,_,ts2_3,(0)),hv105⟩ ?_
     rintro⟨i105,s1_105,s2_105,ts1_105,ts2_105⟩ hq105
     dsimp only at hq105
     refine z ?_
     refine zd ?_ ?_<;>intro h106
     ·have h106':(i105:Int)<(((256):Nat):Int):=by(try simp only[V4,Wc,Wb,V7] at h106);omega
      rw[df h106',dk] at hq105
      refine z ?_
      obtain⟨j107,x107,en107,ej107,ex107,hq105⟩:=gX hq105
      refine cC en107 ej107 (z ?_)
      rw[fa ex107 (by(show _+_*1=_;omega)) rfl]
      refine z ?_
      refine zr ?_ ?_<;>intro h108
      ·rw[HP h108] at hq105
       refine dg ae [0,1,0,4,0,0,0,64,0,256,992,0,0,4096,0,16384,65504,131040,262128,524284,1048572,2097151,4194303,8388607] [⟨23,0,0,[8]⟩,⟨21,0,0,[12]⟩,⟨18,0,0,[5,4]⟩] (z ?_)
       obtain⟨v115,e115,hq105⟩:=aa hq105
       refine ce (dK e115) (z ?_)
       obtain⟨v116,e116,hq105⟩:=aa hq105
       refine ce (dK e116) (z ?_)
       refine cd ae Tryz.f115 (z ?_)
       obtain⟨v117,e117,hq105⟩:=aa hq105
       refine b6 (eL e117) rfl (z ?_)
       refine zd ?_ ?_<;>intro h118
       ·rw[HP h118] at hq105
        obtain⟨hg119,hq105⟩:=aC hq105
        refine z ?_
        refine aM ({a:=v115,b:=v116}) rfl (z ?_)
        refine ed (z ?_)
        obtain⟨hg120,hq105⟩:=aC hq105
        refine z ?_
        refine aM ({lo:=↑i105,hi:=0,to:=↑s1_105.length}) rfl (z ?_)
        obtain⟨hg121,hq105⟩:=ah hq105
        refine z ?_
        obtain⟨j123,x123,en123,ex123,hq105⟩:=bY hq105
        refine aP en123 ex123 (z ?_)
        refine cw _ ({lo:=x123.lo,hi:=↑i105,to:=x123.to}) ex123 rfl (z ?_)
        exact bk ⟨(i105+1,_,_,(ts1_105+1),(ts2_105+1)),hq105⟩
       ·rw[TP h118] at hq105
        refine ed (z ?_)
        obtain⟨hg124,hq105⟩:=aC hq105
        refine z ?_
        refine aM ({lo:=↑i105,hi:=0,to:=v117}) rfl (z ?_)
        obtain⟨hg125,hq105⟩:=ah hq105
        refine z ?_
        obtain⟨j127,x127,en127,ex127,hq105⟩:=bY hq105
        refine aP en127 ex127 (z ?_)
        refine cw _ ({lo:=x127.lo,hi:=↑i105,to:=x127.to}) ex127 rfl (z ?_)
        exact bk ⟨(i105+1,_,_,ts1_105,(ts2_105+1)),hq105⟩
      ·rw[TP (nt h108)] at hq105
       obtain⟨hg128,hq105⟩:=ah hq105
       refine z ?_
       obtain⟨j130,x130,en130,ex130,hq105⟩:=bY hq105
       refine aP en130 ex130 (z ?_)
       refine cw _ ({lo:=x130.lo,hi:=↑i105,to:=x130.to}) ex130 rfl (z ?_)
       exact bk ⟨(i105+1,_,_,ts1_105,ts2_105),hq105⟩
     ·have h106':¬(i105:Int)<(((256):Nat):Int):=by(try simp only[V4,Wc,Wb,V7] at h106);omega
      rw[de h106',dk] at hq105
      cases hq105
      dsimp only at hq3
      refine z ?_
      obtain⟨hg131,hq3⟩:=aC hq3
      refine z ?_
      refine aM ({acc:=v9,aI:=s2_105}) rfl (z ?_)
      exact bk ⟨(n3,_,_,_,ts1_105,(ts3_3+1)),hq3⟩
    ·rw[TP h104] at hq3
     refine zd ?_ ?_<;>intro h132
     ·rw[HP h132] at hq3
      dsimp only[Option.bind_some] at hq3
      refine z ?_
      refine ei (z ?_)
      obtain⟨v133,hv133,hq3⟩:=aa hq3
      refine bK 8 1 3 rfl rfl ?_
      refine lg (α:=Nat×List dw×List Sv.Edge×Nat×Nat) ae (fun(iw,s1,s2,ts1,ts2)=>(dk v1 v2 x6 kR (256-iw) (iw:Int) s1 s2=some v133,⟨104,[(54,.int .i64 iw),(13,.ptr 9 0),(12,.ptr 8 0),(11,.ptr 7 0),(9,.own 6 ts3_3),(10,.int .i64 s1_3),(8,.func (.func 115) [] [.ptr 5 0]),(7,.ptr 5 0),(6,.ptr 3 0),(4,.ptr 2 0),(3,.ptr 1 0),(2,.func (.func fn) [] cap)]⟩,⟨[(12,.row 3 (s2.map cR) ts2 false),(11,.cells [aE v2]),(10,.cells [aE v1]),(9,.cells ((kR).map .bool)),(8,.cells [.bool v9,.own 12 ts2]),(7,.cells [.int .i64 x6.a,.int .i64 x6.b]),(6,.row 2 (List.map gT s3_3) ts3_3 false),(5,.cells [.own 4 ts1]),(4,.row 2 (s1.map gj) ts1 false),(3,.cells [.aD]),(2,.cells [aE v2]),(1,.cells [aE v1]),(0,ba)],13,0,[],[]⟩,(256)-iw)) ⟨(0,_,_,ts2_3,(0)),hv133⟩ ?_
      rintro⟨i133,s1_133,s2_133,ts1_133,ts2_133⟩ hq133
      dsimp only at hq133
      refine z ?_
      refine zd ?_ ?_<;>intro h134
      ·have h134':(i133:Int)<(((256):Nat):Int):=by(try simp only[V4,Wc,Wb,V7] at h134);omega
       rw[df h134',dk] at hq133
       refine z ?_
       obtain⟨j135,x135,en135,ej135,ex135,hq133⟩:=gX hq133
       refine cC en135 ej135 (z ?_)
       rw[fa ex135 (by(show _+_*1=_;omega)) rfl]
       refine z ?_
       refine zr ?_ ?_<;>intro h136
       ·rw[HP h136] at hq133
        refine dg ae [0,1,0,4,0,0,0,64,0,256,992,0,0,4096,0,16384,65504,131040,262128,524284,1048572,2097151,4194303,8388607] [⟨23,0,0,[8]⟩,⟨21,0,0,[12]⟩,⟨18,0,0,[5,4]⟩] (z ?_)
        obtain⟨v143,e143,hq133⟩:=aa hq133
        refine ce (dK e143) (z ?_)
        obtain⟨v144,e144,hq133⟩:=aa hq133
        refine ce (dK e144) (z ?_)
        refine cd ae Tryz.f115 (z ?_)
        obtain⟨v145,e145,hq133⟩:=aa hq133
        refine b6 (eL e145) rfl (z ?_)
        refine zd ?_ ?_<;>intro h146
        ·rw[HP h146] at hq133
         obtain⟨hg147,hq133⟩:=aC hq133
         refine z ?_
         refine aM ({a:=v143,b:=v144}) rfl (z ?_)
         refine ed (z ?_)
         obtain⟨hg148,hq133⟩:=aC hq133
         refine z ?_
         refine aM ({lo:=↑i133,hi:=0,to:=↑s1_133.length}) rfl (z ?_)
         obtain⟨hg149,hq133⟩:=ah hq133
         refine z ?_
         obtain⟨j151,x151,en151,ex151,hq133⟩:=bY hq133
         refine aP en151 ex151 (z ?_)
         refine cw _ ({lo:=x151.lo,hi:=↑i133,to:=x151.to}) ex151 rfl (z ?_)
         exact bk ⟨(i133+1,_,_,(ts1_133+1),(ts2_133+1)),hq133⟩
        ·rw[TP h146] at hq133
         refine ed (z ?_)
         obtain⟨hg152,hq133⟩:=aC hq133
         refine z ?_
         refine aM ({lo:=↑i133,hi:=0,to:=v145}) rfl (z ?_)
         obtain⟨hg153,hq133⟩:=ah hq133
         refine z ?_
         obtain⟨j155,x155,en155,ex155,hq133⟩:=bY hq133
         refine aP en155 ex155 (z ?_)
         refine cw _ ({lo:=x155.lo,hi:=↑i133,to:=x155.to}) ex155 rfl (z ?_)
         exact bk ⟨(i133+1,_,_,ts1_133,(ts2_133+1)),hq133⟩
       ·rw[TP (nt h136)] at hq133
        obtain⟨hg156,hq133⟩:=ah hq133
        refine z ?_
        obtain⟨j158,x158,en158,ex158,hq133⟩:=bY hq133
        refine aP en158 ex158 (z ?_)
        refine cw _ ({lo:=x158.lo,hi:=↑i133,to:=x158.to}) ex158 rfl (z ?_)
        exact bk ⟨(i133+1,_,_,ts1_133,ts2_133),hq133⟩
      ·have h134':¬(i133:Int)<(((256):Nat):Int):=by(try simp only[V4,Wc,Wb,V7] at h134);omega
       rw[de h134',dk] at hq133
       cases hq133
       dsimp only at hq3
       refine z ?_
       obtain⟨hg159,hq3⟩:=aC hq3
       refine z ?_
       refine aM ({acc:=v9,aI:=s2_133}) rfl (z ?_)
       exact bk ⟨(n3,_,_,_,ts1_133,(ts3_3+1)),hq3⟩
     ·rw[TP h132] at hq3
      rw[VY] at hq3
      refine z ?_
      obtain⟨j160,x160,en160,ex160,hq3⟩:=az hq3
      refine bD en160 ex160 rfl ?_
      rw[VY] at hq3
      refine z ?_
      obtain⟨hg161,hq3⟩:=ah hq3
      obtain⟨v162,hv162,hq3⟩:=aa hq3
      refine lg (α:=Nat×List Bool) ae (fun(iw,s1)=>(gn (List.drop iw x160.aI) s1=some v162,⟨43,[(24,.int .i64 iw),(23,.int .i64 ↑x160.aI.length),(22,.aK false (List.map cR x160.aI)),(10,.bool false),(14,.int .i64 ↑v2.length),(13,aE v2),(12,.ptr 11 0),(11,.int .i64 x6.b),(8,.int .i64 x6.b),(3,.ptr 11 0),(0,.agg [aE v2]),(2,.ptr 9 0)]⟩,⟨[(11,.cells [aE v2]),(10,.cells [aE v1]),(9,.cells (s1.map .bool)),(8,.cells [.bool v9,.aD]),(7,.cells [.int .i64 x6.a,.int .i64 x6.b]),(6,.row 2 (List.map gT s3_3) ts3_3 false),(5,.cells [.own 4 ts2_3]),(4,.row 2 (List.map gj s2_3) ts2_3 false),(3,.cells [.aD]),(2,.cells [aE v2]),(1,.cells [aE v1]),(0,ba)],12,0,[],[]⟩,List.length x160.aI-iw)) ⟨(0,_),hv162⟩ ?_
      rintro⟨i162,s1_162⟩ hq162
      dsimp only at hq162
      refine z ?_
      refine zd ?_ ?_<;>intro h163
      ·obtain⟨x163,ex163,ed163⟩:=av h163
       rw[ed163,gn] at hq162
       refine z ?_
       refine bx ex163 rfl (z ?_)
       refine dg ae [0,0,2,1,15,31] [] (z ?_)
       obtain⟨j164,x164,en164,ej164,ex164,hq162⟩:=dp hq162
       refine cC en164 ej164 (z ?_)
       rw[dS ex164 (by(show _+_*1=_;omega))]
       refine z ?_
       refine zd ?_ ?_<;>intro h165
       ·rw[HP h165] at hq162
        refine dg ae [0,0,2,6,1,31,63] [] (z ?_)
        obtain⟨hg166,hq162⟩:=ah hq162
        refine z ?_
        obtain⟨j168,x168,en168,ej168,ex168,hq162⟩:=dp hq162
        refine cC en168 ej168 (z ?_)
        rw[dS ex168 (by(show _+_*1=_;omega))]
        refine z ?_
        exact bk ⟨(i162+1,_),hq162⟩
       ·rw[TP h165] at hq162
        exact bk ⟨(i162+1,_),hq162⟩
      ·rw[aA h163,gn] at hq162
       cases hq162
       refine z ?_
       refine ei (z ?_)
       obtain⟨v169,hv169,hq3⟩:=aa hq3
       refine bK 8 1 3 rfl rfl ?_
       refine lg (α:=Nat×List dw×List Sv.Edge×Nat×Nat) ae (fun(iw,s1,s2,ts1,ts2)=>(dk v1 v2 x6 v162 (256-iw) (iw:Int) s1 s2=some v169,⟨104,[(54,.int .i64 iw),(13,.ptr 9 0),(12,.ptr 8 0),(11,.ptr 7 0),(9,.own 6 ts3_3),(10,.int .i64 s1_3),(8,.func (.func 115) [] [.ptr 5 0]),(7,.ptr 5 0),(6,.ptr 3 0),(4,.ptr 2 0),(3,.ptr 1 0),(2,.func (.func fn) [] cap)]⟩,⟨[(12,.row 3 (s2.map cR) ts2 false),(11,.cells [aE v2]),(10,.cells [aE v1]),(9,.cells ((v162).map .bool)),(8,.cells [.bool v9,.own 12 ts2]),(7,.cells [.int .i64 x6.a,.int .i64 x6.b]),(6,.row 2 (List.map gT s3_3) ts3_3 false),(5,.cells [.own 4 ts1]),(4,.row 2 (s1.map gj) ts1 false),(3,.cells [.aD]),(2,.cells [aE v2]),(1,.cells [aE v1]),(0,ba)],13,0,[],[]⟩,(256)-iw)) ⟨(0,_,_,ts2_3,(0)),hv169⟩ ?_
       rintro⟨i169,s1_169,s2_169,ts1_169,ts2_169⟩ hq169
       dsimp only at hq169
       refine z ?_
       refine zd ?_ ?_<;>intro h170
       ·have h170':(i169:Int)<(((256):Nat):Int):=by(try simp only[V4,Wc,Wb,V7] at h170);omega
        rw[df h170',dk] at hq169
        refine z ?_
        obtain⟨j171,x171,en171,ej171,ex171,hq169⟩:=gX hq169
        refine cC en171 ej171 (z ?_)
        rw[fa ex171 (by(show _+_*1=_;omega)) rfl]
        refine z ?_
        refine zr ?_ ?_<;>intro h172
        ·rw[HP h172] at hq169
         refine dg ae [0,1,0,4,0,0,0,64,0,256,992,0,0,4096,0,16384,65504,131040,262128,524284,1048572,2097151,4194303,8388607] [⟨23,0,0,[8]⟩,⟨21,0,0,[12]⟩,⟨18,0,0,[5,4]⟩] (z ?_)
         obtain⟨v179,e179,hq169⟩:=aa hq169
         refine ce (dK e179) (z ?_)
         obtain⟨v180,e180,hq169⟩:=aa hq169
         refine ce (dK e180) (z ?_)
         refine cd ae Tryz.f115 (z ?_)
         obtain⟨v181,e181,hq169⟩:=aa hq169
         refine b6 (eL e181) rfl (z ?_)
         refine zd ?_ ?_<;>intro h182
         ·rw[HP h182] at hq169
          obtain⟨hg183,hq169⟩:=aC hq169
          refine z ?_
          refine aM ({a:=v179,b:=v180}) rfl (z ?_)
          refine ed (z ?_)
          obtain⟨hg184,hq169⟩:=aC hq169
          refine z ?_
          refine aM ({lo:=↑i169,hi:=0,to:=↑s1_169.length}) rfl (z ?_)
          obtain⟨hg185,hq169⟩:=ah hq169
          refine z ?_
          obtain⟨j187,x187,en187,ex187,hq169⟩:=bY hq169
          refine aP en187 ex187 (z ?_)
          refine cw _ ({lo:=x187.lo,hi:=↑i169,to:=x187.to}) ex187 rfl (z ?_)
          exact bk ⟨(i169+1,_,_,(ts1_169+1),(ts2_169+1)),hq169⟩
         ·rw[TP h182] at hq169
          refine ed (z ?_)
          obtain⟨hg188,hq169⟩:=aC hq169
          refine z ?_
          refine aM ({lo:=↑i169,hi:=0,to:=v181}) rfl (z ?_)
          obtain⟨hg189,hq169⟩:=ah hq169
          refine z ?_
          obtain⟨j191,x191,en191,ex191,hq169⟩:=bY hq169
          refine aP en191 ex191 (z ?_)
          refine cw _ ({lo:=x191.lo,hi:=↑i169,to:=x191.to}) ex191 rfl (z ?_)
          exact bk ⟨(i169+1,_,_,ts1_169,(ts2_169+1)),hq169⟩
        ·rw[TP (nt h172)] at hq169
         obtain⟨hg192,hq169⟩:=ah hq169
         refine z ?_
         obtain⟨j194,x194,en194,ex194,hq169⟩:=bY hq169
         refine aP en194 ex194 (z ?_)
         refine cw _ ({lo:=x194.lo,hi:=↑i169,to:=x194.to}) ex194 rfl (z ?_)
         exact bk ⟨(i169+1,_,_,ts1_169,ts2_169),hq169⟩
       ·have h170':¬(i169:Int)<(((256):Nat):Int):=by(try simp only[V4,Wc,Wb,V7] at h170);omega
        rw[de h170',dk] at hq169
        cases hq169
        dsimp only at hq3
        refine z ?_
        obtain⟨hg195,hq3⟩:=aC hq3
        refine z ?_
        refine aM ({acc:=v9,aI:=s2_169}) rfl (z ?_)
        exact bk ⟨(n3,_,_,_,ts1_169,(ts3_3+1)),hq3⟩
   ·rw[TP h103] at hq3
    rw[VY] at hq3
    refine z ?_
    obtain⟨j196,x196,en196,ex196,hq3⟩:=az hq3
    refine bD en196 ex196 rfl ?_
    rw[VY] at hq3
    refine z ?_
    obtain⟨hg197,hq3⟩:=ah hq3
    obtain⟨v198,hv198,hq3⟩:=aa hq3
    refine lg (α:=Nat×List Bool) ae (fun(iw,s1)=>(gn (List.drop iw x196.aI) s1=some v198,⟨43,[(24,.int .i64 iw),(23,.int .i64 ↑x196.aI.length),(22,.aK false (List.map cR x196.aI)),(10,.bool false),(14,.int .i64 ↑v1.length),(13,aE v1),(12,.ptr 10 0),(11,.int .i64 x6.a),(8,.int .i64 x6.a),(3,.ptr 10 0),(0,.agg [aE v1]),(2,.ptr 9 0)]⟩,⟨[(10,.cells [aE v1]),(9,.cells (s1.map .bool)),(8,.cells [.bool v9,.aD]),(7,.cells [.int .i64 x6.a,.int .i64 x6.b]),(6,.row 2 (List.map gT s3_3) ts3_3 false),(5,.cells [.own 4 ts2_3]),(4,.row 2 (List.map gj s2_3) ts2_3 false),(3,.cells [.aD]),(2,.cells [aE v2]),(1,.cells [aE v1]),(0,ba)],11,0,[],[]⟩,List.length x196.aI-iw)) ⟨(0,_),hv198⟩ ?_
    rintro⟨i198,s1_198⟩ hq198
    dsimp only at hq198
    refine z ?_
    refine zd ?_ ?_<;>intro h199
    ·obtain⟨x199,ex199,ed199⟩:=av h199
     rw[ed199,gn] at hq198
     refine z ?_
     refine bx ex199 rfl (z ?_)
     refine dg ae [0,0,2,1,15,31] [] (z ?_)
     obtain⟨j200,x200,en200,ej200,ex200,hq198⟩:=dp hq198
     refine cC en200 ej200 (z ?_)
     rw[dS ex200 (by(show _+_*1=_;omega))]
     refine z ?_
     refine zd ?_ ?_<;>intro h201
     ·rw[HP h201] at hq198
      refine dg ae [0,0,2,6,1,31,63] [] (z ?_)
      obtain⟨hg202,hq198⟩:=ah hq198
      refine z ?_
      obtain⟨j204,x204,en204,ej204,ex204,hq198⟩:=dp hq198
      refine cC en204 ej204 (z ?_)
      rw[dS ex204 (by(show _+_*1=_;omega))]
      refine z ?_
      exact bk ⟨(i198+1,_),hq198⟩
     ·rw[TP h201] at hq198
      exact bk ⟨(i198+1,_),hq198⟩
    ·rw[aA h199,gn] at hq198
     cases hq198
     refine z ?_
     refine ei (z ?_)
     refine ci ae Tryz.f118 (z ?_)
     refine zd ?_ ?_<;>intro h205
     ·rw[HP h205] at hq3
      dsimp only[Option.bind_some] at hq3
      refine z ?_
      refine ei (z ?_)
      obtain⟨v206,hv206,hq3⟩:=aa hq3
      refine bK 8 1 3 rfl rfl ?_
      refine lg (α:=Nat×List dw×List Sv.Edge×Nat×Nat) ae (fun(iw,s1,s2,ts1,ts2)=>(dk v1 v2 x6 v198 (256-iw) (iw:Int) s1 s2=some v206,⟨104,[(54,.int .i64 iw),(13,.ptr 9 0),(12,.ptr 8 0),(11,.ptr 7 0),(9,.own 6 ts3_3),(10,.int .i64 s1_3),(8,.func (.func 115) [] [.ptr 5 0]),(7,.ptr 5 0),(6,.ptr 3 0),(4,.ptr 2 0),(3,.ptr 1 0),(2,.func (.func fn) [] cap)]⟩,⟨[(12,.row 3 (s2.map cR) ts2 false),(11,.cells [aE v2]),(10,.cells [aE v1]),(9,.cells ((v198).map .bool)),(8,.cells [.bool v9,.own 12 ts2]),(7,.cells [.int .i64 x6.a,.int .i64 x6.b]),(6,.row 2 (List.map gT s3_3) ts3_3 false),(5,.cells [.own 4 ts1]),(4,.row 2 (s1.map gj) ts1 false),(3,.cells [.aD]),(2,.cells [aE v2]),(1,.cells [aE v1]),(0,ba)],13,0,[],[]⟩,(256)-iw)) ⟨(0,_,_,ts2_3,(0)),hv206⟩ ?_
      rintro⟨i206,s1_206,s2_206,ts1_206,ts2_206⟩ hq206
      dsimp only at hq206
      refine z ?_
      refine zd ?_ ?_<;>intro h207
      ·have h207':(i206:Int)<(((256):Nat):Int):=by(try simp only[V4,Wc,Wb,V7] at h207);omega
       rw[df h207',dk] at hq206
       refine z ?_
       obtain⟨j208,x208,en208,ej208,ex208,hq206⟩:=gX hq206
       refine cC en208 ej208 (z ?_)
       rw[fa ex208 (by(show _+_*1=_;omega)) rfl]
       refine z ?_
       refine zr ?_ ?_<;>intro h209
       ·rw[HP h209] at hq206
        refine dg ae [0,1,0,4,0,0,0,64,0,256,992,0,0,4096,0,16384,65504,131040,262128,524284,1048572,2097151,4194303,8388607] [⟨23,0,0,[8]⟩,⟨21,0,0,[12]⟩,⟨18,0,0,[5,4]⟩] (z ?_)
        obtain⟨v216,e216,hq206⟩:=aa hq206
        refine ce (dK e216) (z ?_)
        obtain⟨v217,e217,hq206⟩:=aa hq206
        refine ce (dK e217) (z ?_)
        refine cd ae Tryz.f115 (z ?_)
        obtain⟨v218,e218,hq206⟩:=aa hq206
        refine b6 (eL e218) rfl (z ?_)
        refine zd ?_ ?_<;>intro h219
        ·rw[HP h219] at hq206
         obtain⟨hg220,hq206⟩:=aC hq206
         refine z ?_
         refine aM ({a:=v216,b:=v217}) rfl (z ?_)
         refine ed (z ?_)
         obtain⟨hg221,hq206⟩:=aC hq206
         refine z ?_
         refine aM ({lo:=↑i206,hi:=0,to:=↑s1_206.length}) rfl (z ?_)
         obtain⟨hg222,hq206⟩:=ah hq206
         refine z ?_
         obtain⟨j224,x224,en224,ex224,hq206⟩:=bY hq206
         refine aP en224 ex224 (z ?_)
         refine cw _ ({lo:=x224.lo,hi:=↑i206,to:=x224.to}) ex224 rfl (z ?_)
         exact bk ⟨(i206+1,_,_,(ts1_206+1),(ts2_206+1)),hq206⟩
        ·rw[TP h219] at hq206
         refine ed (z ?_)
         obtain⟨hg225,hq206⟩:=aC hq206
         refine z ?_
         refine aM ({lo:=↑i206,hi:=0,to:=v218}) rfl (z ?_)
         obtain⟨hg226,hq206⟩:=ah hq206
         refine z ?_
         obtain⟨j228,x228,en228,ex228,hq206⟩:=bY hq206
         refine aP en228 ex228 (z ?_)
         refine cw _ ({lo:=x228.lo,hi:=↑i206,to:=x228.to}) ex228 rfl (z ?_)
         exact bk ⟨(i206+1,_,_,ts1_206,(ts2_206+1)),hq206⟩
       ·rw[TP (nt h209)] at hq206
        obtain⟨hg229,hq206⟩:=ah hq206
        refine z ?_
        obtain⟨j231,x231,en231,ex231,hq206⟩:=bY hq206
        refine aP en231 ex231 (z ?_)
        refine cw _ ({lo:=x231.lo,hi:=↑i206,to:=x231.to}) ex231 rfl (z ?_)
        exact bk ⟨(i206+1,_,_,ts1_206,ts2_206),hq206⟩
      ·have h207':¬(i206:Int)<(((256):Nat):Int):=by(try simp only[V4,Wc,Wb,V7] at h207);omega
       rw[de h207',dk] at hq206
       cases hq206
       dsimp only at hq3
       refine z ?_
       obtain⟨hg232,hq3⟩:=aC hq3
       refine z ?_
       refine aM ({acc:=v9,aI:=s2_206}) rfl (z ?_)
       exact bk ⟨(n3,_,_,_,ts1_206,(ts3_3+1)),hq3⟩
     ·rw[TP h205] at hq3
      refine zd ?_ ?_<;>intro h233
      ·rw[HP h233] at hq3
       dsimp only[Option.bind_some] at hq3
       refine z ?_
       refine ei (z ?_)
       obtain⟨v234,hv234,hq3⟩:=aa hq3
       refine bK 8 1 3 rfl rfl ?_
       refine lg (α:=Nat×List dw×List Sv.Edge×Nat×Nat) ae (fun(iw,s1,s2,ts1,ts2)=>(dk v1 v2 x6 v198 (256-iw) (iw:Int) s1 s2=some v234,⟨104,[(54,.int .i64 iw),(13,.ptr 9 0),(12,.ptr 8 0),(11,.ptr 7 0),(9,.own 6 ts3_3),(10,.int .i64 s1_3),(8,.func (.func 115) [] [.ptr 5 0]),(7,.ptr 5 0),(6,.ptr 3 0),(4,.ptr 2 0),(3,.ptr 1 0),(2,.func (.func fn) [] cap)]⟩,⟨[(12,.row 3 (s2.map cR) ts2 false),(11,.cells [aE v2]),(10,.cells [aE v1]),(9,.cells ((v198).map .bool)),(8,.cells [.bool v9,.own 12 ts2]),(7,.cells [.int .i64 x6.a,.int .i64 x6.b]),(6,.row 2 (List.map gT s3_3) ts3_3 false),(5,.cells [.own 4 ts1]),(4,.row 2 (s1.map gj) ts1 false),(3,.cells [.aD]),(2,.cells [aE v2]),(1,.cells [aE v1]),(0,ba)],13,0,[],[]⟩,(256)-iw)) ⟨(0,_,_,ts2_3,(0)),hv234⟩ ?_
       rintro⟨i234,s1_234,s2_234,ts1_234,ts2_234⟩ hq234
       dsimp only at hq234
       refine z ?_
       refine zd ?_ ?_<;>intro h235
       ·have h235':(i234:Int)<(((256):Nat):Int):=by(try simp only[V4,Wc,Wb,V7] at h235);omega
        rw[df h235',dk] at hq234
        refine z ?_
        obtain⟨j236,x236,en236,ej236,ex236,hq234⟩:=gX hq234
        refine cC en236 ej236 (z ?_)
        rw[fa ex236 (by(show _+_*1=_;omega)) rfl]
        refine z ?_
        refine zr ?_ ?_<;>intro h237
        ·rw[HP h237] at hq234
         refine dg ae [0,1,0,4,0,0,0,64,0,256,992,0,0,4096,0,16384,65504,131040,262128,524284,1048572,2097151,4194303,8388607] [⟨23,0,0,[8]⟩,⟨21,0,0,[12]⟩,⟨18,0,0,[5,4]⟩] (z ?_)
         obtain⟨v244,e244,hq234⟩:=aa hq234
         refine ce (dK e244) (z ?_)
         obtain⟨v245,e245,hq234⟩:=aa hq234
         refine ce (dK e245) (z ?_)
         refine cd ae Tryz.f115 (z ?_)
         obtain⟨v246,e246,hq234⟩:=aa hq234
         refine b6 (eL e246) rfl (z ?_)
         refine zd ?_ ?_<;>intro h247
         ·rw[HP h247] at hq234
          obtain⟨hg248,hq234⟩:=aC hq234
          refine z ?_
          refine aM ({a:=v244,b:=v245}) rfl (z ?_)
          refine ed (z ?_)
          obtain⟨hg249,hq234⟩:=aC hq234
          refine z ?_
          refine aM ({lo:=↑i234,hi:=0,to:=↑s1_234.length}) rfl (z ?_)
          obtain⟨hg250,hq234⟩:=ah hq234
          refine z ?_
          obtain⟨j252,x252,en252,ex252,hq234⟩:=bY hq234
          refine aP en252 ex252 (z ?_)
          refine cw _ ({lo:=x252.lo,hi:=↑i234,to:=x252.to}) ex252 rfl (z ?_)
          exact bk ⟨(i234+1,_,_,(ts1_234+1),(ts2_234+1)),hq234⟩
         ·rw[TP h247] at hq234
          refine ed (z ?_)
          obtain⟨hg253,hq234⟩:=aC hq234
          refine z ?_
          refine aM ({lo:=↑i234,hi:=0,to:=v246}) rfl (z ?_)
          obtain⟨hg254,hq234⟩:=ah hq234
          refine z ?_
          obtain⟨j256,x256,en256,ex256,hq234⟩:=bY hq234
          refine aP en256 ex256 (z ?_)
          refine cw _ ({lo:=x256.lo,hi:=↑i234,to:=x256.to}) ex256 rfl (z ?_)
          exact bk ⟨(i234+1,_,_,ts1_234,(ts2_234+1)),hq234⟩
        ·rw[TP (nt h237)] at hq234
         obtain⟨hg257,hq234⟩:=ah hq234
         refine z ?_
         obtain⟨j259,x259,en259,ex259,hq234⟩:=bY hq234
         refine aP en259 ex259 (z ?_)
         refine cw _ ({lo:=x259.lo,hi:=↑i234,to:=x259.to}) ex259 rfl (z ?_)
         exact bk ⟨(i234+1,_,_,ts1_234,ts2_234),hq234⟩
       ·have h235':¬(i234:Int)<(((256):Nat):Int):=by(try simp only[V4,Wc,Wb,V7] at h235);omega
        rw[de h235',dk] at hq234
        cases hq234
        dsimp only at hq3
        refine z ?_
        obtain⟨hg260,hq3⟩:=aC hq3
        refine z ?_
        refine aM ({acc:=v9,aI:=s2_234}) rfl (z ?_)
        exact bk ⟨(n3,_,_,_,ts1_234,(ts3_3+1)),hq3⟩
      ·rw[TP h233] at hq3
       rw[VY] at hq3
       refine z ?_
       obtain⟨j261,x261,en261,ex261,hq3⟩:=az hq3
       refine bD en261 ex261 rfl ?_
       rw[VY] at hq3
       refine z ?_
       obtain⟨hg262,hq3⟩:=ah hq3
       obtain⟨v263,hv263,hq3⟩:=aa hq3
       refine lg (α:=Nat×List Bool) ae (fun(iw,s1)=>(gn (List.drop iw x261.aI) s1=some v263,⟨43,[(24,.int .i64 iw),(23,.int .i64 ↑x261.aI.length),(22,.aK false (List.map cR x261.aI)),(10,.bool false),(14,.int .i64 ↑v2.length),(13,aE v2),(12,.ptr 11 0),(11,.int .i64 x6.b),(8,.int .i64 x6.b),(3,.ptr 11 0),(0,.agg [aE v2]),(2,.ptr 9 0)]⟩,⟨[(11,.cells [aE v2]),(10,.cells [aE v1]),(9,.cells (s1.map .bool)),(8,.cells [.bool v9,.aD]),(7,.cells [.int .i64 x6.a,.int .i64 x6.b]),(6,.row 2 (List.map gT s3_3) ts3_3 false),(5,.cells [.own 4 ts2_3]),(4,.row 2 (List.map gj s2_3) ts2_3 false),(3,.cells [.aD]),(2,.cells [aE v2]),(1,.cells [aE v1]),(0,ba)],12,0,[],[]⟩,List.length x261.aI-iw)) ⟨(0,_),hv263⟩ ?_
       rintro⟨i263,s1_263⟩ hq263
       dsimp only at hq263
       refine z ?_
       refine zd ?_ ?_<;>intro h264
       ·obtain⟨x264,ex264,ed264⟩:=av h264
        rw[ed264,gn] at hq263
        refine z ?_
        refine bx ex264 rfl (z ?_)
        refine dg ae [0,0,2,1,15,31] [] (z ?_)
        obtain⟨j265,x265,en265,ej265,ex265,hq263⟩:=dp hq263
        refine cC en265 ej265 (z ?_)
        rw[dS ex265 (by(show _+_*1=_;omega))]
        refine z ?_
        refine zd ?_ ?_<;>intro h266
        ·rw[HP h266] at hq263
         refine dg ae [0,0,2,6,1,31,63] [] (z ?_)
         obtain⟨hg267,hq263⟩:=ah hq263
         refine z ?_
         obtain⟨j269,x269,en269,ej269,ex269,hq263⟩:=dp hq263
         refine cC en269 ej269 (z ?_)
         rw[dS ex269 (by(show _+_*1=_;omega))]
         refine z ?_
         exact bk ⟨(i263+1,_),hq263⟩
        ·rw[TP h266] at hq263
         exact bk ⟨(i263+1,_),hq263⟩
       ·rw[aA h264,gn] at hq263
        cases hq263
        refine z ?_
        refine ei (z ?_)
        obtain⟨v270,hv270,hq3⟩:=aa hq3
        refine bK 8 1 3 rfl rfl ?_
        refine lg (α:=Nat×List dw×List Sv.Edge×Nat×Nat) ae (fun(iw,s1,s2,ts1,ts2)=>(dk v1 v2 x6 v263 (256-iw) (iw:Int) s1 s2=some v270,⟨104,[(54,.int .i64 iw),(13,.ptr 9 0),(12,.ptr 8 0),(11,.ptr 7 0),(9,.own 6 ts3_3),(10,.int .i64 s1_3),(8,.func (.func 115) [] [.ptr 5 0]),(7,.ptr 5 0),(6,.ptr 3 0),(4,.ptr 2 0),(3,.ptr 1 0),(2,.func (.func fn) [] cap)]⟩,⟨[(12,.row 3 (s2.map cR) ts2 false),(11,.cells [aE v2]),(10,.cells [aE v1]),(9,.cells ((v263).map .bool)),(8,.cells [.bool v9,.own 12 ts2]),(7,.cells [.int .i64 x6.a,.int .i64 x6.b]),(6,.row 2 (List.map gT s3_3) ts3_3 false),(5,.cells [.own 4 ts1]),(4,.row 2 (s1.map gj) ts1 false),(3,.cells [.aD]),(2,.cells [aE v2]),(1,.cells [aE v1]),(0,ba)],13,0,[],[]⟩,(256)-iw)) ⟨(0,_,_,ts2_3,(0)),hv270⟩ ?_
        rintro⟨i270,s1_270,s2_270,ts1_270,ts2_270⟩ hq270
        dsimp only at hq270
        refine z ?_
        refine zd ?_ ?_<;>intro h271
        ·have h271':(i270:Int)<(((256):Nat):Int):=by(try simp only[V4,Wc,Wb,V7] at h271);omega
         rw[df h271',dk] at hq270
         refine z ?_
         obtain⟨j272,x272,en272,ej272,ex272,hq270⟩:=gX hq270
         refine cC en272 ej272 (z ?_)
         rw[fa ex272 (by(show _+_*1=_;omega)) rfl]
         refine z ?_
         refine zr ?_ ?_<;>intro h273
         ·rw[HP h273] at hq270
          refine dg ae [0,1,0,4,0,0,0,64,0,256,992,0,0,4096,0,16384,65504,131040,262128,524284,1048572,2097151,4194303,8388607] [⟨23,0,0,[8]⟩,⟨21,0,0,[12]⟩,⟨18,0,0,[5,4]⟩] (z ?_)
          obtain⟨v280,e280,hq270⟩:=aa hq270
          refine ce (dK e280) (z ?_)
          obtain⟨v281,e281,hq270⟩:=aa hq270
          refine ce (dK e281) (z ?_)
          refine cd ae Tryz.f115 (z ?_)
          obtain⟨v282,e282,hq270⟩:=aa hq270
          refine b6 (eL e282) rfl (z ?_)
          refine zd ?_ ?_<;>intro h283
          ·rw[HP h283] at hq270
           obtain⟨hg284,hq270⟩:=aC hq270
           refine z ?_
           refine aM ({a:=v280,b:=v281}) rfl (z ?_)
           refine ed (z ?_)
           obtain⟨hg285,hq270⟩:=aC hq270
           refine z ?_
           refine aM ({lo:=↑i270,hi:=0,to:=↑s1_270.length}) rfl (z ?_)
           obtain⟨hg286,hq270⟩:=ah hq270
           refine z ?_
           obtain⟨j288,x288,en288,ex288,hq270⟩:=bY hq270
           refine aP en288 ex288 (z ?_)
           refine cw _ ({lo:=x288.lo,hi:=↑i270,to:=x288.to}) ex288 rfl (z ?_)
           exact bk ⟨(i270+1,_,_,(ts1_270+1),(ts2_270+1)),hq270⟩
          ·rw[TP h283] at hq270
           refine ed (z ?_)
           obtain⟨hg289,hq270⟩:=aC hq270
           refine z ?_
           refine aM ({lo:=↑i270,hi:=0,to:=v282}) rfl (z ?_)
           obtain⟨hg290,hq270⟩:=ah hq270
           refine z ?_
           obtain⟨j292,x292,en292,ex292,hq270⟩:=bY hq270
           refine aP en292 ex292 (z ?_)
           refine cw _ ({lo:=x292.lo,hi:=↑i270,to:=x292.to}) ex292 rfl (z ?_)
           exact bk ⟨(i270+1,_,_,ts1_270,(ts2_270+1)),hq270⟩
         ·rw[TP (nt h273)] at hq270
          obtain⟨hg293,hq270⟩:=ah hq270
          refine z ?_
          obtain⟨j295,x295,en295,ex295,hq270⟩:=bY hq270
          refine aP en295 ex295 (z ?_)
          refine cw _ ({lo:=x295.lo,hi:=↑i270,to:=x295.to}) ex295 rfl (z ?_)
          exact bk ⟨(i270+1,_,_,ts1_270,ts2_270),hq270⟩
        ·have h271':¬(i270:Int)<(((256):Nat):Int):=by(try simp only[V4,Wc,Wb,V7] at h271);omega
         rw[de h271',dk] at hq270
         cases hq270
         dsimp only at hq3
         refine z ?_
         obtain⟨hg296,hq3⟩:=aC hq3
         refine z ?_
         refine aM ({acc:=v9,aI:=s2_270}) rfl (z ?_)
         exact bk ⟨(n3,_,_,_,ts1_270,(ts3_3+1)),hq3⟩
 ·rw[TP h5] at hq3
  cases hq3
  refine z ?_
  obtain⟨v297,e297,hm⟩:=aa hm
  refine bI (vo e297) (z ?_)
  cases hm
  exact mst
def rE (next prev:Int->Option Int) (hi:Int):List Sv.Span->Int->List Sv.Span->Option (List Sv.Span)
 |[],lo,out=>if lo<=hi then push out ⟨lo,hi⟩ else some out
 |s::r,lo,out=>(prev s.lo).bind fun h=>if lo<=h then(push out ⟨lo,h⟩).bind fun out=>(next s.hi).bind fun lo=>rE next prev hi r lo out else(next s.hi).bind fun lo=>rE next prev hi r lo out
def Oj (next prev:Int->Option Int) (l:List Sv.Span) (all:Sv.Span) (out:List Sv.Span):Option (List Sv.Span):=(aR l).bind fun _=>rE next prev all.hi l all.lo out
noncomputable def IM:jq:=⟨⟨13,[(2,.ptr 0 0)]⟩,(nC Tryz.f225).1,(nC Tryz.f225).2.1,(nC Tryz.f225).2.2,0,none⟩
noncomputable def D5 (out:List Sv.Span) (t:Nat):List bo:=[.cells [.own 1 t],.row 2 (out.map cD) t false,.loop IM]
theorem mK (out:List Sv.Span) (t:Nat):k8 3 (D5 out t):=⟨rfl,rfl,rfl,cG _ _ _,rfl,rfl,trivial⟩
theorem Oi {fn fp:FuncId} {next prev:Int->Option Int} (hn:∀{x r},next x=some r->Has Tryz.prog fn [.int .i64 x] fun s=>s= .int .i64 r) (hp:∀{x r},prev x=some r->Has Tryz.prog fp [.int .i64 x] fun s=>s= .int .i64 r) {l out:List Sv.Span} {all:Sv.Span} {r:List Sv.Span} {t:Nat} (hm:Oj next prev l all out=some r):
  xj Tryz.prog 226 (D5 out t) [.func (.yield 2) [] [],.bR (cD all) 0,.bR [a7 l] 0,.bR [.func (.func fp) [] []] 0,.bR [.func (.func fn) [] []] 0] fun v os=>v= .dZ []/\∃t',os=D5 r t':=by
 refine mJ ae (fn:=Tryz.f226) rfl [(0,.cells [.own 1 t]),(1,.row 2 (out.map cD) t false),(2,.loop IM)] 3 rfl rfl (mK _ _) (by simp only[nb,cX,c9,cG,a7,dN,V3];rfl) ?_
 unfold Oj at hm
 refine z ?_
 obtain⟨hg1,hm⟩:=ah hm
 refine lg (α:=Nat×Int×List Span×Nat) ae (fun(iw,s1,s2,ts2)=>(rE next prev all.hi (List.drop iw l) s1 s2=some r,⟨53,[(15,.int .i64 iw),(14,.int .i64 ↑l.length),(13,a7 l),(6,.int .i64 s1),(0,.func (Fn.yield 2) [] []),(1,.bR (cD all) 0),(3,.bR [.func (.func fp) [] []] 0),(4,.bR [.func (.func fn) [] []] 0)]⟩,⟨[(0,.cells [.own 1 ts2]),(1,.row 2 (s2.map cD) ts2 false),(2,.loop IM)],3,0,[],[]⟩,List.length l-iw)) ⟨(0,_,_,t),hm⟩ ?_
 rintro⟨i2,s1_2,s2_2,ts2_2⟩ hq2
 dsimp only at hq2
 refine z ?_
 refine zd ?_ ?_<;>intro h3
 ·obtain⟨x3,ex3,ed3⟩:=av h3
  rw[ed3,rE] at hq2
  refine z ?_
  refine bx ex3 rfl (z ?_)
  obtain⟨v4,e4,hq2⟩:=aa hq2
  refine ce (hp e4) (z ?_)
  refine zd ?_ ?_<;>intro h5
  ·rw[HP h5] at hq2
   refine tZ ae rfl rfl rfl ⟨rfl,rfl,(by decide:4<5),rfl,rfl,(by decide:3<5),rfl,rfl,(by decide:0<5),rfl,cG _ _ _,(by decide:1<5),rfl,rfl,(by decide:2<5),trivial⟩ rfl (z ?_)
   refine G8 rfl (z ?_)
   obtain⟨hg6,hq2⟩:=aC hq2
   refine z ?_
   refine aM ({lo:=s1_2,hi:=v4}) rfl (z ?_)
   refine tp _ rfl ii ⟨rfl,rfl,(by decide:6<7),rfl,rfl,(by decide:5<7),rfl,rfl,(by decide:4<7),rfl,rfl,(by decide:3<7),rfl,rfl,(by decide:0<7),rfl,cG _ _ _,(by decide:1<7),rfl,rfl,(by decide:2<7),trivial⟩ (z ?_)
   obtain⟨v7,e7,hq2⟩:=aa hq2
   refine ce (hn e7) (z ?_)
   exact bk ⟨(i2+1,_,_,(ts2_2+1)),hq2⟩
  ·rw[TP h5] at hq2
   obtain⟨v8,e8,hq2⟩:=aa hq2
   refine ce (hn e8) (z ?_)
   exact bk ⟨(i2+1,_,_,ts2_2),hq2⟩
 ·rw[aA h3,rE] at hq2
  refine zd ?_ ?_<;>intro h9
  ·rw[HP h9] at hq2
   refine tZ ae rfl rfl rfl ⟨rfl,rfl,(by decide:3<4),rfl,rfl,(by decide:0<4),rfl,cG _ _ _,(by decide:1<4),rfl,rfl,(by decide:2<4),trivial⟩ rfl (z ?_)
   refine G8 rfl (z ?_)
   replace hq2:=aJ hq2
   obtain⟨hg11,hq2⟩:=aC hq2
   refine z ?_
   refine aM ({lo:=s1_2,hi:=all.hi}) rfl (z ?_)
   refine tp _ rfl ii ⟨rfl,rfl,(by decide:5<6),rfl,rfl,(by decide:4<6),rfl,rfl,(by decide:3<6),rfl,rfl,(by decide:0<6),rfl,cG _ _ _,(by decide:1<6),rfl,rfl,(by decide:2<6),trivial⟩ (z ?_)
   cases hq2
   exact cY (dL (D5 _ _) rfl ⟨rfl,rfl,rfl,trivial⟩ (mK _ _) rfl ii ⟨rfl,_,rfl⟩)
  ·rw[TP h9] at hq2
   cases hq2
   exact cY (dL (D5 _ _) rfl ⟨rfl,rfl,rfl,trivial⟩ (mK _ _) rfl ii ⟨rfl,_,rfl⟩)
def oO (next prev:Int->Option Int) (l:List Sv.Span) (all:Sv.Span):Option (List Sv.Span):=(Oj next prev l all []).bind fun r=>some r
theorem I1 {fn fp:FuncId} {next prev:Int->Option Int} (hn:∀{x r},next x=some r->Has Tryz.prog fn [.int .i64 x] fun s=>s= .int .i64 r) (hp:∀{x r},prev x=some r->Has Tryz.prog fp [.int .i64 x] fun s=>s= .int .i64 r) {l:List Sv.Span} {all:Sv.Span} {r:List Sv.Span} (hm:oO next prev l all=some r):
  Has Tryz.prog 191 [.func (.func 226) [] [.bR (cD all) 0,.bR [a7 l] 0,.bR [.func (.func fp) [] []] 0,.bR [.func (.func fn) [] []] 0]] fun s=>s=a7 r:=by
 refine hs ae Tryz.f191 ?_
 unfold oO at hm
 refine z ?_
 refine ci ae Tryz.f225 (z ?_)
 refine sk 0 0 2 rfl rfl ?_
 obtain⟨v1,e1,hm⟩:=aa hm
 refine so (t1:=[(2,.ptr 0 0)]) (Oi hn hp (t:=0) e1) ⟨rfl,rfl,trivial⟩ rfl rfl rfl rfl ⟨rfl,rfl,rfl,trivial⟩ ?_
 rintro _ _ ⟨rfl,t1,rfl⟩
 refine z ?_
 refine⟨IM,.normal,rfl,(fun h=>by cases h),rfl,?_⟩
 refine z ?_
 refine ei (z ?_)
 cases hm
 refine dH (z ?_)
 first|exact e2|exact rfl
def gU (l:List Bool):List SVal:=[.aK false (l.map di)]
instance :Cl gU:=⟨fun l=>by simp only[gU,aB,closed,eM di,V3]⟩
def R9 (b:UInt8):List SVal:=[.int .u8 b.toNat]
instance :Cl R9:=⟨fun _=>rfl⟩
theorem OA {b:Int} (h:0<=b/\b<256):R9 (UInt8.ofNat b.toNat)=[.int .u8 b]:=by
 unfold R9
 have:((UInt8.ofNat b.toNat).toNat:Int)=b:=by
  rw[XQ];omega
 rw[this]
instance :Cl lB:=⟨fun _=>rfl⟩
abbrev l4:=List (List UInt8)
def wvY (n:Int) (w:List UInt8) (out:l4):Option (l4×Bool):=(push out w).bind fun out=>(aR out).bind fun _=>if(out.length:Int)=(if 1000<n then 1000 else n) then some (out,false) else some (out,true)
noncomputable def jx (done:Bool):jq:=⟨⟨24,[(5,.ptr 3 0),(3,.ptr 2 0)]⟩,(nC Tryz.f147).1,(nC Tryz.f147).2.1,(nC Tryz.f147).2.2,Bool.rec 0 2 done,Bool.rec none (some (.exit 0)) done⟩
abbrev S8:=Int->List UInt8->l4->Option (l4×Bool)
def Qa (rec:S8) (tb:List (List Bool)) (left:Int) (e:Sv.Edge) (pre:List UInt8):Nat->Int->l4->Option (Ctl (l4×Bool) l4)
 |0,_,_=>none
 |f+1,b,out=>(lO e.hi).bind fun _=>if b<=e.hi then(dD (left-1)).bind fun _=>(cJ tb (left-1)).bind fun row=>(cJ row e.to).bind fun ok=>if ok then(lO b).bind fun _=>(push pre (UInt8.ofNat b.toNat)).bind fun pre'=>(rec e.to pre' out).bind fun p=>if p.2 then Qa rec tb left e pre f (b+1) p.1 else some (.ret (p.1,false)) else some (.Fv out) else some (.Fv out)
def PV (rec:S8) (tb:List (List Bool)) (left:Int) (pre:List UInt8):List Sv.Edge->l4->Option (l4×Bool)
 |[],out=>some (out,true)
 |e::r,out=>(lO e.lo).bind fun _=>(Qa rec tb left e pre 258 e.lo out).bind fun
  | .ret x=>some x
  | .Fv out=>PV rec tb left pre r out
def LO (a:List bj) (tb:List (List Bool)) (n:Int):Nat->S8
 |0,s,pre,out=>wvY n pre out
 |k+1,s,pre,out=>(cJ a s).bind fun x=>(aR x.aI).bind fun _=>PV (LO a tb n k) tb (k+1:Nat) pre x.aI out
noncomputable def fL (a0:List bj) (n:Int) (out:l4) (t:Nat) (done:Bool) (r:List bo):List bo:=
 ba:: .cells [aE a0]:: .cells [.int .i64 n]:: .cells [.own 4 t]:: .row 1 (out.map lB) t false:: .loop (jx done)::r
theorem AN (m:Nat) (a:List bj):nb m (aE a)=true:=cG _ _ _
theorem cm {m:Nat} (hm:6<=m) (a0:List bj) (n:Int) (out:l4) (t:Nat) (done:Bool) {r:List bo} (h:k8 m r):k8 m (fL a0 n out t done r):=by
 refine⟨rfl,bq _ _ (by decide),rfl,by simp only[gN,cX,AN,V3],rfl,rfl,rfl,?_,rfl,cG _ _ _,rfl,?_,h⟩
 ·simp only[gN,cX,nb,Wz,WY];omega
 ·simp only[gN,jx,lM,nb,Wz,Wa,WY];omega
noncomputable def Ag (a:List bj) (tb:List (List Bool)):List bo:=
 [.cells [aE a],.cells [.func (.yield 5) [] []],.cells [.aK false (tb.map gU)],.cells [.func (.func 280) [] [.ptr 7 0,.ptr 6 0,.ptr 8 0,.ptr 9 0]]]
theorem eW (a:List bj) (tb:List (List Bool)):k8 10 (Ag a tb):=
 ⟨rfl,by simp only[gN,cX,AN,V3],rfl,rfl,rfl,by simp only[gN,cX,nb,cG,V3],rfl,rfl,trivial⟩
theorem TQ {a0 a:List bj} {tb:List (List Bool)} {n:Int}:∀{k:Nat} {s:Int} {pre:List UInt8} {out:l4} {p:l4×Bool} {t:Nat} (hm:LO a tb n k s pre out=some p),
  xj Tryz.prog 280 (fL a0 n out t false (Ag a tb)) [.int .i64 s,.int .i64 k,.aK false (pre.map R9),.ptr 7 0,.ptr 6 0,.ptr 8 0,.ptr 9 0] fun v os=>v= .bool p.2/\∃t',os=fL a0 n p.1 t' (!p.2) (Ag a tb):=by
 intro k
 induction k with
 |zero=>
  intro s pre out p t hm
  refine mJ ae (fn:=Tryz.f280) rfl [(0,ba),(1,.cells [aE a0]),(2,.cells [.int .i64 n]),(3,.cells [.own 4 t]),(4,.row 1 (out.map lB) t false),(5,.loop (jx false)),(6,.cells [aE a]),(7,.cells [.func (.yield 5) [] []]),(8,.cells [.aK false (tb.map gU)]),(9,.cells [.func (.func 280) [] [.ptr 7 0,.ptr 6 0,.ptr 8 0,.ptr 9 0]])] 10 rfl rfl (cm ii _ _ _ _ _ (eW _ _)) (by simp only[nb,cX,cG,V3];rfl) ?_
  unfold LO wvY at hm
  refine z ?_
  refine⟨pre,.aK,?_⟩
  refine z ?_
  refine tZ ae rfl rfl rfl ⟨rfl,rfl,(by decide:0<10),rfl,(by simp only[nb,cX,gN,lM,js,aE,a7,cG,c9,dN,V3,WD,Wz]),(by decide:1<10),rfl,rfl,(by decide:2<10),rfl,rfl,(by decide:3<10),rfl,cG _ _ _,(by decide:4<10),rfl,rfl,(by decide:5<10),rfl,(by simp only[nb,cX,gN,lM,js,aE,a7,cG,c9,dN,V3,WD,Wz]),(by decide:6<10),rfl,rfl,(by decide:7<10),rfl,(by simp only[nb,cX,gN,lM,js,cG,c9,V3,WD,Wz]),(by decide:8<10),rfl,rfl,(by decide:9<10),trivial⟩ rfl (z ?_)
  refine G8 rfl (z ?_)
  obtain⟨hg1,hm⟩:=aC hm
  refine z ?_
  refine aM pre rfl (z ?_)
  obtain⟨hg2,hm⟩:=ah hm
  refine zd ?_ ?_<;>intro h3
  ·rw[HP h3] at hm
   refine tp _ rfl ii ⟨rfl,rfl,(by decide:10<11),rfl,rfl,(by decide:0<11),rfl,(by simp only[nb,cX,gN,lM,js,aE,a7,cG,c9,dN,V3,WD,Wz]),(by decide:1<11),rfl,rfl,(by decide:2<11),rfl,rfl,(by decide:3<11),rfl,cG _ _ _,(by decide:4<11),rfl,rfl,(by decide:5<11),rfl,(by simp only[nb,cX,gN,lM,js,aE,a7,cG,c9,dN,V3,WD,Wz]),(by decide:6<11),rfl,rfl,(by decide:7<11),rfl,(by simp only[nb,cX,gN,lM,js,cG,c9,V3,WD,Wz]),(by decide:8<11),rfl,rfl,(by decide:9<11),trivial⟩ (z ?_)
   cases hm
   exact cY (dL (fL a0 n _ _ true (Ag a tb)) rfl ⟨rfl,rfl,rfl,rfl,rfl,rfl,rfl,rfl,rfl,rfl,trivial⟩ (cm ii _ _ _ _ _ (eW _ _)) rfl ii ⟨rfl,_,rfl⟩)
  ·rw[TP h3] at hm
   refine tp _ rfl ii ⟨rfl,rfl,(by decide:10<11),rfl,rfl,(by decide:0<11),rfl,(by simp only[nb,cX,gN,lM,js,aE,a7,cG,c9,dN,V3,WD,Wz]),(by decide:1<11),rfl,rfl,(by decide:2<11),rfl,rfl,(by decide:3<11),rfl,cG _ _ _,(by decide:4<11),rfl,rfl,(by decide:5<11),rfl,(by simp only[nb,cX,gN,lM,js,aE,a7,cG,c9,dN,V3,WD,Wz]),(by decide:6<11),rfl,rfl,(by decide:7<11),rfl,(by simp only[nb,cX,gN,lM,js,cG,c9,V3,WD,Wz]),(by decide:8<11),rfl,rfl,(by decide:9<11),trivial⟩ (z ?_)
   cases hm
   exact cY (dL (fL a0 n _ _ false (Ag a tb)) rfl ⟨rfl,rfl,rfl,rfl,rfl,rfl,rfl,rfl,rfl,rfl,trivial⟩ (cm ii _ _ _ _ _ (eW _ _)) rfl ii ⟨rfl,_,rfl⟩)
 |succ k ih=>
  intro s pre out p t hm
  refine mJ ae (fn:=Tryz.f280) rfl [(0,ba),(1,.cells [aE a0]),(2,.cells [.int .i64 n]),(3,.cells [.own 4 t]),(4,.row 1 (out.map lB) t false),(5,.loop (jx false)),(6,.cells [aE a]),(7,.cells [.func (.yield 5) [] []]),(8,.cells [.aK false (tb.map gU)]),(9,.cells [.func (.func 280) [] [.ptr 7 0,.ptr 6 0,.ptr 8 0,.ptr 9 0]])] 10 rfl rfl (cm ii _ _ _ _ _ (eW _ _)) (by simp only[nb,cX,cG,V3];rfl) ?_
  unfold LO at hm
  rcases pre with _|⟨p0,pre⟩
  ·refine z ?_
   obtain⟨j1,x1,en1,ex1,hm⟩:=az hm
   refine bD en1 ex1 rfl (z ?_)
   obtain⟨hg2,hm⟩:=ah hm
   refine lg (α:=Nat×l4×Nat) ae (fun(iw,s1,ts1)=>(PV (LO a tb n k) tb (↑(k+1)) ([]) (List.drop iw x1.aI) s1=some p,⟨70,[(27,.int .i64 iw),(26,.int .i64 ↑x1.aI.length),(25,.aK false (List.map cR x1.aI)),(10,.bool false),(1,.int .i64 ↑(k+1)),(2,.aK false (List.map R9 [])),(5,.ptr 8 0),(6,.ptr 9 0)]⟩,⟨[(0,ba),(1,.cells [aE a0]),(2,.cells [.int .i64 n]),(3,.cells [.own 4 ts1]),(4,.row 1 (s1.map lB) ts1 false),(5,.loop (jx false)),(6,.cells [aE a]),(7,.cells [.func (Fn.yield 5) [] []]),(8,.cells [.aK false (List.map gU tb)]),(9,.cells [.func (.func 280) [] [.ptr 7 0,.ptr 6 0,.ptr 8 0,.ptr 9 0]])],10,0,[],[]⟩,List.length x1.aI-iw)) ⟨(0,_,t),hm⟩ ?_
   rintro⟨i3,s1_3,ts1_3⟩ hq3
   dsimp only at hq3
   refine z ?_
   refine zd ?_ ?_<;>intro h4
   ·obtain⟨x4,ex4,ed4⟩:=av h4
    rw[ed4,PV] at hq3
    refine z ?_
    obtain⟨hg5,hq3⟩:=ah hq3
    refine bx ex4 rfl (z ?_)
    obtain⟨v6,hv6,hq3⟩:=aa hq3
    refine lg (α:=Nat×Int×l4×Nat) ae (fun(nw,s1,s2,ts2)=>(Qa (LO a tb n k) tb (↑(k+1)) x4 ([]) nw s1 s2=some v6,⟨70,[(13,.int .i64 s1),(12,.ptr 10 0),(27,.int .i64 ↑i3),(26,.int .i64 ↑x1.aI.length),(25,.aK false (List.map cR x1.aI)),(10,.bool false),(1,.int .i64 ↑(k+1)),(2,.aK false (List.map R9 [])),(5,.ptr 8 0),(6,.ptr 9 0)]⟩,⟨[(10,.cells [.int .u8 x4.lo,.int .u8 x4.hi,.int .i64 x4.to]),(0,ba),(1,.cells [aE a0]),(2,.cells [.int .i64 n]),(3,.cells [.own 4 ts2]),(4,.row 1 (s2.map lB) ts2 false),(5,.loop (jx false)),(6,.cells [aE a]),(7,.cells [.func (Fn.yield 5) [] []]),(8,.cells [.aK false (List.map gU tb)]),(9,.cells [.func (.func 280) [] [.ptr 7 0,.ptr 6 0,.ptr 8 0,.ptr 9 0]])],11,0,[],[]⟩,nw)) ⟨(_,_,_,ts1_3),hv6⟩ ?_
    rintro⟨n6,s1_6,s2_6,ts2_6⟩ hq6
    dsimp only at hq6
    rcases n6 with _|n6
    ·(unfold Qa at hq6;cases hq6)
    unfold Qa at hq6
    refine z ?_
    refine dg ae [0,0,2,6,15,31,63,63,191,511,1023,63,2111,8191,16383,32767] [] (z ?_)
    obtain⟨hg7,hq6⟩:=ah hq6
    refine z ?_
    refine zd ?_ ?_<;>intro h8
    ·rw[HP h8] at hq6
     obtain⟨hg9,hq6⟩:=ah hq6
     refine z ?_
     obtain⟨j11,x11,en11,ex11,hq6⟩:=az hq6
     refine bD en11 ex11 rfl (z ?_)
     obtain⟨j12,x12,en12,ex12,hq6⟩:=az hq6
     refine bD en12 ex12 rfl (z ?_)
     refine zr ?_ ?_<;>intro h13
     ·rw[HP h13] at hq6
      refine dg ae [0,0,2,0,8,0,0,64,0,256,992,0,2048,6144,16352,32767,65535] [] (z ?_)
      obtain⟨hg14,hq6⟩:=ah hq6
      refine⟨0,_,rfl,rfl,rfl,Wd _,by simp only[V4];omega,?_⟩
      refine z ?_
      refine Ha (z ?_)
      obtain⟨hg15,hq6⟩:=aC hq6
      refine z ?_
      refine BN R9 (UInt8.ofNat s1_6.toNat) (OA ii) (z ?_)
      obtain⟨v16,e16,hq6⟩:=aa hq6
      refine jn (ih (t:=ts2_6) e16) (z ?_)
      refine⟨by rw[show((k+1:Nat):Int)-1=(k:Int) by omega]<;>rfl,⟨rfl,rfl,rfl,rfl,rfl,rfl,rfl,rfl,rfl,rfl,trivial⟩,?_⟩
      rintro _ _ ⟨rfl,t16,rfl⟩
      rcases v16 with⟨o16,_|_⟩<;>dsimp only at hq6
      ·refine z ?_
       rw[TP Wr] at hq6
       cases hq6
       dsimp only at hq3
       cases hq3
       exact cY (dL (fL a0 n _ _ true (Ag a tb)) rfl ⟨rfl,rfl,rfl,rfl,rfl,rfl,rfl,rfl,rfl,rfl,trivial⟩ (cm ii _ _ _ _ _ (eW _ _)) rfl ii ⟨rfl,_,rfl⟩)
      ·refine z ?_
       rw[HP rfl] at hq6
       exact bk ⟨(n6,_,_,t16),hq6⟩
     ·rw[TP (nt h13)] at hq6
      cases hq6
      dsimp only at hq3
      refine z ?_
      exact bk ⟨(i3+1,_,ts2_6),hq3⟩
    ·rw[TP h8] at hq6
     cases hq6
     dsimp only at hq3
     refine z ?_
     exact bk ⟨(i3+1,_,ts2_6),hq3⟩
   ·rw[aA h4,PV] at hq3
    cases hq3
    exact cY (dL (fL a0 n _ _ false (Ag a tb)) rfl ⟨rfl,rfl,rfl,rfl,rfl,rfl,rfl,rfl,rfl,rfl,trivial⟩ (cm ii _ _ _ _ _ (eW _ _)) rfl ii ⟨rfl,_,rfl⟩)
  ·refine z ?_
   obtain⟨j1,x1,en1,ex1,hm⟩:=az hm
   refine bD en1 ex1 rfl (z ?_)
   obtain⟨hg2,hm⟩:=ah hm
   refine lg (α:=Nat×l4×Nat) ae (fun(iw,s1,ts1)=>(PV (LO a tb n k) tb (↑(k+1)) (p0::pre) (List.drop iw x1.aI) s1=some p,⟨70,[(27,.int .i64 iw),(26,.int .i64 ↑x1.aI.length),(25,.aK false (List.map cR x1.aI)),(10,.bool false),(1,.int .i64 ↑(k+1)),(2,.aK false (List.map R9 (p0::pre))),(5,.ptr 8 0),(6,.ptr 9 0)]⟩,⟨[(0,ba),(1,.cells [aE a0]),(2,.cells [.int .i64 n]),(3,.cells [.own 4 ts1]),(4,.row 1 (s1.map lB) ts1 false),(5,.loop (jx false)),(6,.cells [aE a]),(7,.cells [.func (Fn.yield 5) [] []]),(8,.cells [.aK false (List.map gU tb)]),(9,.cells [.func (.func 280) [] [.ptr 7 0,.ptr 6 0,.ptr 8 0,.ptr 9 0]])],10,0,[],[]⟩,List.length x1.aI-iw)) ⟨(0,_,t),hm⟩ ?_
   rintro⟨i3,s1_3,ts1_3⟩ hq3
   dsimp only at hq3
   refine z ?_
   refine zd ?_ ?_<;>intro h4
   ·obtain⟨x4,ex4,ed4⟩:=av h4
    rw[ed4,PV] at hq3
    refine z ?_
    obtain⟨hg5,hq3⟩:=ah hq3
    refine bx ex4 rfl (z ?_)
    obtain⟨v6,hv6,hq3⟩:=aa hq3
    refine lg (α:=Nat×Int×l4×Nat) ae (fun(nw,s1,s2,ts2)=>(Qa (LO a tb n k) tb (↑(k+1)) x4 (p0::pre) nw s1 s2=some v6,⟨70,[(13,.int .i64 s1),(12,.ptr 10 0),(27,.int .i64 ↑i3),(26,.int .i64 ↑x1.aI.length),(25,.aK false (List.map cR x1.aI)),(10,.bool false),(1,.int .i64 ↑(k+1)),(2,.aK false (List.map R9 (p0::pre))),(5,.ptr 8 0),(6,.ptr 9 0)]⟩,⟨[(10,.cells [.int .u8 x4.lo,.int .u8 x4.hi,.int .i64 x4.to]),(0,ba),(1,.cells [aE a0]),(2,.cells [.int .i64 n]),(3,.cells [.own 4 ts2]),(4,.row 1 (s2.map lB) ts2 false),(5,.loop (jx false)),(6,.cells [aE a]),(7,.cells [.func (Fn.yield 5) [] []]),(8,.cells [.aK false (List.map gU tb)]),(9,.cells [.func (.func 280) [] [.ptr 7 0,.ptr 6 0,.ptr 8 0,.ptr 9 0]])],11,0,[],[]⟩,nw)) ⟨(_,_,_,ts1_3),hv6⟩ ?_
    rintro⟨n6,s1_6,s2_6,ts2_6⟩ hq6
    dsimp only at hq6
    rcases n6 with _|n6
    ·(unfold Qa at hq6;cases hq6)
    unfold Qa at hq6
    refine z ?_
    refine dg ae [0,0,2,6,15,31,63,63,191,511,1023,63,2111,8191,16383,32767] [] (z ?_)
    obtain⟨hg7,hq6⟩:=ah hq6
    refine z ?_
    refine zd ?_ ?_<;>intro h8
    ·rw[HP h8] at hq6
     obtain⟨hg9,hq6⟩:=ah hq6
     refine z ?_
     obtain⟨j11,x11,en11,ex11,hq6⟩:=az hq6
     refine bD en11 ex11 rfl (z ?_)
     obtain⟨j12,x12,en12,ex12,hq6⟩:=az hq6
     refine bD en12 ex12 rfl (z ?_)
     refine zr ?_ ?_<;>intro h13
     ·rw[HP h13] at hq6
      refine dg ae [0,0,2,0,8,0,0,64,0,256,992,0,2048,6144,16352,32767,65535] [] (z ?_)
      obtain⟨hg14,hq6⟩:=ah hq6
      refine⟨0,_,rfl,rfl,rfl,Wd _,by simp only[V4];omega,?_⟩
      refine z ?_
      refine Ha (z ?_)
      obtain⟨hg15,hq6⟩:=aC hq6
      refine z ?_
      refine aM (UInt8.ofNat s1_6.toNat) (OA ii) (z ?_)
      obtain⟨v17,e17,hq6⟩:=aa hq6
      refine jn (ih (t:=ts2_6) e17) (z ?_)
      refine⟨by rw[show((k+1:Nat):Int)-1=(k:Int) by omega]<;>rfl,⟨rfl,rfl,rfl,rfl,rfl,rfl,rfl,rfl,rfl,rfl,trivial⟩,?_⟩
      rintro _ _ ⟨rfl,t17,rfl⟩
      rcases v17 with⟨o17,_|_⟩<;>dsimp only at hq6
      ·refine z ?_
       rw[TP Wr] at hq6
       cases hq6
       dsimp only at hq3
       cases hq3
       exact cY (dL (fL a0 n _ _ true (Ag a tb)) rfl ⟨rfl,rfl,rfl,rfl,rfl,rfl,rfl,rfl,rfl,rfl,trivial⟩ (cm ii _ _ _ _ _ (eW _ _)) rfl ii ⟨rfl,_,rfl⟩)
      ·refine z ?_
       rw[HP rfl] at hq6
       exact bk ⟨(n6,_,_,t17),hq6⟩
     ·rw[TP (nt h13)] at hq6
      cases hq6
      dsimp only at hq3
      refine z ?_
      exact bk ⟨(i3+1,_,ts2_6),hq3⟩
    ·rw[TP h8] at hq6
     cases hq6
     dsimp only at hq3
     refine z ?_
     exact bk ⟨(i3+1,_,ts2_6),hq3⟩
   ·rw[aA h4,PV] at hq3
    cases hq3
    exact cY (dL (fL a0 n _ _ false (Ag a tb)) rfl ⟨rfl,rfl,rfl,rfl,rfl,rfl,rfl,rfl,rfl,rfl,trivial⟩ (cm ii _ _ _ _ _ (eW _ _)) rfl ii ⟨rfl,_,rfl⟩)
def Gx (v:Bool):List Bool->Int->Option Int
 |[],_=>some (-1)
 |x::r,i=>if(v==x) then some i else Gx v r (i+1)
def K7 (l:List Bool) (v:Bool):Option Bool:=(aR l).bind fun _=>(Gx v l 0).bind fun k=>some (decide (k>=0))
theorem Bo {l:List Bool} {v:Bool} {r:Bool} (hm:K7 l v=some r):Has Tryz.prog 26 [.aK false (l.map di),.bool v] fun s=>s= .bool r:=by
 refine hs ae Tryz.f26 ?_
 unfold K7 at hm
 refine z ?_
 refine ci ae Tryz.f50 (z ?_)
 obtain⟨hg1,hm⟩:=ah hm
 obtain⟨v2,hv2,hm⟩:=aa hm
 refine lg (α:=Nat) ae (fun iw=>(Gx v (List.drop iw l) (iw:Int)=some v2,⟨19,[(8,.int .i64 iw),(7,.int .i64 ↑l.length),(6,.aK false (List.map di l)),(4,.int .i64 0),(0,.aK false (List.map di l)),(1,.bool v)]⟩,⟨[],0,0,[],[]⟩,List.length l-iw)) ⟨(0),hv2⟩ ?_
 intro i2 hq2
 dsimp only at hq2
 refine z ?_
 refine zd ?_ ?_<;>intro h3
 obtain⟨x3,ex3,ed3⟩:=av h3
 rw[ed3,Gx] at hq2
 refine z ?_
 refine bx ex3 rfl (z ?_)
 refine zr ?_ ?_<;>intro h4
 rw[HP h4] at hq2
 cases hq2
 refine z ?_
 refine ei (z ?_)
 cases hm
 exact fc
 rw[TP (nt h4)] at hq2
 exact bk ⟨i2+1,hq2⟩
 rw[aA h3,Gx] at hq2
 cases hq2
 refine z ?_
 refine ei (z ?_)
 cases hm
 exact fc
def TE (less:List Bool) (s:Int):List Sv.Edge->List Bool->Option (List Bool)
 |[],o=>some o
 |e::r,o=>(cJ o s).bind fun x=>if x then(kZ o s true).bind fun o=>TE less s r o else(cJ less e.to).bind fun y=>(kZ o s y).bind fun o=>TE less s r o
def Vr (a:List bj) (less:List Bool):List bj->Int->List Bool->Option (List Bool)
 |[],_,o=>some o
 |_::r,i,o=>(cJ a i).bind fun x=>(aR x.aI).bind fun _=>(TE less i x.aI o).bind fun o=>Vr a less r (i+1) o
def Pb (a:List bj) (less:List Bool):Option (List Bool):=(Tx a).bind fun _=>(aR a).bind fun _=>Vr a less a 0 (List.replicate a.length false)
theorem Vq {a:List bj} {less r:List Bool} (hm:Pb a less=some r):Has Tryz.prog 222 [.agg [aE a],.aK false (less.map di)] fun s=>s= .aK false (r.map di):=by
 refine hs ae Tryz.f222 ?_
 unfold Pb at hm
 refine z ?_
 obtain⟨hg1,hm⟩:=ah hm
 obtain⟨hg2,hm⟩:=ah hm
 refine⟨_,_,rfl,rfl,V2 _,by omega,?_⟩
 refine z ?_
 refine jL di a.length false (by first|rfl|simp only[V4]) rfl (z ?_)
 refine lg (α:=Nat×List Bool×Nat) ae (fun(iw,s1,ts1)=>(Vr a less (List.drop iw a) (iw:Int) s1=some r,⟨47,[(16,.int .i64 iw),(15,.int .i64 ↑a.length),(5,.own 1 ts1),(4,.aD),(2,.ptr 0 0),(1,.aK false (List.map di less))]⟩,⟨[(1,.row 1 (s1.map di) ts1 false),(0,.cells [aE a])],2,0,[],[]⟩,List.length a-iw)) ⟨(0,_,(0)),hm⟩ ?_
 rintro⟨i3,s1_3,ts1_3⟩ hq3
 dsimp only at hq3
 refine z ?_
 refine zd ?_ ?_<;>intro h4
 obtain⟨x4,ex4,ed4⟩:=av h4
 rw[ed4,Vr] at hq3
 refine z ?_
 obtain⟨j5,x5,en5,ex5,hq3⟩:=az hq3
 refine bD en5 ex5 rfl (z ?_)
 obtain⟨hg6,hq3⟩:=ah hq3
 refine bd rfl rfl ?_
 obtain⟨v7,hv7,hq3⟩:=aa hq3
 refine lg (α:=Nat×List Bool×Nat) ae (fun(iw,s1,ts1)=>(TE less (↑i3) (List.drop iw x5.aI) s1=some v7,⟨47,[(26,.int .i64 iw),(25,.int .i64 ↑x5.aI.length),(24,.aK false (List.map cR x5.aI)),(6,.int .i64 ↑i3),(16,.int .i64 ↑i3),(15,.int .i64 ↑a.length),(5,.own 1 ts1),(4,.aD),(2,.ptr 0 0),(1,.aK false (List.map di less))]⟩,⟨[(1,.row 1 (s1.map di) ts1 false),(0,.cells [aE a])],2,0,[],[]⟩,List.length x5.aI-iw)) ⟨(0,_,ts1_3),hv7⟩ ?_
 rintro⟨i7,s1_7,ts1_7⟩ hq7
 dsimp only at hq7
 refine z ?_
 refine zd ?_ ?_<;>intro h8
 obtain⟨x8,ex8,ed8⟩:=av h8
 rw[ed8,TE] at hq7
 refine z ?_
 refine bx ex8 rfl (z ?_)
 obtain⟨j9,x9,en9,ex9,hq7⟩:=az hq7
 refine aP en9 ex9 (z ?_)
 refine bT ex9 (z ?_)
 refine zr ?_ ?_<;>intro h10
 rw[HP h10] at hq7
 obtain⟨j11,x11,en11,ex11,hq7⟩:=cO hq7
 refine aP en11 ex11 (z ?_)
 refine cw _ true ex11 rfl (z ?_)
 exact bk ⟨(i7+1,_,ts1_7),hq7⟩
 rw[TP (nt h10)] at hq7
 obtain⟨j12,x12,en12,ex12,hq7⟩:=az hq7
 refine bD en12 ex12 rfl (z ?_)
 obtain⟨j13,x13,en13,ex13,hq7⟩:=cO hq7
 refine aP en13 ex13 (z ?_)
 refine cw _ x12 ex13 rfl (z ?_)
 exact bk ⟨(i7+1,_,ts1_7),hq7⟩
 rw[aA h8,TE] at hq7
 cases hq7
 refine z ?_
 exact bk ⟨(i3+1,_,ts1_7),hq3⟩
 rw[aA h4,Vr] at hq3
 cases hq3
 refine dH (z ?_)
 first|exact e2|exact rfl
def HW (a:List bj) (tb last:List (List Bool)) (n:Int) (k:Nat) (out:l4):Option (l4×Bool):=(cJ last 0).bind fun r=>(cJ r 0).bind fun b=>if b then LO a tb n k 0 [] out else some (out,true)
theorem HU {a0 a:List bj} {tb last:List (List Bool)} {n:Int} {k:Nat} {out:l4} {p:l4×Bool} {t:Nat} (hm:HW a tb last n k out=some p):
  xj Tryz.prog 223 (fL a0 n out t false []) [.agg [aE a],.aK false (last.map gU),.int .i64 k,.func (.yield 5) [] [],.aK false (tb.map gU)] fun v os=>v= .bool p.2/\∃t',os=fL a0 n p.1 t' (!p.2) []:=by
 refine mJ ae (fn:=Tryz.f223) rfl [(0,ba),(1,.cells [aE a0]),(2,.cells [.int .i64 n]),(3,.cells [.own 4 t]),(4,.row 1 (out.map lB) t false),(5,.loop (jx false))] 6 rfl rfl (cm ii _ _ _ _ _ trivial) (by simp only[nb,cX,cG,AN,V3];rfl) ?_
 unfold HW at hm
 refine z ?_
 obtain⟨j1,x1,en1,ex1,hm⟩:=az hm
 refine bD en1 ex1 rfl (z ?_)
 obtain⟨j2,x2,en2,ex2,hm⟩:=az hm
 refine bD en2 ex2 rfl (z ?_)
 refine zm ?_ ?_<;>intro h3
 ·rw[TP (nt h3)] at hm
  cases hm
  exact cY (dL (fL a0 n _ _ _ []) rfl ⟨rfl,rfl,rfl,rfl,rfl,rfl,trivial⟩ (cm ii _ _ _ _ _ trivial) rfl ii ⟨rfl,_,rfl⟩)
 ·rw[HP h3] at hm
  obtain⟨v4,e4,hm⟩:=aa (aJ hm)
  refine jn (TQ (a0:=a0) (t:=t) e4) (z ?_)
  refine⟨⟨rfl,rfl,rfl,rfl,rfl,rfl,rfl,rfl,rfl,rfl,trivial⟩,?_⟩
  rintro _ _ ⟨rfl,t4,rfl⟩
  refine z ?_
  cases hm
  exact cY (dL (fL a0 n _ _ _ []) rfl ⟨rfl,rfl,rfl,rfl,rfl,rfl,trivial⟩ (cm ii _ _ _ _ _ trivial) rfl ii ⟨rfl,_,rfl⟩)
def TS (a:List bj):List bj->Int->List Bool->Option (List Bool)
 |[],_,l=>some l
 |_::r,i,l=>(cJ a i).bind fun x=>(push l x.acc).bind fun l=>TS a r (i+1) l
def wdX (rec:Nat->List (List Bool)->l4->Option (l4×Bool)) (a:List bj) (n:Int) (k:Nat) (tb:List (List Bool)) (out:l4):Option (l4×Bool):=
 (cJ tb k).bind fun r=>(K7 r true).bind fun c=>if c then(aR tb).bind fun _=>(dD ((k:Int)+1)).bind fun _=>(zf (k+1<=tb.length)).bind fun _=>(HW a tb ((tb.take (k+1)).drop k) n k out).bind fun p=>if p.2 then rec (k+1) tb p.1 else some (p.1,false) else some (out,true)
def PW (a:List bj) (n:Int):Nat->Nat->List (List Bool)->l4->Option (l4×Bool)
 |0,_,_,_=>none
 |f+1,k,tb,out=>(aR a).bind fun _=>if(a.length:Int)>0 then
   if(k:Int)>0 then(dD ((k:Int)-1)).bind fun _=>(cJ tb ((k:Int)-1)).bind fun r=>(Pb a r).bind fun r'=>(push tb r').bind fun tb=>wdX (PW a n f) a n k tb out else wdX (PW a n f) a n k tb out
  else some (out,true)
def wdM (a:List bj) (n:Int) (f:Nat) (out:l4):Option (l4×Bool):=(aR a).bind fun _=>(TS a a 0 []).bind fun r=>PW a n f 0 [r] out
theorem JG {a0 a:List bj} {n:Int} {f:Nat} {out:l4} {p:l4×Bool} {t:Nat} (hm:wdM a n f out=some p):
  xj Tryz.prog 221 (fL a0 n out t false []) [.func (.yield 5) [] [],.bR [aE a] 0] fun v os=>v= .dZ []/\∃t',os=fL a0 n p.1 t' (!p.2) []:=by
 refine mJ ae (fn:=Tryz.f221) rfl [(0,ba),(1,.cells [aE a0]),(2,.cells [.int .i64 n]),(3,.cells [.own 4 t]),(4,.row 1 (out.map lB) t false),(5,.loop (jx false))] 6 rfl rfl (cm ii _ _ _ _ _ trivial) (by simp only[nb,cX,cG,AN,V3];rfl) ?_
 unfold wdM at hm
 refine z ?_
 obtain⟨hg1,hm⟩:=ah hm
 obtain⟨v2,hv2,hm⟩:=aa hm
 refine cr 4 1 rfl ?_
 refine lg (α:=Nat×List Bool×Nat) ae (fun(iw,s1,ts1)=>(TS a (List.drop iw a) (iw:Int) s1=some v2,⟨66,[(4,.own 6 ts1),(10,.int .i64 iw),(9,.int .i64 ↑a.length),(3,.aD),(0,.func (Fn.yield 5) [] []),(1,.bR [aE a] 0)]⟩,⟨[(6,.row 1 (s1.map di) ts1 false),(0,ba),(1,.cells [aE a0]),(2,.cells [.int .i64 n]),(3,.cells [.own 4 t]),(4,.row 1 (List.map lB out) t false),(5,.loop (jx false))],7,0,[],[]⟩,List.length a-iw)) ⟨(0,_,(0)),hv2⟩ ?_
 rintro⟨i2,s1_2,ts1_2⟩ hq2
 dsimp only at hq2
 refine z ?_
 refine zd ?_ ?_<;>intro h3
 ·obtain⟨x3,ex3,ed3⟩:=av h3
  rw[ed3,TS] at hq2
  refine z ?_
  obtain⟨j4,x4,en4,ex4,hq2⟩:=az hq2
  refine bD en4 ex4 rfl (z ?_)
  obtain⟨hg5,hq2⟩:=aC hq2
  refine z ?_
  refine aM x4.acc rfl (z ?_)
  exact bk ⟨(i2+1,_,(ts1_2+1)),hq2⟩
 ·rw[aA h3,TS] at hq2
  cases hq2
  refine z ?_
  refine BN gU v2 rfl (z ?_)
  refine KJ 8 rfl ?_
  refine lg (α:=Nat×Nat×List (List Bool)×l4×Nat×Nat) ae (fun(nw,s1,s2,s3,ts2,ts3)=>(PW a n nw s1 s2 s3=some p,⟨66,[(6,.int .i64 (s1:Nat)),(3,.own 8 ts2),(0,.func (Fn.yield 5) [] []),(1,.bR [aE a] 0)]⟩,⟨[(8,.row 1 (s2.map gU) ts2 true),(7,.row 1 [[.aK false (List.map di v2)]] 0 false),(6,.row 1 (List.map di v2) ts1_2 true),(0,ba),(1,.cells [aE a0]),(2,.cells [.int .i64 n]),(3,.cells [.own 4 ts3]),(4,.row 1 (s3.map lB) ts3 false),(5,.loop (jx false))],9,0,[],[]⟩,nw)) ⟨(_,_,_,_,(0),t),hm⟩ ?_
  rintro⟨n7,s1_7,s2_7,s3_7,ts2_7,ts3_7⟩ hq7
  dsimp only at hq7
  rcases n7 with _|n7
  ·(unfold PW at hq7;cases hq7)
  unfold PW at hq7
  refine z ?_
  obtain⟨hg8,hq7⟩:=ah hq7
  refine zd ?_ ?_<;>intro h9
  ·rw[HP h9] at hq7
   refine zd ?_ ?_<;>intro h10
   ·rw[HP h10] at hq7
    refine dg ae [0,0,0,0,8,28,60,126,254,511,1023] [] (z ?_)
    obtain⟨hg11,hq7⟩:=ah hq7
    refine z ?_
    obtain⟨j13,x13,en13,ex13,hq7⟩:=az hq7
    refine aP en13 ex13 (z ?_)
    refine bT ex13 (z ?_)
    obtain⟨v14,e14,hq7⟩:=aa hq7
    refine ce (Vq e14) (z ?_)
    obtain⟨hg15,hq7⟩:=aC hq7
    unfold wdX at hq7
    refine z ?_
    refine aM v14 rfl (z ?_)
    refine dg ae [0,0,3,7,15,31,63,127,127,127,127,1151,127,4223,16255,127,127,127,262143,524287,1048575] [⟨18,0,0,[5,4,3,2,1,0,8]⟩,⟨14,0,0,[8]⟩] (z ?_)
    obtain⟨j24,x24,en24,ex24,hq7⟩:=az hq7
    refine aP en24 ex24 (z ?_)
    refine bT ex24 (z ?_)
    obtain⟨v25,e25,hq7⟩:=aa hq7
    refine ce (Bo e25) (z ?_)
    refine zm ?_ ?_<;>intro h26
    ·rw[TP (nt h26)] at hq7
     cases hq7
     exact cY (dL (fL a0 n _ _ false []) rfl ⟨rfl,rfl,rfl,rfl,rfl,rfl,trivial⟩ (cm ii _ _ _ _ _ trivial) rfl ii ⟨rfl,_,rfl⟩)
    ·rw[HP h26] at hq7
     obtain⟨hg27,hq7⟩:=ah hq7
     obtain⟨hg28,hq7⟩:=ah hq7
     obtain⟨hg29,hq7⟩:=ah hq7
     refine z ?_
     refine⟨s1_7,s1_7+1,rfl,by omega,by omega,by omega,by rw[V4];omega,Pu ?_⟩
     refine z ?_
     obtain⟨v31,e31,hq7⟩:=aa hq7
     refine jn (HU (a0:=a0) (t:=ts3_7) e31) (z ?_)
     refine⟨⟨rfl,rfl,rfl,rfl,rfl,rfl,trivial⟩,?_⟩
     rintro _ _ ⟨rfl,t31,rfl⟩
     rcases v31 with⟨o31,_|_⟩<;>dsimp only at hq7
     ·refine z ?_
      rw[TP Wr] at hq7
      cases hq7
      exact cY (dL (fL a0 n _ _ true []) rfl ⟨rfl,rfl,rfl,rfl,rfl,rfl,trivial⟩ (cm ii _ _ _ _ _ trivial) rfl ii ⟨rfl,_,rfl⟩)
     ·refine z ?_
      rw[HP rfl] at hq7
      exact bk ⟨(n7,_,_,_,(ts2_7+1),t31),hq7⟩
   ·rw[TP h10] at hq7
    unfold wdX at hq7
    refine z ?_
    refine dg ae [0,0,3,7,15,31,63,127,127,127,127,1151,127,4223,16255,127,127,127,262143,524287,1048575] [⟨18,0,0,[5,4,3,2,1,0,8]⟩,⟨14,0,0,[8]⟩] (z ?_)
    obtain⟨j36,x36,en36,ex36,hq7⟩:=az hq7
    refine aP en36 ex36 (z ?_)
    refine bT ex36 (z ?_)
    obtain⟨v37,e37,hq7⟩:=aa hq7
    refine ce (Bo e37) (z ?_)
    refine zm ?_ ?_<;>intro h38
    ·rw[TP (nt h38)] at hq7
     cases hq7
     exact cY (dL (fL a0 n _ _ false []) rfl ⟨rfl,rfl,rfl,rfl,rfl,rfl,trivial⟩ (cm ii _ _ _ _ _ trivial) rfl ii ⟨rfl,_,rfl⟩)
    ·rw[HP h38] at hq7
     obtain⟨hx1,hq7⟩:=ah hq7
     obtain⟨hx2,hq7⟩:=ah hq7
     obtain⟨hx3,hq7⟩:=ah hq7
     refine⟨s1_7,s1_7+1,rfl,by omega,by omega,by omega,by rw[V4];omega,Pu ?_⟩
     refine z ?_
     obtain⟨v39,e39,hq7⟩:=aa hq7
     refine jn (HU (a0:=a0) (t:=ts3_7) e39) (z ?_)
     refine⟨⟨rfl,rfl,rfl,rfl,rfl,rfl,trivial⟩,?_⟩
     rintro _ _ ⟨rfl,t39,rfl⟩
     rcases v39 with⟨o39,_|_⟩<;>dsimp only at hq7
     ·refine z ?_
      rw[TP Wr] at hq7
      cases hq7
      exact cY (dL (fL a0 n _ _ true []) rfl ⟨rfl,rfl,rfl,rfl,rfl,rfl,trivial⟩ (cm ii _ _ _ _ _ trivial) rfl ii ⟨rfl,_,rfl⟩)
     ·refine z ?_
      rw[HP rfl] at hq7
      exact bk ⟨(n7,_,_,_,ts2_7,t39),hq7⟩
  ·rw[TP h9] at hq7
   cases hq7
   exact cY (dL (fL a0 n _ _ false []) rfl ⟨rfl,rfl,rfl,rfl,rfl,rfl,trivial⟩ (cm ii _ _ _ _ _ trivial) rfl ii ⟨rfl,_,rfl⟩)
def Ae:Option Unit:=some ()
theorem JH {a:List bj} {r:Unit} (hm:Ae=some r):Has Tryz.prog 188 [.agg [aE a]] fun s=>s= .func (.func 221) [] [.bR [aE a] 0]:=by
 refine hs ae Tryz.f188 ?_
 unfold Ae at hm
 refine z ?_
 cases hm
 refine dH (z ?_)
 first|exact e2|exact rfl
def Hz (a:List bj) (n:Int):Nat:=(if 1000<n then 1000 else n).toNat*(a.length+1)+a.length+2
def ug (a:List bj) (n:Int):Option (List (List UInt8)):=if n<1 then some [] else(fq a).bind fun a=>Ae.bind fun _=>(wdM a n (Hz a n) []).bind fun p=>some p.1
theorem L9 {a:List bj} {n:Int} {r:List (List UInt8)} (hm:ug a n=some r):bp Tryz.prog 147 [.agg [aE a],.int .i64 n] fun s=>s= .aK false (r.map lB):=by
 refine ht ae Tryz.f147 ?_
 unfold ug at hm
 refine z ?_
 refine zd ?_ ?_<;>intro h1
 rw[HP h1] at hm
 cases hm
 refine a8 (z ?_)
 exact mt
 rw[TP h1] at hm
 obtain⟨v2,e2,hm⟩:=aa hm
 refine ct (ic e2) (z ?_)
 obtain⟨v3,e3,hm⟩:=aa hm
 refine ce (JH e3) (z ?_)
 refine sk 3 0 1 rfl rfl ?_
 obtain⟨v4,e4,hm⟩:=aa hm
 refine so (t1:=[(5,.ptr 3 0),(3,.ptr 2 0)]) (JG (a0:=a) (t:=0) e4) ⟨rfl,rfl,rfl,rfl,trivial⟩ rfl rfl rfl rfl ⟨rfl,rfl,rfl,rfl,rfl,rfl,trivial⟩ ?_
 rintro _ _ ⟨rfl,t4,rfl⟩
 refine z ?_
 rcases v4 with⟨o4,_|_⟩
 refine z ?_
 refine⟨jx true,.exit 0,rfl,(fun h=>by cases h),rfl,?_⟩
 refine z ?_
 cases hm
 refine a8 (z ?_)
 exact mt
 refine z ?_
 refine⟨jx false,.normal,rfl,(fun h=>by cases h),rfl,?_⟩
 refine z ?_
 cases hm
 refine a8 (z ?_)
 exact mt
/-! the algebra -/
def Tq (x y:Bool):Option Bool:=if x then some true else some y
theorem Ug {x y r:Bool} (hm:Tq x y=some r):Has Tryz.prog 96 [.bool x,.bool y] fun s=>s= .bool r:=by
 refine hs ae Tryz.f96 ?_
 unfold Tq at hm
 refine z ?_
 refine zr ?_ ?_<;>intro h1
 rw[HP h1] at hm
 cases hm
 exact fc
 rw[TP (nt h1)] at hm
 cases hm
 exact fc
def PB (x y:Bool):Option Bool:=if x then some y else some false
theorem SZ {x y r:Bool} (hm:PB x y=some r):Has Tryz.prog 214 [.bool x,.bool y] fun s=>s= .bool r:=by
 refine hs ae Tryz.f214 ?_
 unfold PB at hm
 refine z ?_
 refine zr ?_ ?_<;>intro h1
 rw[HP h1] at hm
 cases hm
 exact fc
 rw[TP (nt h1)] at hm
 cases hm
 exact fc
def lh (x y:Bool):Option Bool:=if x then some (!y) else some false
theorem KC {x y r:Bool} (hm:lh x y=some r):Has Tryz.prog 121 [.bool x,.bool y] fun s=>s= .bool r:=by
 refine hs ae Tryz.f121 ?_
 unfold lh at hm
 refine z ?_
 refine zr ?_ ?_<;>intro h1
 rw[HP h1] at hm
 cases hm
 exact fc
 rw[TP (nt h1)] at hm
 cases hm
 exact fc
def Tp (a b:List bj):Option (List bj):=if(a.length:Int)=0 then(fq b).bind fun b=>jJ b else if(b.length:Int)=0 then(fq a).bind fun a=>jJ a else fW Tq a b
theorem AJ {a b r:List bj} (hm:Tp a b=some r):bp Tryz.prog 71 [.agg [aE a],.agg [aE b]] fun s=>s= .agg [aE r]:=by
 refine ht ae Tryz.f71 ?_
 unfold Tp at hm
 refine z ?_
 refine zd ?_ ?_<;>intro h1
 rw[HP h1] at hm
 obtain⟨v2,e2,hm⟩:=aa hm
 refine ct (ic e2) (z ?_)
 replace hm:=aJ hm
 obtain⟨v3,e3,hm⟩:=aa hm
 refine ce (rL e3) (z ?_)
 cases hm
 exact mst
 rw[TP h1] at hm
 refine zd ?_ ?_<;>intro h4
 rw[HP h4] at hm
 obtain⟨v5,e5,hm⟩:=aa hm
 refine ct (ic e5) (z ?_)
 replace hm:=aJ hm
 obtain⟨v6,e6,hm⟩:=aa hm
 refine ce (rL e6) (z ?_)
 cases hm
 exact mst
 rw[TP h4] at hm
 replace hm:=aJ hm
 obtain⟨v7,e7,hm⟩:=aa hm
 refine ct (o5 rfl rfl Ug e7) (z ?_)
 cases hm
 exact mst
def th (a b:List bj):Option (List bj):=if(a.length:Int)=0 then some [] else if(b.length:Int)=0 then some [] else fW PB a b
theorem SY {a b r:List bj} (hm:th a b=some r):bp Tryz.prog 171 [.agg [aE a],.agg [aE b]] fun s=>s= .agg [aE r]:=by
 refine ht ae Tryz.f171 ?_
 unfold th at hm
 refine z ?_
 refine zd ?_ ?_<;>intro h1
 rw[HP h1] at hm
 cases hm
 refine a8 (z ?_)
 exact mt
 rw[TP h1] at hm
 refine zd ?_ ?_<;>intro h2
 rw[HP h2] at hm
 cases hm
 refine a8 (z ?_)
 exact mt
 rw[TP h2] at hm
 replace hm:=aJ hm
 obtain⟨v3,e3,hm⟩:=aa hm
 refine ct (o5 rfl rfl SZ e3) (z ?_)
 cases hm
 exact mst
def jP (a b:List bj):Option (List bj):=if(a.length:Int)=0 then some [] else if(b.length:Int)=0 then(fq a).bind fun a=>jJ a else fW lh a b
theorem nK {a b r:List bj} (hm:jP a b=some r):bp Tryz.prog 97 [.agg [aE a],.agg [aE b]] fun s=>s= .agg [aE r]:=by
 refine ht ae Tryz.f97 ?_
 unfold jP at hm
 refine z ?_
 refine zd ?_ ?_<;>intro h1
 rw[HP h1] at hm
 cases hm
 refine a8 (z ?_)
 exact mt
 rw[TP h1] at hm
 refine zd ?_ ?_<;>intro h2
 rw[HP h2] at hm
 obtain⟨v3,e3,hm⟩:=aa hm
 refine ct (ic e3) (z ?_)
 replace hm:=aJ hm
 obtain⟨v4,e4,hm⟩:=aa hm
 refine ce (rL e4) (z ?_)
 cases hm
 exact mst
 rw[TP h2] at hm
 replace hm:=aJ hm
 obtain⟨v5,e5,hm⟩:=aa hm
 refine ct (o5 rfl rfl KC e5) (z ?_)
 cases hm
 exact mst
def allL:List bj:=[⟨true,[⟨0,255,0⟩]⟩]
def S2:Option (List bj):=some allL
theorem Jp {r:List bj} (hm:S2=some r):Has Tryz.prog 98 [] fun s=>s= .agg [aE r]:=by
 refine hs ae Tryz.f98 ?_
 unfold S2 at hm
 refine z ?_
 cases hm
 refine dH (z ?_)
 first|exact rfl|exact⟨rfl,rfl⟩
def ln (a:List bj):Option (List UInt8×Bool):=(ug a 1).bind fun l=>(aR l).bind fun _=>if(l.length:Int)=0 then some ([],false) else(cJ l 0).bind fun x=>some (x,true)
theorem ru {a:List bj} {r:List UInt8×Bool} (hm:ln a=some r):bp Tryz.prog 107 [.agg [aE a]] fun s=>s= .dZ [.str r.1,.bool r.2]:=by
 refine ht ae Tryz.f107 ?_
 unfold ln at hm
 refine z ?_
 obtain⟨v1,e1,hm⟩:=aa hm
 refine ct (L9 e1) (z ?_)
 obtain⟨hg2,hm⟩:=ah hm
 refine zd ?_ ?_<;>intro h3
 rw[HP h3] at hm
 cases hm
 exact mst
 rw[TP h3] at hm
 obtain⟨j4,x4,en4,ex4,hm⟩:=az hm
 refine bD en4 ex4 rfl (z ?_)
 cases hm
 exact mst
def NC (x:Int):Option Bool:=some false
theorem Ip {x:Int} {r:Bool} (hm:NC x=some r):Has Tryz.prog 244 [.int .i64 x] fun s=>s= .bool r:=by
 refine hs ae Tryz.f244 ?_
 unfold NC at hm
 cases hm
 refine z ?_
 exact nX rfl (by show SVal.bool _=_;simp)
def wC (x y:Int):Option Int:=(NC x).bind fun a=>(NC y).bind fun b=>if a then if b then some 0 else some (-1) else if b then some 1 else if x<y then some (-1) else if x>y then some 1 else some 0
theorem Bt {x y r:Int} (hm:wC x y=some r):Has Tryz.prog 209 [.int .i64 x,.int .i64 y] fun s=>s= .int .i64 r:=by
 refine hs ae Tryz.f209 ?_
 unfold wC at hm
 refine z ?_
 obtain⟨v1,e1,hm⟩:=aa hm
 refine ce (Ip e1) (z ?_)
 obtain⟨v2,e2,hm⟩:=aa hm
 refine ce (Ip e2) (z ?_)
 refine zr ?_ ?_<;>intro h3
 rw[HP h3] at hm
 refine zr ?_ ?_<;>intro h4
 rw[HP h4] at hm
 cases hm
 exact fc
 rw[TP (nt h4)] at hm
 cases hm
 exact fc
 rw[TP (nt h3)] at hm
 refine zr ?_ ?_<;>intro h5
 rw[HP h5] at hm
 cases hm
 exact fc
 rw[TP (nt h5)] at hm
 refine zd ?_ ?_<;>intro h6
 rw[HP h6] at hm
 cases hm
 exact fc
 rw[TP h6] at hm
 refine zd ?_ ?_<;>intro h7
 rw[HP h7] at hm
 cases hm
 exact fc
 rw[TP h7] at hm
 cases hm
 exact fc
def Kw (x:Int):Option Bool:=some false
theorem Io {x:Int} {r:Bool} (hm:Kw x=some r):Has Tryz.prog 220 [.int .i64 x] fun s=>s= .bool r:=by
 refine hs ae Tryz.f220 ?_
 unfold Kw at hm
 cases hm
 refine z ?_
 exact nX rfl (by show SVal.bool _=_;simp)
def K9 (x y:Int):Option Int:=(Kw x).bind fun a=>(Kw y).bind fun b=>if a then if b then some 0 else some (-1) else if b then some 1 else if x<y then some (-1) else if x>y then some 1 else some 0
theorem SC {x y r:Int} (hm:K9 x y=some r):Has Tryz.prog 187 [.int .i64 x,.int .i64 y] fun s=>s= .int .i64 r:=by
 refine hs ae Tryz.f187 ?_
 unfold K9 at hm
 refine z ?_
 obtain⟨v1,e1,hm⟩:=aa hm
 refine ce (Io e1) (z ?_)
 obtain⟨v2,e2,hm⟩:=aa hm
 refine ce (Io e2) (z ?_)
 refine zr ?_ ?_<;>intro h3
 rw[HP h3] at hm
 refine zr ?_ ?_<;>intro h4
 rw[HP h4] at hm
 cases hm
 exact fc
 rw[TP (nt h4)] at hm
 cases hm
 exact fc
 rw[TP (nt h3)] at hm
 refine zr ?_ ?_<;>intro h5
 rw[HP h5] at hm
 cases hm
 exact fc
 rw[TP (nt h5)] at hm
 refine zd ?_ ?_<;>intro h6
 rw[HP h6] at hm
 cases hm
 exact fc
 rw[TP h6] at hm
 refine zd ?_ ?_<;>intro h7
 rw[HP h7] at hm
 cases hm
 exact fc
 rw[TP h7] at hm
 cases hm
 exact fc
def NA (x:List UInt8):Option Bool:=some false
theorem Im {x:List UInt8} {r:Bool} (hm:NA x=some r):Has Tryz.prog 245 [.str x] fun s=>s= .bool r:=by
 refine hs ae Tryz.f245 ?_
 unfold NA at hm
 cases hm
 refine z ?_
 exact nX rfl (by show SVal.bool _=_;simp)
end Go.Proofs.YtcejopopgcglpaaGreatDoor
