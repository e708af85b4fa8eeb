/- For ConcreteOnly and ConcreteBack: functions of the program, walked beside Lean functions that say what they compute. -/
import Derived.Test.YtaagahmkmcnhaaaGreatDoorMb
set_option linter.unusedVariables false
set_option linter.unusedSimpArgs false
set_option linter.unusedSectionVars false
namespace Go.Proofs.YtaagahmkmcnhaaaGreatDoor
open Sv
set_option maxRecDepth 100000
set_option maxHeartbeats 2000000
def gC (l:List ba):Option Bool:=(mu l).bind fun p=>if p.2=0 then rO l p.1 else some false
theorem qL {l:List ba} {r:Bool} (hm:gC l=some r):bj Tryz.prog 118 [.agg [aA l]] fun s=>s= .bool r:=by
 refine ht ae Tryz.f118 ?_
 unfold gC at hm
 refine z ?_
 obtain⟨v1,e1,hm⟩:=aa hm
 refine ct (uC e1) (z ?_)
 refine zd ?_ ?_<;>intro h2
 rw[Th h2] at hm
 replace hm:=aB hm
 obtain⟨v3,e3,hm⟩:=aa hm
 refine ce (zw e3) (z ?_)
 cases hm
 exact mst
 rw[Ti h2] at hm
 cases hm
 exact mst
def fY (l:List ba):Option (List ba):=(gC l).bind fun ok=>if ok then some l else some []
theorem hX {l r:List ba} (hm:fY l=some r):bj Tryz.prog 92 [.agg [aA l]] fun s=>s= .agg [aA r]:=by
 refine ht ae Tryz.f92 ?_
 unfold fY at hm
 refine z ?_
 obtain⟨v1,e1,hm⟩:=aa hm
 refine ct (qL e1) (z ?_)
 refine zm ?_ ?_<;>intro h2
 rw[Ti (nt h2)] at hm
 cases hm
 refine aV (z ?_)
 exact mt
 rw[Th h2] at hm
 cases hm
 exact mst
def ER:List ba->List ba->Option (List ba)
 |[],out=>some out
 |s::r,out=>(Ap s.aF).bind fun e=>(push out ⟨s.acc,e⟩).bind fun out=>ER r out
def ln (l:List ba):Option (List ba):=(aN l).bind fun _=>ER l []
theorem rz {l r:List ba} (hm:ln l=some r):Has Tryz.prog 91 [.agg [aA l]] fun s=>s= .agg [aA r]:=by
 refine hs ae Tryz.f91 ?_
 unfold ln at hm
 refine z ?_
 obtain⟨hg1,hm⟩:=ah hm
 refine bJ 2 0 2 rfl rfl ?_
 refine lg (α:=Nat×List ba×Nat) ae (fun(iw,s1,ts1)=>(ER (List.drop iw l) s1=some r,⟨26,[(9,.int .i64 iw),(8,.int .i64 ↑l.length),(7,aA l),(3,.ptr 2 0),(2,.ptr 1 0)]⟩,⟨[(3,.row 2 (s1.map ic) ts1 false),(2,.cells [.own 3 ts1]),(1,.cells [.ax]),(0,.cells [aA l])],4,0,[],[]⟩,List.length l-iw)) ⟨(0,_,(0)),hm⟩ ?_
 rintro⟨i2,s1_2,ts1_2⟩ hq2
 dsimp only at hq2
 refine z ?_
 refine zd ?_ ?_<;>intro h3
 obtain⟨x3,ex3,ed3⟩:=an h3
 rw[ed3,ER] at hq2
 refine z ?_
 refine bq ex3 rfl (z ?_)
 refine dg ae [0,1,0,4,0,16,48,124,252,511,1023,2047] [] (z ?_)
 obtain⟨v4,e4,hq2⟩:=aa hq2
 refine ce (Aq e4) (z ?_)
 obtain⟨hg5,hq2⟩:=ay hq2
 refine z ?_
 refine aH ({acc:=x3.acc,aF:=v4}) rfl (z ?_)
 exact bk ⟨(i2+1,_,(ts1_2+1)),hq2⟩
 rw[aq h3,ER] at hq2
 cases hq2
 refine dy (z ?_)
 first|exact e2|exact rfl
structure dq where
 a:Int
 b:Int
def gg (p:dq):List SVal:=[.int .i64 p.a,.int .i64 p.b]
instance :Cl gg:=⟨fun _=>rfl⟩
abbrev Ej (x y:dq):Bool:=decide (x.a=y.a)&&(decide (x.b=y.b)&&true)
def fX (p:dq):List dq->Int->Option Int
 |[],_=>some (-1)
 |x::r,i=>if Ej p x then some i else fX p r (i+1)
def nD (l:List dq) (p:dq):Option Int:=(aN l).bind fun _=>fX p l 0
theorem eB {l:List dq} {p:dq} {r:Int} (hm:nD l p=some r):Has Tryz.prog 120 [.aE false (l.map gg),.agg (gg p)] fun s=>s= .int .i64 r:=by
 refine hs ae Tryz.f120 ?_
 unfold nD at hm
 refine z ?_
 obtain⟨hg1,hm⟩:=ah hm
 refine lg (α:=Nat) ae (fun iw=>(fX p (List.drop iw l) (iw:Int)=some r,⟨19,[(8,.int .i64 iw),(7,.int .i64 ↑l.length),(4,.int .i64 0),(3,.ptr 0 0),(0,.aE false (List.map gg l))]⟩,⟨[(0,.cells (gg p))],1,0,[],[]⟩,List.length l-iw)) ⟨(0),hm⟩ ?_
 intro i2 hq2
 dsimp only at hq2
 refine z ?_
 refine zd ?_ ?_<;>intro h3
 obtain⟨x3,ex3,ed3⟩:=an h3
 rw[ed3,fX] at hq2
 refine z ?_
 refine dg ae [0,0,0,6,14,31] [] (z ?_)
 refine bq ex3 rfl (z ?_)
 refine zr ?_ ?_<;>intro h4
 rw[Th h4] at hq2
 cases hq2
 exact fc
 rw[Ti (nt h4)] at hq2
 exact bk ⟨i2+1,hq2⟩
 rw[aq h3,fX] at hq2
 cases hq2
 exact fc
/-! products -/
def gk:List Sv.Edge->List Bool->Option (List Bool)
 |[],a=>some a
 |e::r,a=>(sD 256 a e.lo true).bind fun a=>if e.hi<255 then(lI e.hi).bind fun _=>(sD 256 a (e.hi+1) true).bind fun a=>gk r a else gk r a
def vu (l:List ba) (s:Int) (a:List Bool):Option (List Bool):=
 if s<0 then some a else if s>=l.length then some a else(cN l s).bind fun x=>(aN x.aF).bind fun _=>gk x.aF a
def dh (a b:List ba) (p:dq) (at':List Bool):Nat->Int->List dq->List Sv.Edge->Option (List dq×List Sv.Edge)
 |0,_,l,e=>some (l,e)
 |n+1,c,l,e=>(SV 256 at' c).bind fun x=>if x then
   (jf a p.a c).bind fun x=>(jf b p.b c).bind fun y=>(nD l ⟨x,y⟩).bind fun k=>if k<0 then
     (push l ⟨x,y⟩).bind fun l'=>(push e ⟨c,0,l.length⟩).bind fun e=>(aN e).bind fun _=>(nV e (e.length-1) fun q=>⟨q.lo,c,q.to⟩).bind fun e=>dh a b p at' n (c+1) l' e
    else(push e ⟨c,0,k⟩).bind fun e=>(aN e).bind fun _=>(nV e (e.length-1) fun q=>⟨q.lo,c,q.to⟩).bind fun e=>dh a b p at' n (c+1) l e
  else(aN e).bind fun _=>(nV e (e.length-1) fun q=>⟨q.lo,c,q.to⟩).bind fun e=>dh a b p at' n (c+1) l e
def kN:List Bool:=true::List.replicate 255 false
def oh (a b:List ba) (is:Bool->Bool->Option Bool):Nat->Int->List dq->List ba->Option (List ba)
 |0,_,_,_=>none
 |n+1,k,l,out=>(aN l).bind fun _=>if k<l.length then(cN l k).bind fun p=>(ir a p.a).bind fun x=>(ir b p.b).bind fun y=>(is x y).bind fun acc=>
   (vu a p.a kN).bind fun a'=>(vu b p.b a').bind fun a'=>(dh a b p a' 256 0 l []).bind fun q=>(push out ⟨acc,q.2⟩).bind fun out=>oh a b is n (k+1) q.1 out
  else some out
def jj (is:Bool->Bool->Option Bool) (a b:List ba):Option (List ba):=(fY a).bind fun a=>(fY b).bind fun b=>
 (oh a b is ((a.length+2)*(b.length+2)+1) 0 [⟨0,0⟩] []).bind fun out=>(mu out).bind fun p=>some p.1
theorem oP {fn:FuncId} {cap:List SVal} (hc:aw cap=true) (hw:cG cap=cap) {is:Bool->Bool->Option Bool} (hg:∀{x y r},is x y=some r->Has Tryz.prog fn (.bool x:: .bool y::cap) fun s=>s= .bool r) {a b r:List ba} (hm:jj is a b=some r):
  bj Tryz.prog 93 [.agg [aA a],.agg [aA b],.func (.func fn) [] cap] fun s=>s= .agg [aA r]:=by
 refine ht ae Tryz.f93 ?_
 unfold jj at hm
 refine z ?_
 refine dg ae [0,1,0,7,15,31] [] (z ?_)
 obtain⟨v1,e1,hm⟩:=aa hm
 refine ct (hX e1) (z ?_)
 obtain⟨v2,e2,hm⟩:=aa hm
 refine ct (hX e2) (z ?_)
 obtain⟨v3,hv3,hm⟩:=aa hm
 refine cy 9 2 rfl ?_
 refine lg (α:=Nat×Int×List dq×List ba×Nat×Nat) ae (fun(nw,s1,s2,s3,ts2,ts3)=>(oh v1 v2 is nw s1 s2 s3=some v3,⟨104,[(9,.own 6 ts3),(10,.int .i64 s1),(8,.func (.func 119) [] [.ptr 5 0]),(7,.ptr 5 0),(6,.ptr 3 0),(4,.ptr 2 0),(3,.ptr 1 0),(2,.func (.func fn) [] cap)]⟩,⟨[(6,.row 2 (s3.map ic) ts3 false),(5,.cells [.own 4 ts2]),(4,.row 2 (s2.map gg) ts2 false),(3,.cells [.ax]),(2,.cells [aA v2]),(1,.cells [aA v1]),(0,aX)],7,0,[],[]⟩,nw)) ⟨(_,_,_,_,(0),(0)),hv3⟩ ?_
 rintro⟨n3,s1_3,s2_3,s3_3,ts2_3,ts3_3⟩ hq3
 dsimp only at hq3
 rcases n3 with _|n3
 ·(unfold oh at hq3;cases hq3)
 unfold oh at hq3
 refine z ?_
 obtain⟨hg4,hq3⟩:=ah hq3
 refine zd ?_ ?_<;>intro h5
 ·rw[Th h5] at hq3
  obtain⟨j6,x6,en6,ex6,hq3⟩:=av hq3
  refine aK en6 ex6 (z ?_)
  refine bP ex6 (z ?_)
  refine dg ae [0,0,0,4,14,0,0,64,254,511,1023,0,4095] [] (z ?_)
  obtain⟨v7,e7,hq3⟩:=aa hq3
  refine ce (vY e7) (z ?_)
  obtain⟨v8,e8,hq3⟩:=aa hq3
  refine ce (vY e8) (z ?_)
  obtain⟨v9,e9,hq3⟩:=aa hq3
  refine kK (hg e9) (by(simp only[cG,kp,hw];try rfl)) ?_
  unfold vu at hq3
  refine z ?_
  refine ci ae Tryz.f122 (z ?_)
  refine zd ?_ ?_<;>intro h10
  ·rw[Th h10] at hq3
   dsimp only[Option.bind_some] at hq3
   refine z ?_
   refine ei (z ?_)
   refine ci ae Tryz.f122 (z ?_)
   refine zd ?_ ?_<;>intro h11
   ·rw[Th h11] at hq3
    dsimp only[Option.bind_some] at hq3
    refine z ?_
    refine ei (z ?_)
    obtain⟨v12,hv12,hq3⟩:=aa hq3
    refine bJ 8 1 3 rfl rfl ?_
    refine lg (α:=Nat×List dq×List Sv.Edge×Nat×Nat) ae (fun(iw,s1,s2,ts1,ts2)=>(dh v1 v2 x6 kN (256-iw) (iw:Int) s1 s2=some v12,⟨104,[(54,.int .i64 iw),(13,.ptr 9 0),(12,.ptr 8 0),(11,.ptr 7 0),(9,.own 6 ts3_3),(10,.int .i64 s1_3),(8,.func (.func 119) [] [.ptr 5 0]),(7,.ptr 5 0),(6,.ptr 3 0),(4,.ptr 2 0),(3,.ptr 1 0),(2,.func (.func fn) [] cap)]⟩,⟨[(12,.row 3 (s2.map cS) ts2 false),(11,.cells [aA v2]),(10,.cells [aA v1]),(9,.cells ((kN).map .bool)),(8,.cells [.bool v9,.own 12 ts2]),(7,.cells [.int .i64 x6.a,.int .i64 x6.b]),(6,.row 2 (List.map ic s3_3) ts3_3 false),(5,.cells [.own 4 ts1]),(4,.row 2 (s1.map gg) ts1 false),(3,.cells [.ax]),(2,.cells [aA v2]),(1,.cells [aA v1]),(0,aX)],13,0,[],[]⟩,(256)-iw)) ⟨(0,_,_,ts2_3,(0)),hv12⟩ ?_
    rintro⟨i12,s1_12,s2_12,ts1_12,ts2_12⟩ hq12
    dsimp only at hq12
    refine z ?_
    refine zd ?_ ?_<;>intro h13
    ·have h13':(i12:Int)<(((256):Nat):Int):=by(try simp only[Tr,Ty,Tx,Tt] at h13);omega
     rw[c9 h13',dh] at hq12
     refine z ?_
     obtain⟨j14,x14,en14,ej14,ex14,hq12⟩:=gS hq12
     refine cA en14 ej14 (z ?_)
     rw[eT ex14 (by(show _+_*1=_;omega)) rfl]
     refine z ?_
     refine zr ?_ ?_<;>intro h15
     ·rw[Th h15] at hq12
      refine dg ae [0,1,0,4,0,0,0,64,0,256,992,0,0,4096,0,16384,65504,131040,262128,524284,1048572,2097151,4194303,8388607] [⟨23,0,0,[8]⟩,⟨21,0,0,[12]⟩,⟨18,0,0,[5,4]⟩] (z ?_)
      obtain⟨v22,e22,hq12⟩:=aa hq12
      refine ce (dB e22) (z ?_)
      obtain⟨v23,e23,hq12⟩:=aa hq12
      refine ce (dB e23) (z ?_)
      refine cd ae Tryz.f119 (z ?_)
      obtain⟨v24,e24,hq12⟩:=aa hq12
      refine cm (eB e24) rfl (z ?_)
      refine zd ?_ ?_<;>intro h25
      ·rw[Th h25] at hq12
       obtain⟨hg26,hq12⟩:=ay hq12
       refine z ?_
       refine aH ({a:=v22,b:=v23}) rfl (z ?_)
       refine ed (z ?_)
       obtain⟨hg27,hq12⟩:=ay hq12
       refine z ?_
       refine aH ({lo:=↑i12,hi:=0,to:=↑s1_12.length}) rfl (z ?_)
       obtain⟨hg28,hq12⟩:=ah hq12
       refine z ?_
       obtain⟨j30,x30,en30,ex30,hq12⟩:=bV hq12
       refine aK en30 ex30 (z ?_)
       refine cq _ ({lo:=x30.lo,hi:=↑i12,to:=x30.to}) ex30 rfl (z ?_)
       exact bk ⟨(i12+1,_,_,(ts1_12+1),(ts2_12+1)),hq12⟩
      ·rw[Ti h25] at hq12
       refine ed (z ?_)
       obtain⟨hg31,hq12⟩:=ay hq12
       refine z ?_
       refine aH ({lo:=↑i12,hi:=0,to:=v24}) rfl (z ?_)
       obtain⟨hg32,hq12⟩:=ah hq12
       refine z ?_
       obtain⟨j34,x34,en34,ex34,hq12⟩:=bV hq12
       refine aK en34 ex34 (z ?_)
       refine cq _ ({lo:=x34.lo,hi:=↑i12,to:=x34.to}) ex34 rfl (z ?_)
       exact bk ⟨(i12+1,_,_,ts1_12,(ts2_12+1)),hq12⟩
     ·rw[Ti (nt h15)] at hq12
      obtain⟨hg35,hq12⟩:=ah hq12
      refine z ?_
      obtain⟨j37,x37,en37,ex37,hq12⟩:=bV hq12
      refine aK en37 ex37 (z ?_)
      refine cq _ ({lo:=x37.lo,hi:=↑i12,to:=x37.to}) ex37 rfl (z ?_)
      exact bk ⟨(i12+1,_,_,ts1_12,ts2_12),hq12⟩
    ·have h13':¬(i12:Int)<(((256):Nat):Int):=by(try simp only[Tr,Ty,Tx,Tt] at h13);omega
     rw[c8 h13',dh] at hq12
     cases hq12
     dsimp only at hq3
     refine z ?_
     obtain⟨hg38,hq3⟩:=ay hq3
     refine z ?_
     refine aH ({acc:=v9,aF:=s2_12}) rfl (z ?_)
     exact bk ⟨(n3,_,_,_,ts1_12,(ts3_3+1)),hq3⟩
   ·rw[Ti h11] at hq3
    refine zd ?_ ?_<;>intro h39
    ·rw[Th h39] at hq3
     dsimp only[Option.bind_some] at hq3
     refine z ?_
     refine ei (z ?_)
     obtain⟨v40,hv40,hq3⟩:=aa hq3
     refine bJ 8 1 3 rfl rfl ?_
     refine lg (α:=Nat×List dq×List Sv.Edge×Nat×Nat) ae (fun(iw,s1,s2,ts1,ts2)=>(dh v1 v2 x6 kN (256-iw) (iw:Int) s1 s2=some v40,⟨104,[(54,.int .i64 iw),(13,.ptr 9 0),(12,.ptr 8 0),(11,.ptr 7 0),(9,.own 6 ts3_3),(10,.int .i64 s1_3),(8,.func (.func 119) [] [.ptr 5 0]),(7,.ptr 5 0),(6,.ptr 3 0),(4,.ptr 2 0),(3,.ptr 1 0),(2,.func (.func fn) [] cap)]⟩,⟨[(12,.row 3 (s2.map cS) ts2 false),(11,.cells [aA v2]),(10,.cells [aA v1]),(9,.cells ((kN).map .bool)),(8,.cells [.bool v9,.own 12 ts2]),(7,.cells [.int .i64 x6.a,.int .i64 x6.b]),(6,.row 2 (List.map ic s3_3) ts3_3 false),(5,.cells [.own 4 ts1]),(4,.row 2 (s1.map gg) ts1 false),(3,.cells [.ax]),(2,.cells [aA v2]),(1,.cells [aA v1]),(0,aX)],13,0,[],[]⟩,(256)-iw)) ⟨(0,_,_,ts2_3,(0)),hv40⟩ ?_
     rintro⟨i40,s1_40,s2_40,ts1_40,ts2_40⟩ hq40
     dsimp only at hq40
     refine z ?_
     refine zd ?_ ?_<;>intro h41
     ·have h41':(i40:Int)<(((256):Nat):Int):=by(try simp only[Tr,Ty,Tx,Tt] at h41);omega
      rw[c9 h41',dh] at hq40
      refine z ?_
      obtain⟨j42,x42,en42,ej42,ex42,hq40⟩:=gS hq40
      refine cA en42 ej42 (z ?_)
      rw[eT ex42 (by(show _+_*1=_;omega)) rfl]
      refine z ?_
      refine zr ?_ ?_<;>intro h43
      ·rw[Th h43] at hq40
       refine dg ae [0,1,0,4,0,0,0,64,0,256,992,0,0,4096,0,16384,65504,131040,262128,524284,1048572,2097151,4194303,8388607] [⟨23,0,0,[8]⟩,⟨21,0,0,[12]⟩,⟨18,0,0,[5,4]⟩] (z ?_)
       obtain⟨v50,e50,hq40⟩:=aa hq40
       refine ce (dB e50) (z ?_)
       obtain⟨v51,e51,hq40⟩:=aa hq40
       refine ce (dB e51) (z ?_)
       refine cd ae Tryz.f119 (z ?_)
       obtain⟨v52,e52,hq40⟩:=aa hq40
       refine cm (eB e52) rfl (z ?_)
       refine zd ?_ ?_<;>intro h53
       ·rw[Th h53] at hq40
        obtain⟨hg54,hq40⟩:=ay hq40
        refine z ?_
        refine aH ({a:=v50,b:=v51}) rfl (z ?_)
        refine ed (z ?_)
        obtain⟨hg55,hq40⟩:=ay hq40
        refine z ?_
        refine aH ({lo:=↑i40,hi:=0,to:=↑s1_40.length}) rfl (z ?_)
        obtain⟨hg56,hq40⟩:=ah hq40
        refine z ?_
        obtain⟨j58,x58,en58,ex58,hq40⟩:=bV hq40
        refine aK en58 ex58 (z ?_)
        refine cq _ ({lo:=x58.lo,hi:=↑i40,to:=x58.to}) ex58 rfl (z ?_)
        exact bk ⟨(i40+1,_,_,(ts1_40+1),(ts2_40+1)),hq40⟩
       ·rw[Ti h53] at hq40
        refine ed (z ?_)
        obtain⟨hg59,hq40⟩:=ay hq40
        refine z ?_
        refine aH ({lo:=↑i40,hi:=0,to:=v52}) rfl (z ?_)
        obtain⟨hg60,hq40⟩:=ah hq40
        refine z ?_
        obtain⟨j62,x62,en62,ex62,hq40⟩:=bV hq40
        refine aK en62 ex62 (z ?_)
        refine cq _ ({lo:=x62.lo,hi:=↑i40,to:=x62.to}) ex62 rfl (z ?_)
        exact bk ⟨(i40+1,_,_,ts1_40,(ts2_40+1)),hq40⟩
      ·rw[Ti (nt h43)] at hq40
       obtain⟨hg63,hq40⟩:=ah hq40
       refine z ?_
       obtain⟨j65,x65,en65,ex65,hq40⟩:=bV hq40
       refine aK en65 ex65 (z ?_)
       refine cq _ ({lo:=x65.lo,hi:=↑i40,to:=x65.to}) ex65 rfl (z ?_)
       exact bk ⟨(i40+1,_,_,ts1_40,ts2_40),hq40⟩
     ·have h41':¬(i40:Int)<(((256):Nat):Int):=by(try simp only[Tr,Ty,Tx,Tt] at h41);omega
      rw[c8 h41',dh] at hq40
      cases hq40
      dsimp only at hq3
      refine z ?_
      obtain⟨hg66,hq3⟩:=ay hq3
      refine z ?_
      refine aH ({acc:=v9,aF:=s2_40}) rfl (z ?_)
      exact bk ⟨(n3,_,_,_,ts1_40,(ts3_3+1)),hq3⟩
    ·rw[Ti h39] at hq3
     rw[Tl] at hq3
     refine z ?_
     obtain⟨j67,x67,en67,ex67,hq3⟩:=av hq3
     refine bF en67 ex67 rfl ?_
     rw[Tl] at hq3
     refine z ?_
     obtain⟨hg68,hq3⟩:=ah hq3
     obtain⟨v69,hv69,hq3⟩:=aa hq3
     refine lg (α:=Nat×List Bool) ae (fun(iw,s1)=>(gk (List.drop iw x67.aF) s1=some v69,⟨43,[(24,.int .i64 iw),(23,.int .i64 ↑x67.aF.length),(22,.aE false (List.map cS x67.aF)),(10,.bool false),(14,.int .i64 ↑v2.length),(13,aA v2),(12,.ptr 11 0),(11,.int .i64 x6.b),(8,.int .i64 x6.b),(3,.ptr 11 0),(0,.agg [aA v2]),(2,.ptr 9 0)]⟩,⟨[(11,.cells [aA v2]),(10,.cells [aA v1]),(9,.cells (s1.map .bool)),(8,.cells [.bool v9,.ax]),(7,.cells [.int .i64 x6.a,.int .i64 x6.b]),(6,.row 2 (List.map ic s3_3) ts3_3 false),(5,.cells [.own 4 ts2_3]),(4,.row 2 (List.map gg s2_3) ts2_3 false),(3,.cells [.ax]),(2,.cells [aA v2]),(1,.cells [aA v1]),(0,aX)],12,0,[],[]⟩,List.length x67.aF-iw)) ⟨(0,_),hv69⟩ ?_
     rintro⟨i69,s1_69⟩ hq69
     dsimp only at hq69
     refine z ?_
     refine zd ?_ ?_<;>intro h70
     ·obtain⟨x70,ex70,ed70⟩:=an h70
      rw[ed70,gk] at hq69
      refine z ?_
      refine bq ex70 rfl (z ?_)
      refine dg ae [0,0,2,1,15,31] [] (z ?_)
      obtain⟨j71,x71,en71,ej71,ex71,hq69⟩:=dX hq69
      refine cA en71 ej71 (z ?_)
      rw[dJ ex71 (by(show _+_*1=_;omega))]
      refine z ?_
      refine zd ?_ ?_<;>intro h72
      ·rw[Th h72] at hq69
       refine dg ae [0,0,2,6,1,31,63] [] (z ?_)
       obtain⟨hg73,hq69⟩:=ah hq69
       refine z ?_
       obtain⟨j75,x75,en75,ej75,ex75,hq69⟩:=dX hq69
       refine cA en75 ej75 (z ?_)
       rw[dJ ex75 (by(show _+_*1=_;omega))]
       refine z ?_
       exact bk ⟨(i69+1,_),hq69⟩
      ·rw[Ti h72] at hq69
       exact bk ⟨(i69+1,_),hq69⟩
     ·rw[aq h70,gk] at hq69
      cases hq69
      refine z ?_
      refine ei (z ?_)
      obtain⟨v76,hv76,hq3⟩:=aa hq3
      refine bJ 8 1 3 rfl rfl ?_
      refine lg (α:=Nat×List dq×List Sv.Edge×Nat×Nat) ae (fun(iw,s1,s2,ts1,ts2)=>(dh v1 v2 x6 v69 (256-iw) (iw:Int) s1 s2=some v76,⟨104,[(54,.int .i64 iw),(13,.ptr 9 0),(12,.ptr 8 0),(11,.ptr 7 0),(9,.own 6 ts3_3),(10,.int .i64 s1_3),(8,.func (.func 119) [] [.ptr 5 0]),(7,.ptr 5 0),(6,.ptr 3 0),(4,.ptr 2 0),(3,.ptr 1 0),(2,.func (.func fn) [] cap)]⟩,⟨[(12,.row 3 (s2.map cS) ts2 false),(11,.cells [aA v2]),(10,.cells [aA v1]),(9,.cells ((v69).map .bool)),(8,.cells [.bool v9,.own 12 ts2]),(7,.cells [.int .i64 x6.a,.int .i64 x6.b]),(6,.row 2 (List.map ic s3_3) ts3_3 false),(5,.cells [.own 4 ts1]),(4,.row 2 (s1.map gg) ts1 false),(3,.cells [.ax]),(2,.cells [aA v2]),(1,.cells [aA v1]),(0,aX)],13,0,[],[]⟩,(256)-iw)) ⟨(0,_,_,ts2_3,(0)),hv76⟩ ?_
      rintro⟨i76,s1_76,s2_76,ts1_76,ts2_76⟩ hq76
      dsimp only at hq76
      refine z ?_
      refine zd ?_ ?_<;>intro h77
      ·have h77':(i76:Int)<(((256):Nat):Int):=by(try simp only[Tr,Ty,Tx,Tt] at h77);omega
       rw[c9 h77',dh] at hq76
       refine z ?_
       obtain⟨j78,x78,en78,ej78,ex78,hq76⟩:=gS hq76
       refine cA en78 ej78 (z ?_)
       rw[eT ex78 (by(show _+_*1=_;omega)) rfl]
       refine z ?_
       refine zr ?_ ?_<;>intro h79
       ·rw[Th h79] at hq76
        refine dg ae [0,1,0,4,0,0,0,64,0,256,992,0,0,4096,0,16384,65504,131040,262128,524284,1048572,2097151,4194303,8388607] [⟨23,0,0,[8]⟩,⟨21,0,0,[12]⟩,⟨18,0,0,[5,4]⟩] (z ?_)
        obtain⟨v86,e86,hq76⟩:=aa hq76
        refine ce (dB e86) (z ?_)
        obtain⟨v87,e87,hq76⟩:=aa hq76
        refine ce (dB e87) (z ?_)
        refine cd ae Tryz.f119 (z ?_)
        obtain⟨v88,e88,hq76⟩:=aa hq76
        refine cm (eB e88) rfl (z ?_)
        refine zd ?_ ?_<;>intro h89
        ·rw[Th h89] at hq76
         obtain⟨hg90,hq76⟩:=ay hq76
         refine z ?_
         refine aH ({a:=v86,b:=v87}) rfl (z ?_)
         refine ed (z ?_)
         obtain⟨hg91,hq76⟩:=ay hq76
         refine z ?_
         refine aH ({lo:=↑i76,hi:=0,to:=↑s1_76.length}) rfl (z ?_)
         obtain⟨hg92,hq76⟩:=ah hq76
         refine z ?_
         obtain⟨j94,x94,en94,ex94,hq76⟩:=bV hq76
         refine aK en94 ex94 (z ?_)
         refine cq _ ({lo:=x94.lo,hi:=↑i76,to:=x94.to}) ex94 rfl (z ?_)
         exact bk ⟨(i76+1,_,_,(ts1_76+1),(ts2_76+1)),hq76⟩
        ·rw[Ti h89] at hq76
         refine ed (z ?_)
         obtain⟨hg95,hq76⟩:=ay hq76
         refine z ?_
         refine aH ({lo:=↑i76,hi:=0,to:=v88}) rfl (z ?_)
         obtain⟨hg96,hq76⟩:=ah hq76
         refine z ?_
         obtain⟨j98,x98,en98,ex98,hq76⟩:=bV hq76
         refine aK en98 ex98 (z ?_)
         refine cq _ ({lo:=x98.lo,hi:=↑i76,to:=x98.to}) ex98 rfl (z ?_)
         exact bk ⟨(i76+1,_,_,ts1_76,(ts2_76+1)),hq76⟩
       ·rw[Ti (nt h79)] at hq76
        obtain⟨hg99,hq76⟩:=ah hq76
        refine z ?_
        obtain⟨j101,x101,en101,ex101,hq76⟩:=bV hq76
        refine aK en101 ex101 (z ?_)
        refine cq _ ({lo:=x101.lo,hi:=↑i76,to:=x101.to}) ex101 rfl (z ?_)
        exact bk ⟨(i76+1,_,_,ts1_76,ts2_76),hq76⟩
      ·have h77':¬(i76:Int)<(((256):Nat):Int):=by(try simp only[Tr,Ty,Tx,Tt] at h77);omega
       rw[c8 h77',dh] at hq76
       cases hq76
       dsimp only at hq3
       refine z ?_
       obtain⟨hg102,hq3⟩:=ay hq3
       refine z ?_
       refine aH ({acc:=v9,aF:=s2_76}) rfl (z ?_)
       exact bk ⟨(n3,_,_,_,ts1_76,(ts3_3+1)),hq3⟩
  ·rw[Ti h10] at hq3
   refine zd ?_ ?_<;>intro h103
   ·rw[Th h103] at hq3
    dsimp only[Option.bind_some] at hq3
    refine z ?_
    refine ei (z ?_)
    refine ci ae Tryz.f122 (z ?_)
    refine zd ?_ ?_<;>intro h104
    ·rw[Th h104] at hq3
     dsimp only[Option.bind_some] at hq3
     refine z ?_
     refine ei (z ?_)
     obtain⟨v105,hv105,hq3⟩:=aa hq3
     refine bJ 8 1 3 rfl rfl ?_
     refine lg (α:=Nat×List dq×List Sv.Edge×Nat×Nat) ae (fun(iw,s1,s2,ts1,ts2)=>(dh v1 v2 x6 kN (256-iw) (iw:Int) s1 s2=some v105,⟨104,[(54,.int .i64 iw),(13,.ptr 9 0),(12,.ptr 8 0),(11,.ptr 7 0),(9,.own 6 ts3_3),(10,.int .i64 s1_3),(8,.func (.func 119) [] [.ptr 5 0]),(7,.ptr 5 0),(6,.ptr 3 0),(4,.ptr 2 0),(3,.ptr 1 0),(2,.func (.func fn) [] cap)]⟩,⟨[(12,.row 3 (s2.map cS) ts2 false),(11,.cells [aA v2]),(10,.cells [aA v1]),(9,.cells ((kN).map .bool)),(8,.cells [.bool v9,.own 12 ts2]),(7,.cells [.int .i64 x6.a,.int .i64 x6.b]),(6,.row 2 (List.map ic s3_3) ts3_3 false),(5,.cells [.own 4 ts1]),(4,.row 2 (s1.map gg) ts1 false),(3,.cells [.ax]),(2,.cells [aA v2]),(1,.cells [aA v1]),(0,aX)],13,0,[],[]⟩,(256)-iw)) ⟨(0,_,_,ts2_3,(0)),hv105⟩ ?_
     rintro⟨i105,s1_105,s2_105,ts1_105,ts2_105⟩ hq105
     dsimp only at hq105
     refine z ?_
     refine zd ?_ ?_<;>intro h106
     ·have h106':(i105:Int)<(((256):Nat):Int):=by(try simp only[Tr,Ty,Tx,Tt] at h106);omega
      rw[c9 h106',dh] at hq105
      refine z ?_
      obtain⟨j107,x107,en107,ej107,ex107,hq105⟩:=gS hq105
      refine cA en107 ej107 (z ?_)
      rw[eT ex107 (by(show _+_*1=_;omega)) rfl]
      refine z ?_
      refine zr ?_ ?_<;>intro h108
      ·rw[Th h108] at hq105
       refine dg ae [0,1,0,4,0,0,0,64,0,256,992,0,0,4096,0,16384,65504,131040,262128,524284,1048572,2097151,4194303,8388607] [⟨23,0,0,[8]⟩,⟨21,0,0,[12]⟩,⟨18,0,0,[5,4]⟩] (z ?_)
       obtain⟨v115,e115,hq105⟩:=aa hq105
       refine ce (dB e115) (z ?_)
       obtain⟨v116,e116,hq105⟩:=aa hq105
       refine ce (dB e116) (z ?_)
       refine cd ae Tryz.f119 (z ?_)
       obtain⟨v117,e117,hq105⟩:=aa hq105
       refine cm (eB e117) rfl (z ?_)
       refine zd ?_ ?_<;>intro h118
       ·rw[Th h118] at hq105
        obtain⟨hg119,hq105⟩:=ay hq105
        refine z ?_
        refine aH ({a:=v115,b:=v116}) rfl (z ?_)
        refine ed (z ?_)
        obtain⟨hg120,hq105⟩:=ay hq105
        refine z ?_
        refine aH ({lo:=↑i105,hi:=0,to:=↑s1_105.length}) rfl (z ?_)
        obtain⟨hg121,hq105⟩:=ah hq105
        refine z ?_
        obtain⟨j123,x123,en123,ex123,hq105⟩:=bV hq105
        refine aK en123 ex123 (z ?_)
        refine cq _ ({lo:=x123.lo,hi:=↑i105,to:=x123.to}) ex123 rfl (z ?_)
        exact bk ⟨(i105+1,_,_,(ts1_105+1),(ts2_105+1)),hq105⟩
       ·rw[Ti h118] at hq105
        refine ed (z ?_)
        obtain⟨hg124,hq105⟩:=ay hq105
        refine z ?_
        refine aH ({lo:=↑i105,hi:=0,to:=v117}) rfl (z ?_)
        obtain⟨hg125,hq105⟩:=ah hq105
        refine z ?_
        obtain⟨j127,x127,en127,ex127,hq105⟩:=bV hq105
        refine aK en127 ex127 (z ?_)
        refine cq _ ({lo:=x127.lo,hi:=↑i105,to:=x127.to}) ex127 rfl (z ?_)
        exact bk ⟨(i105+1,_,_,ts1_105,(ts2_105+1)),hq105⟩
      ·rw[Ti (nt h108)] at hq105
       obtain⟨hg128,hq105⟩:=ah hq105
       refine z ?_
       obtain⟨j130,x130,en130,ex130,hq105⟩:=bV hq105
       refine aK en130 ex130 (z ?_)
       refine cq _ ({lo:=x130.lo,hi:=↑i105,to:=x130.to}) ex130 rfl (z ?_)
       exact bk ⟨(i105+1,_,_,ts1_105,ts2_105),hq105⟩
     ·have h106':¬(i105:Int)<(((256):Nat):Int):=by(try simp only[Tr,Ty,Tx,Tt] at h106);omega
      rw[c8 h106',dh] at hq105
      cases hq105
      dsimp only at hq3
      refine z ?_
      obtain⟨hg131,hq3⟩:=ay hq3
      refine z ?_
      refine aH ({acc:=v9,aF:=s2_105}) rfl (z ?_)
      exact bk ⟨(n3,_,_,_,ts1_105,(ts3_3+1)),hq3⟩
    ·rw[Ti h104] at hq3
     refine zd ?_ ?_<;>intro h132
     ·rw[Th h132] at hq3
      dsimp only[Option.bind_some] at hq3
      refine z ?_
      refine ei (z ?_)
      obtain⟨v133,hv133,hq3⟩:=aa hq3
      refine bJ 8 1 3 rfl rfl ?_
      refine lg (α:=Nat×List dq×List Sv.Edge×Nat×Nat) ae (fun(iw,s1,s2,ts1,ts2)=>(dh v1 v2 x6 kN (256-iw) (iw:Int) s1 s2=some v133,⟨104,[(54,.int .i64 iw),(13,.ptr 9 0),(12,.ptr 8 0),(11,.ptr 7 0),(9,.own 6 ts3_3),(10,.int .i64 s1_3),(8,.func (.func 119) [] [.ptr 5 0]),(7,.ptr 5 0),(6,.ptr 3 0),(4,.ptr 2 0),(3,.ptr 1 0),(2,.func (.func fn) [] cap)]⟩,⟨[(12,.row 3 (s2.map cS) ts2 false),(11,.cells [aA v2]),(10,.cells [aA v1]),(9,.cells ((kN).map .bool)),(8,.cells [.bool v9,.own 12 ts2]),(7,.cells [.int .i64 x6.a,.int .i64 x6.b]),(6,.row 2 (List.map ic s3_3) ts3_3 false),(5,.cells [.own 4 ts1]),(4,.row 2 (s1.map gg) ts1 false),(3,.cells [.ax]),(2,.cells [aA v2]),(1,.cells [aA v1]),(0,aX)],13,0,[],[]⟩,(256)-iw)) ⟨(0,_,_,ts2_3,(0)),hv133⟩ ?_
      rintro⟨i133,s1_133,s2_133,ts1_133,ts2_133⟩ hq133
      dsimp only at hq133
      refine z ?_
      refine zd ?_ ?_<;>intro h134
      ·have h134':(i133:Int)<(((256):Nat):Int):=by(try simp only[Tr,Ty,Tx,Tt] at h134);omega
       rw[c9 h134',dh] at hq133
       refine z ?_
       obtain⟨j135,x135,en135,ej135,ex135,hq133⟩:=gS hq133
       refine cA en135 ej135 (z ?_)
       rw[eT ex135 (by(show _+_*1=_;omega)) rfl]
       refine z ?_
       refine zr ?_ ?_<;>intro h136
       ·rw[Th h136] at hq133
        refine dg ae [0,1,0,4,0,0,0,64,0,256,992,0,0,4096,0,16384,65504,131040,262128,524284,1048572,2097151,4194303,8388607] [⟨23,0,0,[8]⟩,⟨21,0,0,[12]⟩,⟨18,0,0,[5,4]⟩] (z ?_)
        obtain⟨v143,e143,hq133⟩:=aa hq133
        refine ce (dB e143) (z ?_)
        obtain⟨v144,e144,hq133⟩:=aa hq133
        refine ce (dB e144) (z ?_)
        refine cd ae Tryz.f119 (z ?_)
        obtain⟨v145,e145,hq133⟩:=aa hq133
        refine cm (eB e145) rfl (z ?_)
        refine zd ?_ ?_<;>intro h146
        ·rw[Th h146] at hq133
         obtain⟨hg147,hq133⟩:=ay hq133
         refine z ?_
         refine aH ({a:=v143,b:=v144}) rfl (z ?_)
         refine ed (z ?_)
         obtain⟨hg148,hq133⟩:=ay hq133
         refine z ?_
         refine aH ({lo:=↑i133,hi:=0,to:=↑s1_133.length}) rfl (z ?_)
         obtain⟨hg149,hq133⟩:=ah hq133
         refine z ?_
         obtain⟨j151,x151,en151,ex151,hq133⟩:=bV hq133
         refine aK en151 ex151 (z ?_)
         refine cq _ ({lo:=x151.lo,hi:=↑i133,to:=x151.to}) ex151 rfl (z ?_)
         exact bk ⟨(i133+1,_,_,(ts1_133+1),(ts2_133+1)),hq133⟩
        ·rw[Ti h146] at hq133
         refine ed (z ?_)
         obtain⟨hg152,hq133⟩:=ay hq133
         refine z ?_
         refine aH ({lo:=↑i133,hi:=0,to:=v145}) rfl (z ?_)
         obtain⟨hg153,hq133⟩:=ah hq133
         refine z ?_
         obtain⟨j155,x155,en155,ex155,hq133⟩:=bV hq133
         refine aK en155 ex155 (z ?_)
         refine cq _ ({lo:=x155.lo,hi:=↑i133,to:=x155.to}) ex155 rfl (z ?_)
         exact bk ⟨(i133+1,_,_,ts1_133,(ts2_133+1)),hq133⟩
       ·rw[Ti (nt h136)] at hq133
        obtain⟨hg156,hq133⟩:=ah hq133
        refine z ?_
        obtain⟨j158,x158,en158,ex158,hq133⟩:=bV hq133
        refine aK en158 ex158 (z ?_)
        refine cq _ ({lo:=x158.lo,hi:=↑i133,to:=x158.to}) ex158 rfl (z ?_)
        exact bk ⟨(i133+1,_,_,ts1_133,ts2_133),hq133⟩
      ·have h134':¬(i133:Int)<(((256):Nat):Int):=by(try simp only[Tr,Ty,Tx,Tt] at h134);omega
       rw[c8 h134',dh] at hq133
       cases hq133
       dsimp only at hq3
       refine z ?_
       obtain⟨hg159,hq3⟩:=ay hq3
       refine z ?_
       refine aH ({acc:=v9,aF:=s2_133}) rfl (z ?_)
       exact bk ⟨(n3,_,_,_,ts1_133,(ts3_3+1)),hq3⟩
     ·rw[Ti h132] at hq3
      rw[Tl] at hq3
      refine z ?_
      obtain⟨j160,x160,en160,ex160,hq3⟩:=av hq3
      refine bF en160 ex160 rfl ?_
      rw[Tl] at hq3
      refine z ?_
      obtain⟨hg161,hq3⟩:=ah hq3
      obtain⟨v162,hv162,hq3⟩:=aa hq3
      refine lg (α:=Nat×List Bool) ae (fun(iw,s1)=>(gk (List.drop iw x160.aF) s1=some v162,⟨43,[(24,.int .i64 iw),(23,.int .i64 ↑x160.aF.length),(22,.aE false (List.map cS x160.aF)),(10,.bool false),(14,.int .i64 ↑v2.length),(13,aA v2),(12,.ptr 11 0),(11,.int .i64 x6.b),(8,.int .i64 x6.b),(3,.ptr 11 0),(0,.agg [aA v2]),(2,.ptr 9 0)]⟩,⟨[(11,.cells [aA v2]),(10,.cells [aA v1]),(9,.cells (s1.map .bool)),(8,.cells [.bool v9,.ax]),(7,.cells [.int .i64 x6.a,.int .i64 x6.b]),(6,.row 2 (List.map ic s3_3) ts3_3 false),(5,.cells [.own 4 ts2_3]),(4,.row 2 (List.map gg s2_3) ts2_3 false),(3,.cells [.ax]),(2,.cells [aA v2]),(1,.cells [aA v1]),(0,aX)],12,0,[],[]⟩,List.length x160.aF-iw)) ⟨(0,_),hv162⟩ ?_
      rintro⟨i162,s1_162⟩ hq162
      dsimp only at hq162
      refine z ?_
      refine zd ?_ ?_<;>intro h163
      ·obtain⟨x163,ex163,ed163⟩:=an h163
       rw[ed163,gk] at hq162
       refine z ?_
       refine bq ex163 rfl (z ?_)
       refine dg ae [0,0,2,1,15,31] [] (z ?_)
       obtain⟨j164,x164,en164,ej164,ex164,hq162⟩:=dX hq162
       refine cA en164 ej164 (z ?_)
       rw[dJ ex164 (by(show _+_*1=_;omega))]
       refine z ?_
       refine zd ?_ ?_<;>intro h165
       ·rw[Th h165] at hq162
        refine dg ae [0,0,2,6,1,31,63] [] (z ?_)
        obtain⟨hg166,hq162⟩:=ah hq162
        refine z ?_
        obtain⟨j168,x168,en168,ej168,ex168,hq162⟩:=dX hq162
        refine cA en168 ej168 (z ?_)
        rw[dJ ex168 (by(show _+_*1=_;omega))]
        refine z ?_
        exact bk ⟨(i162+1,_),hq162⟩
       ·rw[Ti h165] at hq162
        exact bk ⟨(i162+1,_),hq162⟩
      ·rw[aq h163,gk] at hq162
       cases hq162
       refine z ?_
       refine ei (z ?_)
       obtain⟨v169,hv169,hq3⟩:=aa hq3
       refine bJ 8 1 3 rfl rfl ?_
       refine lg (α:=Nat×List dq×List Sv.Edge×Nat×Nat) ae (fun(iw,s1,s2,ts1,ts2)=>(dh v1 v2 x6 v162 (256-iw) (iw:Int) s1 s2=some v169,⟨104,[(54,.int .i64 iw),(13,.ptr 9 0),(12,.ptr 8 0),(11,.ptr 7 0),(9,.own 6 ts3_3),(10,.int .i64 s1_3),(8,.func (.func 119) [] [.ptr 5 0]),(7,.ptr 5 0),(6,.ptr 3 0),(4,.ptr 2 0),(3,.ptr 1 0),(2,.func (.func fn) [] cap)]⟩,⟨[(12,.row 3 (s2.map cS) ts2 false),(11,.cells [aA v2]),(10,.cells [aA v1]),(9,.cells ((v162).map .bool)),(8,.cells [.bool v9,.own 12 ts2]),(7,.cells [.int .i64 x6.a,.int .i64 x6.b]),(6,.row 2 (List.map ic s3_3) ts3_3 false),(5,.cells [.own 4 ts1]),(4,.row 2 (s1.map gg) ts1 false),(3,.cells [.ax]),(2,.cells [aA v2]),(1,.cells [aA v1]),(0,aX)],13,0,[],[]⟩,(256)-iw)) ⟨(0,_,_,ts2_3,(0)),hv169⟩ ?_
       rintro⟨i169,s1_169,s2_169,ts1_169,ts2_169⟩ hq169
       dsimp only at hq169
       refine z ?_
       refine zd ?_ ?_<;>intro h170
       ·have h170':(i169:Int)<(((256):Nat):Int):=by(try simp only[Tr,Ty,Tx,Tt] at h170);omega
        rw[c9 h170',dh] at hq169
        refine z ?_
        obtain⟨j171,x171,en171,ej171,ex171,hq169⟩:=gS hq169
        refine cA en171 ej171 (z ?_)
        rw[eT ex171 (by(show _+_*1=_;omega)) rfl]
        refine z ?_
        refine zr ?_ ?_<;>intro h172
        ·rw[Th h172] at hq169
         refine dg ae [0,1,0,4,0,0,0,64,0,256,992,0,0,4096,0,16384,65504,131040,262128,524284,1048572,2097151,4194303,8388607] [⟨23,0,0,[8]⟩,⟨21,0,0,[12]⟩,⟨18,0,0,[5,4]⟩] (z ?_)
         obtain⟨v179,e179,hq169⟩:=aa hq169
         refine ce (dB e179) (z ?_)
         obtain⟨v180,e180,hq169⟩:=aa hq169
         refine ce (dB e180) (z ?_)
         refine cd ae Tryz.f119 (z ?_)
         obtain⟨v181,e181,hq169⟩:=aa hq169
         refine cm (eB e181) rfl (z ?_)
         refine zd ?_ ?_<;>intro h182
         ·rw[Th h182] at hq169
          obtain⟨hg183,hq169⟩:=ay hq169
          refine z ?_
          refine aH ({a:=v179,b:=v180}) rfl (z ?_)
          refine ed (z ?_)
          obtain⟨hg184,hq169⟩:=ay hq169
          refine z ?_
          refine aH ({lo:=↑i169,hi:=0,to:=↑s1_169.length}) rfl (z ?_)
          obtain⟨hg185,hq169⟩:=ah hq169
          refine z ?_
          obtain⟨j187,x187,en187,ex187,hq169⟩:=bV hq169
          refine aK en187 ex187 (z ?_)
          refine cq _ ({lo:=x187.lo,hi:=↑i169,to:=x187.to}) ex187 rfl (z ?_)
          exact bk ⟨(i169+1,_,_,(ts1_169+1),(ts2_169+1)),hq169⟩
         ·rw[Ti h182] at hq169
          refine ed (z ?_)
          obtain⟨hg188,hq169⟩:=ay hq169
          refine z ?_
          refine aH ({lo:=↑i169,hi:=0,to:=v181}) rfl (z ?_)
          obtain⟨hg189,hq169⟩:=ah hq169
          refine z ?_
          obtain⟨j191,x191,en191,ex191,hq169⟩:=bV hq169
          refine aK en191 ex191 (z ?_)
          refine cq _ ({lo:=x191.lo,hi:=↑i169,to:=x191.to}) ex191 rfl (z ?_)
          exact bk ⟨(i169+1,_,_,ts1_169,(ts2_169+1)),hq169⟩
        ·rw[Ti (nt h172)] at hq169
         obtain⟨hg192,hq169⟩:=ah hq169
         refine z ?_
         obtain⟨j194,x194,en194,ex194,hq169⟩:=bV hq169
         refine aK en194 ex194 (z ?_)
         refine cq _ ({lo:=x194.lo,hi:=↑i169,to:=x194.to}) ex194 rfl (z ?_)
         exact bk ⟨(i169+1,_,_,ts1_169,ts2_169),hq169⟩
       ·have h170':¬(i169:Int)<(((256):Nat):Int):=by(try simp only[Tr,Ty,Tx,Tt] at h170);omega
        rw[c8 h170',dh] at hq169
        cases hq169
        dsimp only at hq3
        refine z ?_
        obtain⟨hg195,hq3⟩:=ay hq3
        refine z ?_
        refine aH ({acc:=v9,aF:=s2_169}) rfl (z ?_)
        exact bk ⟨(n3,_,_,_,ts1_169,(ts3_3+1)),hq3⟩
   ·rw[Ti h103] at hq3
    rw[Tl] at hq3
    refine z ?_
    obtain⟨j196,x196,en196,ex196,hq3⟩:=av hq3
    refine bF en196 ex196 rfl ?_
    rw[Tl] at hq3
    refine z ?_
    obtain⟨hg197,hq3⟩:=ah hq3
    obtain⟨v198,hv198,hq3⟩:=aa hq3
    refine lg (α:=Nat×List Bool) ae (fun(iw,s1)=>(gk (List.drop iw x196.aF) s1=some v198,⟨43,[(24,.int .i64 iw),(23,.int .i64 ↑x196.aF.length),(22,.aE false (List.map cS x196.aF)),(10,.bool false),(14,.int .i64 ↑v1.length),(13,aA v1),(12,.ptr 10 0),(11,.int .i64 x6.a),(8,.int .i64 x6.a),(3,.ptr 10 0),(0,.agg [aA v1]),(2,.ptr 9 0)]⟩,⟨[(10,.cells [aA v1]),(9,.cells (s1.map .bool)),(8,.cells [.bool v9,.ax]),(7,.cells [.int .i64 x6.a,.int .i64 x6.b]),(6,.row 2 (List.map ic s3_3) ts3_3 false),(5,.cells [.own 4 ts2_3]),(4,.row 2 (List.map gg s2_3) ts2_3 false),(3,.cells [.ax]),(2,.cells [aA v2]),(1,.cells [aA v1]),(0,aX)],11,0,[],[]⟩,List.length x196.aF-iw)) ⟨(0,_),hv198⟩ ?_
    rintro⟨i198,s1_198⟩ hq198
    dsimp only at hq198
    refine z ?_
    refine zd ?_ ?_<;>intro h199
    ·obtain⟨x199,ex199,ed199⟩:=an h199
     rw[ed199,gk] at hq198
     refine z ?_
     refine bq ex199 rfl (z ?_)
     refine dg ae [0,0,2,1,15,31] [] (z ?_)
     obtain⟨j200,x200,en200,ej200,ex200,hq198⟩:=dX hq198
     refine cA en200 ej200 (z ?_)
     rw[dJ ex200 (by(show _+_*1=_;omega))]
     refine z ?_
     refine zd ?_ ?_<;>intro h201
     ·rw[Th h201] at hq198
      refine dg ae [0,0,2,6,1,31,63] [] (z ?_)
      obtain⟨hg202,hq198⟩:=ah hq198
      refine z ?_
      obtain⟨j204,x204,en204,ej204,ex204,hq198⟩:=dX hq198
      refine cA en204 ej204 (z ?_)
      rw[dJ ex204 (by(show _+_*1=_;omega))]
      refine z ?_
      exact bk ⟨(i198+1,_),hq198⟩
     ·rw[Ti h201] at hq198
      exact bk ⟨(i198+1,_),hq198⟩
    ·rw[aq h199,gk] at hq198
     cases hq198
     refine z ?_
     refine ei (z ?_)
     refine ci ae Tryz.f122 (z ?_)
     refine zd ?_ ?_<;>intro h205
     ·rw[Th h205] at hq3
      dsimp only[Option.bind_some] at hq3
      refine z ?_
      refine ei (z ?_)
      obtain⟨v206,hv206,hq3⟩:=aa hq3
      refine bJ 8 1 3 rfl rfl ?_
      refine lg (α:=Nat×List dq×List Sv.Edge×Nat×Nat) ae (fun(iw,s1,s2,ts1,ts2)=>(dh v1 v2 x6 v198 (256-iw) (iw:Int) s1 s2=some v206,⟨104,[(54,.int .i64 iw),(13,.ptr 9 0),(12,.ptr 8 0),(11,.ptr 7 0),(9,.own 6 ts3_3),(10,.int .i64 s1_3),(8,.func (.func 119) [] [.ptr 5 0]),(7,.ptr 5 0),(6,.ptr 3 0),(4,.ptr 2 0),(3,.ptr 1 0),(2,.func (.func fn) [] cap)]⟩,⟨[(12,.row 3 (s2.map cS) ts2 false),(11,.cells [aA v2]),(10,.cells [aA v1]),(9,.cells ((v198).map .bool)),(8,.cells [.bool v9,.own 12 ts2]),(7,.cells [.int .i64 x6.a,.int .i64 x6.b]),(6,.row 2 (List.map ic s3_3) ts3_3 false),(5,.cells [.own 4 ts1]),(4,.row 2 (s1.map gg) ts1 false),(3,.cells [.ax]),(2,.cells [aA v2]),(1,.cells [aA v1]),(0,aX)],13,0,[],[]⟩,(256)-iw)) ⟨(0,_,_,ts2_3,(0)),hv206⟩ ?_
      rintro⟨i206,s1_206,s2_206,ts1_206,ts2_206⟩ hq206
      dsimp only at hq206
      refine z ?_
      refine zd ?_ ?_<;>intro h207
      ·have h207':(i206:Int)<(((256):Nat):Int):=by(try simp only[Tr,Ty,Tx,Tt] at h207);omega
       rw[c9 h207',dh] at hq206
       refine z ?_
       obtain⟨j208,x208,en208,ej208,ex208,hq206⟩:=gS hq206
       refine cA en208 ej208 (z ?_)
       rw[eT ex208 (by(show _+_*1=_;omega)) rfl]
       refine z ?_
       refine zr ?_ ?_<;>intro h209
       ·rw[Th h209] at hq206
        refine dg ae [0,1,0,4,0,0,0,64,0,256,992,0,0,4096,0,16384,65504,131040,262128,524284,1048572,2097151,4194303,8388607] [⟨23,0,0,[8]⟩,⟨21,0,0,[12]⟩,⟨18,0,0,[5,4]⟩] (z ?_)
        obtain⟨v216,e216,hq206⟩:=aa hq206
        refine ce (dB e216) (z ?_)
        obtain⟨v217,e217,hq206⟩:=aa hq206
        refine ce (dB e217) (z ?_)
        refine cd ae Tryz.f119 (z ?_)
        obtain⟨v218,e218,hq206⟩:=aa hq206
        refine cm (eB e218) rfl (z ?_)
        refine zd ?_ ?_<;>intro h219
        ·rw[Th h219] at hq206
         obtain⟨hg220,hq206⟩:=ay hq206
         refine z ?_
         refine aH ({a:=v216,b:=v217}) rfl (z ?_)
         refine ed (z ?_)
         obtain⟨hg221,hq206⟩:=ay hq206
         refine z ?_
         refine aH ({lo:=↑i206,hi:=0,to:=↑s1_206.length}) rfl (z ?_)
         obtain⟨hg222,hq206⟩:=ah hq206
         refine z ?_
         obtain⟨j224,x224,en224,ex224,hq206⟩:=bV hq206
         refine aK en224 ex224 (z ?_)
         refine cq _ ({lo:=x224.lo,hi:=↑i206,to:=x224.to}) ex224 rfl (z ?_)
         exact bk ⟨(i206+1,_,_,(ts1_206+1),(ts2_206+1)),hq206⟩
        ·rw[Ti h219] at hq206
         refine ed (z ?_)
         obtain⟨hg225,hq206⟩:=ay hq206
         refine z ?_
         refine aH ({lo:=↑i206,hi:=0,to:=v218}) rfl (z ?_)
         obtain⟨hg226,hq206⟩:=ah hq206
         refine z ?_
         obtain⟨j228,x228,en228,ex228,hq206⟩:=bV hq206
         refine aK en228 ex228 (z ?_)
         refine cq _ ({lo:=x228.lo,hi:=↑i206,to:=x228.to}) ex228 rfl (z ?_)
         exact bk ⟨(i206+1,_,_,ts1_206,(ts2_206+1)),hq206⟩
       ·rw[Ti (nt h209)] at hq206
        obtain⟨hg229,hq206⟩:=ah hq206
        refine z ?_
        obtain⟨j231,x231,en231,ex231,hq206⟩:=bV hq206
        refine aK en231 ex231 (z ?_)
        refine cq _ ({lo:=x231.lo,hi:=↑i206,to:=x231.to}) ex231 rfl (z ?_)
        exact bk ⟨(i206+1,_,_,ts1_206,ts2_206),hq206⟩
      ·have h207':¬(i206:Int)<(((256):Nat):Int):=by(try simp only[Tr,Ty,Tx,Tt] at h207);omega
       rw[c8 h207',dh] at hq206
       cases hq206
       dsimp only at hq3
       refine z ?_
       obtain⟨hg232,hq3⟩:=ay hq3
       refine z ?_
       refine aH ({acc:=v9,aF:=s2_206}) rfl (z ?_)
       exact bk ⟨(n3,_,_,_,ts1_206,(ts3_3+1)),hq3⟩
     ·rw[Ti h205] at hq3
      refine zd ?_ ?_<;>intro h233
      ·rw[Th h233] at hq3
       dsimp only[Option.bind_some] at hq3
       refine z ?_
       refine ei (z ?_)
       obtain⟨v234,hv234,hq3⟩:=aa hq3
       refine bJ 8 1 3 rfl rfl ?_
       refine lg (α:=Nat×List dq×List Sv.Edge×Nat×Nat) ae (fun(iw,s1,s2,ts1,ts2)=>(dh v1 v2 x6 v198 (256-iw) (iw:Int) s1 s2=some v234,⟨104,[(54,.int .i64 iw),(13,.ptr 9 0),(12,.ptr 8 0),(11,.ptr 7 0),(9,.own 6 ts3_3),(10,.int .i64 s1_3),(8,.func (.func 119) [] [.ptr 5 0]),(7,.ptr 5 0),(6,.ptr 3 0),(4,.ptr 2 0),(3,.ptr 1 0),(2,.func (.func fn) [] cap)]⟩,⟨[(12,.row 3 (s2.map cS) ts2 false),(11,.cells [aA v2]),(10,.cells [aA v1]),(9,.cells ((v198).map .bool)),(8,.cells [.bool v9,.own 12 ts2]),(7,.cells [.int .i64 x6.a,.int .i64 x6.b]),(6,.row 2 (List.map ic s3_3) ts3_3 false),(5,.cells [.own 4 ts1]),(4,.row 2 (s1.map gg) ts1 false),(3,.cells [.ax]),(2,.cells [aA v2]),(1,.cells [aA v1]),(0,aX)],13,0,[],[]⟩,(256)-iw)) ⟨(0,_,_,ts2_3,(0)),hv234⟩ ?_
       rintro⟨i234,s1_234,s2_234,ts1_234,ts2_234⟩ hq234
       dsimp only at hq234
       refine z ?_
       refine zd ?_ ?_<;>intro h235
       ·have h235':(i234:Int)<(((256):Nat):Int):=by(try simp only[Tr,Ty,Tx,Tt] at h235);omega
        rw[c9 h235',dh] at hq234
        refine z ?_
        obtain⟨j236,x236,en236,ej236,ex236,hq234⟩:=gS hq234
        refine cA en236 ej236 (z ?_)
        rw[eT ex236 (by(show _+_*1=_;omega)) rfl]
        refine z ?_
        refine zr ?_ ?_<;>intro h237
        ·rw[Th h237] at hq234
         refine dg ae [0,1,0,4,0,0,0,64,0,256,992,0,0,4096,0,16384,65504,131040,262128,524284,1048572,2097151,4194303,8388607] [⟨23,0,0,[8]⟩,⟨21,0,0,[12]⟩,⟨18,0,0,[5,4]⟩] (z ?_)
         obtain⟨v244,e244,hq234⟩:=aa hq234
         refine ce (dB e244) (z ?_)
         obtain⟨v245,e245,hq234⟩:=aa hq234
         refine ce (dB e245) (z ?_)
         refine cd ae Tryz.f119 (z ?_)
         obtain⟨v246,e246,hq234⟩:=aa hq234
         refine cm (eB e246) rfl (z ?_)
         refine zd ?_ ?_<;>intro h247
         ·rw[Th h247] at hq234
          obtain⟨hg248,hq234⟩:=ay hq234
          refine z ?_
          refine aH ({a:=v244,b:=v245}) rfl (z ?_)
          refine ed (z ?_)
          obtain⟨hg249,hq234⟩:=ay hq234
          refine z ?_
          refine aH ({lo:=↑i234,hi:=0,to:=↑s1_234.length}) rfl (z ?_)
          obtain⟨hg250,hq234⟩:=ah hq234
          refine z ?_
          obtain⟨j252,x252,en252,ex252,hq234⟩:=bV hq234
          refine aK en252 ex252 (z ?_)
          refine cq _ ({lo:=x252.lo,hi:=↑i234,to:=x252.to}) ex252 rfl (z ?_)
          exact bk ⟨(i234+1,_,_,(ts1_234+1),(ts2_234+1)),hq234⟩
         ·rw[Ti h247] at hq234
          refine ed (z ?_)
          obtain⟨hg253,hq234⟩:=ay hq234
          refine z ?_
          refine aH ({lo:=↑i234,hi:=0,to:=v246}) rfl (z ?_)
          obtain⟨hg254,hq234⟩:=ah hq234
          refine z ?_
          obtain⟨j256,x256,en256,ex256,hq234⟩:=bV hq234
          refine aK en256 ex256 (z ?_)
          refine cq _ ({lo:=x256.lo,hi:=↑i234,to:=x256.to}) ex256 rfl (z ?_)
          exact bk ⟨(i234+1,_,_,ts1_234,(ts2_234+1)),hq234⟩
        ·rw[Ti (nt h237)] at hq234
         obtain⟨hg257,hq234⟩:=ah hq234
         refine z ?_
         obtain⟨j259,x259,en259,ex259,hq234⟩:=bV hq234
         refine aK en259 ex259 (z ?_)
         refine cq _ ({lo:=x259.lo,hi:=↑i234,to:=x259.to}) ex259 rfl (z ?_)
         exact bk ⟨(i234+1,_,_,ts1_234,ts2_234),hq234⟩
       ·have h235':¬(i234:Int)<(((256):Nat):Int):=by(try simp only[Tr,Ty,Tx,Tt] at h235);omega
        rw[c8 h235',dh] at hq234
        cases hq234
        dsimp only at hq3
        refine z ?_
        obtain⟨hg260,hq3⟩:=ay hq3
        refine z ?_
        refine aH ({acc:=v9,aF:=s2_234}) rfl (z ?_)
        exact bk ⟨(n3,_,_,_,ts1_234,(ts3_3+1)),hq3⟩
      ·rw[Ti h233] at hq3
       rw[Tl] at hq3
       refine z ?_
       obtain⟨j261,x261,en261,ex261,hq3⟩:=av hq3
       refine bF en261 ex261 rfl ?_
       rw[Tl] at hq3
       refine z ?_
       obtain⟨hg262,hq3⟩:=ah hq3
       obtain⟨v263,hv263,hq3⟩:=aa hq3
       refine lg (α:=Nat×List Bool) ae (fun(iw,s1)=>(gk (List.drop iw x261.aF) s1=some v263,⟨43,[(24,.int .i64 iw),(23,.int .i64 ↑x261.aF.length),(22,.aE false (List.map cS x261.aF)),(10,.bool false),(14,.int .i64 ↑v2.length),(13,aA v2),(12,.ptr 11 0),(11,.int .i64 x6.b),(8,.int .i64 x6.b),(3,.ptr 11 0),(0,.agg [aA v2]),(2,.ptr 9 0)]⟩,⟨[(11,.cells [aA v2]),(10,.cells [aA v1]),(9,.cells (s1.map .bool)),(8,.cells [.bool v9,.ax]),(7,.cells [.int .i64 x6.a,.int .i64 x6.b]),(6,.row 2 (List.map ic s3_3) ts3_3 false),(5,.cells [.own 4 ts2_3]),(4,.row 2 (List.map gg s2_3) ts2_3 false),(3,.cells [.ax]),(2,.cells [aA v2]),(1,.cells [aA v1]),(0,aX)],12,0,[],[]⟩,List.length x261.aF-iw)) ⟨(0,_),hv263⟩ ?_
       rintro⟨i263,s1_263⟩ hq263
       dsimp only at hq263
       refine z ?_
       refine zd ?_ ?_<;>intro h264
       ·obtain⟨x264,ex264,ed264⟩:=an h264
        rw[ed264,gk] at hq263
        refine z ?_
        refine bq ex264 rfl (z ?_)
        refine dg ae [0,0,2,1,15,31] [] (z ?_)
        obtain⟨j265,x265,en265,ej265,ex265,hq263⟩:=dX hq263
        refine cA en265 ej265 (z ?_)
        rw[dJ ex265 (by(show _+_*1=_;omega))]
        refine z ?_
        refine zd ?_ ?_<;>intro h266
        ·rw[Th h266] at hq263
         refine dg ae [0,0,2,6,1,31,63] [] (z ?_)
         obtain⟨hg267,hq263⟩:=ah hq263
         refine z ?_
         obtain⟨j269,x269,en269,ej269,ex269,hq263⟩:=dX hq263
         refine cA en269 ej269 (z ?_)
         rw[dJ ex269 (by(show _+_*1=_;omega))]
         refine z ?_
         exact bk ⟨(i263+1,_),hq263⟩
        ·rw[Ti h266] at hq263
         exact bk ⟨(i263+1,_),hq263⟩
       ·rw[aq h264,gk] at hq263
        cases hq263
        refine z ?_
        refine ei (z ?_)
        obtain⟨v270,hv270,hq3⟩:=aa hq3
        refine bJ 8 1 3 rfl rfl ?_
        refine lg (α:=Nat×List dq×List Sv.Edge×Nat×Nat) ae (fun(iw,s1,s2,ts1,ts2)=>(dh v1 v2 x6 v263 (256-iw) (iw:Int) s1 s2=some v270,⟨104,[(54,.int .i64 iw),(13,.ptr 9 0),(12,.ptr 8 0),(11,.ptr 7 0),(9,.own 6 ts3_3),(10,.int .i64 s1_3),(8,.func (.func 119) [] [.ptr 5 0]),(7,.ptr 5 0),(6,.ptr 3 0),(4,.ptr 2 0),(3,.ptr 1 0),(2,.func (.func fn) [] cap)]⟩,⟨[(12,.row 3 (s2.map cS) ts2 false),(11,.cells [aA v2]),(10,.cells [aA v1]),(9,.cells ((v263).map .bool)),(8,.cells [.bool v9,.own 12 ts2]),(7,.cells [.int .i64 x6.a,.int .i64 x6.b]),(6,.row 2 (List.map ic s3_3) ts3_3 false),(5,.cells [.own 4 ts1]),(4,.row 2 (s1.map gg) ts1 false),(3,.cells [.ax]),(2,.cells [aA v2]),(1,.cells [aA v1]),(0,aX)],13,0,[],[]⟩,(256)-iw)) ⟨(0,_,_,ts2_3,(0)),hv270⟩ ?_
        rintro⟨i270,s1_270,s2_270,ts1_270,ts2_270⟩ hq270
        dsimp only at hq270
        refine z ?_
        refine zd ?_ ?_<;>intro h271
        ·have h271':(i270:Int)<(((256):Nat):Int):=by(try simp only[Tr,Ty,Tx,Tt] at h271);omega
         rw[c9 h271',dh] at hq270
         refine z ?_
         obtain⟨j272,x272,en272,ej272,ex272,hq270⟩:=gS hq270
         refine cA en272 ej272 (z ?_)
         rw[eT ex272 (by(show _+_*1=_;omega)) rfl]
         refine z ?_
         refine zr ?_ ?_<;>intro h273
         ·rw[Th h273] at hq270
          refine dg ae [0,1,0,4,0,0,0,64,0,256,992,0,0,4096,0,16384,65504,131040,262128,524284,1048572,2097151,4194303,8388607] [⟨23,0,0,[8]⟩,⟨21,0,0,[12]⟩,⟨18,0,0,[5,4]⟩] (z ?_)
          obtain⟨v280,e280,hq270⟩:=aa hq270
          refine ce (dB e280) (z ?_)
          obtain⟨v281,e281,hq270⟩:=aa hq270
          refine ce (dB e281) (z ?_)
          refine cd ae Tryz.f119 (z ?_)
          obtain⟨v282,e282,hq270⟩:=aa hq270
          refine cm (eB e282) rfl (z ?_)
          refine zd ?_ ?_<;>intro h283
          ·rw[Th h283] at hq270
           obtain⟨hg284,hq270⟩:=ay hq270
           refine z ?_
           refine aH ({a:=v280,b:=v281}) rfl (z ?_)
           refine ed (z ?_)
           obtain⟨hg285,hq270⟩:=ay hq270
           refine z ?_
           refine aH ({lo:=↑i270,hi:=0,to:=↑s1_270.length}) rfl (z ?_)
           obtain⟨hg286,hq270⟩:=ah hq270
           refine z ?_
           obtain⟨j288,x288,en288,ex288,hq270⟩:=bV hq270
           refine aK en288 ex288 (z ?_)
           refine cq _ ({lo:=x288.lo,hi:=↑i270,to:=x288.to}) ex288 rfl (z ?_)
           exact bk ⟨(i270+1,_,_,(ts1_270+1),(ts2_270+1)),hq270⟩
          ·rw[Ti h283] at hq270
           refine ed (z ?_)
           obtain⟨hg289,hq270⟩:=ay hq270
           refine z ?_
           refine aH ({lo:=↑i270,hi:=0,to:=v282}) rfl (z ?_)
           obtain⟨hg290,hq270⟩:=ah hq270
           refine z ?_
           obtain⟨j292,x292,en292,ex292,hq270⟩:=bV hq270
           refine aK en292 ex292 (z ?_)
           refine cq _ ({lo:=x292.lo,hi:=↑i270,to:=x292.to}) ex292 rfl (z ?_)
           exact bk ⟨(i270+1,_,_,ts1_270,(ts2_270+1)),hq270⟩
         ·rw[Ti (nt h273)] at hq270
          obtain⟨hg293,hq270⟩:=ah hq270
          refine z ?_
          obtain⟨j295,x295,en295,ex295,hq270⟩:=bV hq270
          refine aK en295 ex295 (z ?_)
          refine cq _ ({lo:=x295.lo,hi:=↑i270,to:=x295.to}) ex295 rfl (z ?_)
          exact bk ⟨(i270+1,_,_,ts1_270,ts2_270),hq270⟩
        ·have h271':¬(i270:Int)<(((256):Nat):Int):=by(try simp only[Tr,Ty,Tx,Tt] at h271);omega
         rw[c8 h271',dh] at hq270
         cases hq270
         dsimp only at hq3
         refine z ?_
         obtain⟨hg296,hq3⟩:=ay hq3
         refine z ?_
         refine aH ({acc:=v9,aF:=s2_270}) rfl (z ?_)
         exact bk ⟨(n3,_,_,_,ts1_270,(ts3_3+1)),hq3⟩
 ·rw[Ti h5] at hq3
  cases hq3
  refine z ?_
  obtain⟨v297,e297,hm⟩:=aa hm
  refine bH (uC e297) (z ?_)
  cases hm
  exact mst
def rp (next prev:Int->Option Int) (hi:Int):List Sv.Span->Int->List Sv.Span->Option (List Sv.Span)
 |[],lo,out=>if lo<=hi then push out ⟨lo,hi⟩ else some out
 |s::r,lo,out=>(prev s.lo).bind fun h=>if lo<=h then(push out ⟨lo,h⟩).bind fun out=>(next s.hi).bind fun lo=>rp next prev hi r lo out else(next s.hi).bind fun lo=>rp next prev hi r lo out
def LN (next prev:Int->Option Int) (l:List Sv.Span) (all:Sv.Span) (out:List Sv.Span):Option (List Sv.Span):=(aN l).bind fun _=>rp next prev all.hi l all.lo out
noncomputable def GG:jz:=⟨⟨13,[(2,.ptr 0 0)]⟩,(ng Tryz.f228).1,(ng Tryz.f228).2.1,(ng Tryz.f228).2.2,0,none⟩
noncomputable def Cw (out:List Sv.Span) (t:Nat):List bm:=[.cells [.own 1 t],.row 2 (out.map cD) t false,.loop GG]
theorem mE (out:List Sv.Span) (t:Nat):kX 3 (Cw out t):=⟨rfl,rfl,rfl,cE _ _ _,rfl,rfl,trivial⟩
theorem LM {fn fp:FuncId} {next prev:Int->Option Int} (hn:∀{x r},next x=some r->Has Tryz.prog fn [.int .i64 x] fun s=>s= .int .i64 r) (hp:∀{x r},prev x=some r->Has Tryz.prog fp [.int .i64 x] fun s=>s= .int .i64 r) {l out:List Sv.Span} {all:Sv.Span} {r:List Sv.Span} {t:Nat} (hm:LN next prev l all out=some r):
  wi Tryz.prog 229 (Cw out t) [.func (.yield 2) [] [],.bN (cD all) 0,.bN [aW l] 0,.bN [.func (.func fp) [] []] 0,.bN [.func (.func fn) [] []] 0] fun v os=>v= .dT []/\∃t',os=Cw r t':=by
 refine mC ae (fn:=Tryz.f229) rfl [(0,.cells [.own 1 t]),(1,.row 2 (out.map cD) t false),(2,.loop GG)] 3 rfl rfl (mE _ _) (by simp only[nb,cY,c7,cE,aW,dE,Tq];rfl) ?_
 unfold LN at hm
 refine z ?_
 obtain⟨hg1,hm⟩:=ah hm
 refine lg (α:=Nat×Int×List Span×Nat) ae (fun(iw,s1,s2,ts2)=>(rp next prev all.hi (List.drop iw l) s1 s2=some r,⟨53,[(15,.int .i64 iw),(14,.int .i64 ↑l.length),(13,aW l),(6,.int .i64 s1),(0,.func (Fn.yield 2) [] []),(1,.bN (cD all) 0),(3,.bN [.func (.func fp) [] []] 0),(4,.bN [.func (.func fn) [] []] 0)]⟩,⟨[(0,.cells [.own 1 ts2]),(1,.row 2 (s2.map cD) ts2 false),(2,.loop GG)],3,0,[],[]⟩,List.length l-iw)) ⟨(0,_,_,t),hm⟩ ?_
 rintro⟨i2,s1_2,s2_2,ts2_2⟩ hq2
 dsimp only at hq2
 refine z ?_
 refine zd ?_ ?_<;>intro h3
 ·obtain⟨x3,ex3,ed3⟩:=an h3
  rw[ed3,rp] at hq2
  refine z ?_
  refine bq ex3 rfl (z ?_)
  obtain⟨v4,e4,hq2⟩:=aa hq2
  refine ce (hp e4) (z ?_)
  refine zd ?_ ?_<;>intro h5
  ·rw[Th h5] at hq2
   refine tp ae rfl rfl rfl ⟨rfl,rfl,(by decide:4<5),rfl,rfl,(by decide:3<5),rfl,rfl,(by decide:0<5),rfl,cE _ _ _,(by decide:1<5),rfl,rfl,(by decide:2<5),trivial⟩ rfl (z ?_)
   refine Fg rfl (z ?_)
   obtain⟨hg6,hq2⟩:=ay hq2
   refine z ?_
   refine aH ({lo:=s1_2,hi:=v4}) rfl (z ?_)
   refine sL _ rfl ii ⟨rfl,rfl,(by decide:6<7),rfl,rfl,(by decide:5<7),rfl,rfl,(by decide:4<7),rfl,rfl,(by decide:3<7),rfl,rfl,(by decide:0<7),rfl,cE _ _ _,(by decide:1<7),rfl,rfl,(by decide:2<7),trivial⟩ (z ?_)
   obtain⟨v7,e7,hq2⟩:=aa hq2
   refine ce (hn e7) (z ?_)
   exact bk ⟨(i2+1,_,_,(ts2_2+1)),hq2⟩
  ·rw[Ti h5] at hq2
   obtain⟨v8,e8,hq2⟩:=aa hq2
   refine ce (hn e8) (z ?_)
   exact bk ⟨(i2+1,_,_,ts2_2),hq2⟩
 ·rw[aq h3,rp] at hq2
  refine zd ?_ ?_<;>intro h9
  ·rw[Th h9] at hq2
   refine tp ae rfl rfl rfl ⟨rfl,rfl,(by decide:3<4),rfl,rfl,(by decide:0<4),rfl,cE _ _ _,(by decide:1<4),rfl,rfl,(by decide:2<4),trivial⟩ rfl (z ?_)
   refine Fg rfl (z ?_)
   replace hq2:=aB hq2
   obtain⟨hg11,hq2⟩:=ay hq2
   refine z ?_
   refine aH ({lo:=s1_2,hi:=all.hi}) rfl (z ?_)
   refine sL _ rfl ii ⟨rfl,rfl,(by decide:5<6),rfl,rfl,(by decide:4<6),rfl,rfl,(by decide:3<6),rfl,rfl,(by decide:0<6),rfl,cE _ _ _,(by decide:1<6),rfl,rfl,(by decide:2<6),trivial⟩ (z ?_)
   cases hq2
   exact cZ (dC (Cw _ _) rfl ⟨rfl,rfl,rfl,trivial⟩ (mE _ _) rfl ii ⟨rfl,_,rfl⟩)
  ·rw[Ti h9] at hq2
   cases hq2
   exact cZ (dC (Cw _ _) rfl ⟨rfl,rfl,rfl,trivial⟩ (mE _ _) rfl ii ⟨rfl,_,rfl⟩)
def ow (next prev:Int->Option Int) (l:List Sv.Span) (all:Sv.Span):Option (List Sv.Span):=(LN next prev l all []).bind fun r=>some r
theorem GX {fn fp:FuncId} {next prev:Int->Option Int} (hn:∀{x r},next x=some r->Has Tryz.prog fn [.int .i64 x] fun s=>s= .int .i64 r) (hp:∀{x r},prev x=some r->Has Tryz.prog fp [.int .i64 x] fun s=>s= .int .i64 r) {l:List Sv.Span} {all:Sv.Span} {r:List Sv.Span} (hm:ow next prev l all=some r):
  Has Tryz.prog 201 [.func (.func 229) [] [.bN (cD all) 0,.bN [aW l] 0,.bN [.func (.func fp) [] []] 0,.bN [.func (.func fn) [] []] 0]] fun s=>s=aW r:=by
 refine hs ae Tryz.f201 ?_
 unfold ow at hm
 refine z ?_
 refine ci ae Tryz.f228 (z ?_)
 refine rU 0 0 2 rfl rfl ?_
 obtain⟨v1,e1,hm⟩:=aa hm
 refine rV (t1:=[(2,.ptr 0 0)]) (LM hn hp (t:=0) e1) ⟨rfl,rfl,trivial⟩ rfl rfl rfl rfl ⟨rfl,rfl,rfl,trivial⟩ ?_
 rintro _ _ ⟨rfl,t1,rfl⟩
 refine z ?_
 refine⟨GG,.normal,rfl,(fun h=>by cases h),rfl,?_⟩
 refine z ?_
 refine ei (z ?_)
 cases hm
 refine dy (z ?_)
 first|exact e2|exact rfl
def gQ (l:List Bool):List SVal:=[.aE false (l.map dd)]
instance :Cl gQ:=⟨fun l=>by simp only[gQ,aw,closed,eC dd,Tq]⟩
def Pj (b:UInt8):List SVal:=[.int .u8 b.toNat]
instance :Cl Pj:=⟨fun _=>rfl⟩
theorem L1 {b:Int} (h:0<=b/\b<256):Pj (UInt8.ofNat b.toNat)=[.int .u8 b]:=by
 unfold Pj
 have:((UInt8.ofNat b.toNat).toNat:Int)=b:=by
  rw[UQ];omega
 rw[this]
instance :Cl lj:=⟨fun _=>rfl⟩
abbrev kP:=List (List UInt8)
def wvY (n:Int) (w:List UInt8) (out:kP):Option (kP×Bool):=(push out w).bind fun out=>(aN out).bind fun _=>if(out.length:Int)=(if 1000<n then 1000 else n) then some (out,false) else some (out,true)
noncomputable def jH (done:Bool):jz:=⟨⟨24,[(5,.ptr 3 0),(3,.ptr 2 0)]⟩,(ng Tryz.f180).1,(ng Tryz.f180).2.1,(ng Tryz.f180).2.2,Bool.rec 0 2 done,Bool.rec none (some (.exit 0)) done⟩
abbrev M3:=Int->List UInt8->kP->Option (kP×Bool)
def Nc (rec:M3) (tb:List (List Bool)) (left:Int) (e:Sv.Edge) (pre:List UInt8):Nat->Int->kP->Option (Ctl (kP×Bool) kP)
 |0,_,_=>none
 |f+1,b,out=>(lI e.hi).bind fun _=>if b<=e.hi then(dV (left-1)).bind fun _=>(cN tb (left-1)).bind fun row=>(cN row e.to).bind fun ok=>if ok then(lI b).bind fun _=>(push pre (UInt8.ofNat b.toNat)).bind fun pre'=>(rec e.to pre' out).bind fun p=>if p.2 then Nc rec tb left e pre f (b+1) p.1 else some (.ret (p.1,false)) else some (.Nj out) else some (.Nj out)
def Jt (rec:M3) (tb:List (List Bool)) (left:Int) (pre:List UInt8):List Sv.Edge->kP->Option (kP×Bool)
 |[],out=>some (out,true)
 |e::r,out=>(lI e.lo).bind fun _=>(Nc rec tb left e pre 258 e.lo out).bind fun
  | .ret x=>some x
  | .Nj out=>Jt rec tb left pre r out
def DM (a:List ba) (tb:List (List Bool)) (n:Int):Nat->M3
 |0,s,pre,out=>wvY n pre out
 |k+1,s,pre,out=>(cN a s).bind fun x=>(aN x.aF).bind fun _=>Jt (DM a tb n k) tb (k+1:Nat) pre x.aF out
noncomputable def fC (a0:List ba) (n:Int) (out:kP) (t:Nat) (done:Bool) (r:List bm):List bm:=
 aX:: .cells [aA a0]:: .cells [.int .i64 n]:: .cells [.own 4 t]:: .row 1 (out.map lj) t false:: .loop (jH done)::r
theorem zK (m:Nat) (a:List ba):nb m (aA a)=true:=cE _ _ _
theorem cg {m:Nat} (hm:6<=m) (a0:List ba) (n:Int) (out:kP) (t:Nat) (done:Bool) {r:List bm} (h:kX m r):kX m (fC a0 n out t done r):=by
 refine⟨rfl,bo _ _ (by decide),rfl,by simp only[gK,cY,zK,Tq],rfl,rfl,rfl,?_,rfl,cE _ _ _,rfl,?_,h⟩
 ·simp only[gK,cY,nb,TZ,Ul];omega
 ·simp only[gK,jH,lG,nb,TZ,Tw,Ul];omega
noncomputable def y6 (a:List ba) (tb:List (List Bool)):List bm:=
 [.cells [aA a],.cells [.func (.yield 5) [] []],.cells [.aE false (tb.map gQ)],.cells [.func (.func 313) [] [.ptr 7 0,.ptr 6 0,.ptr 8 0,.ptr 9 0]]]
theorem eN (a:List ba) (tb:List (List Bool)):kX 10 (y6 a tb):=
 ⟨rfl,by simp only[gK,cY,zK,Tq],rfl,rfl,rfl,by simp only[gK,cY,nb,cE,Tq],rfl,rfl,trivial⟩
theorem QV {a0 a:List ba} {tb:List (List Bool)} {n:Int}:∀{k:Nat} {s:Int} {pre:List UInt8} {out:kP} {p:kP×Bool} {t:Nat} (hm:DM a tb n k s pre out=some p),
  wi Tryz.prog 313 (fC a0 n out t false (y6 a tb)) [.int .i64 s,.int .i64 k,.aE false (pre.map Pj),.ptr 7 0,.ptr 6 0,.ptr 8 0,.ptr 9 0] fun v os=>v= .bool p.2/\∃t',os=fC a0 n p.1 t' (!p.2) (y6 a tb):=by
 intro k
 induction k with
 |zero=>
  intro s pre out p t hm
  refine mC ae (fn:=Tryz.f313) rfl [(0,aX),(1,.cells [aA a0]),(2,.cells [.int .i64 n]),(3,.cells [.own 4 t]),(4,.row 1 (out.map lj) t false),(5,.loop (jH false)),(6,.cells [aA a]),(7,.cells [.func (.yield 5) [] []]),(8,.cells [.aE false (tb.map gQ)]),(9,.cells [.func (.func 313) [] [.ptr 7 0,.ptr 6 0,.ptr 8 0,.ptr 9 0]])] 10 rfl rfl (cg ii _ _ _ _ _ (eN _ _)) (by simp only[nb,cY,cE,Tq];rfl) ?_
  unfold DM wvY at hm
  refine z ?_
  refine⟨pre,.aE,?_⟩
  refine z ?_
  refine tp ae rfl rfl rfl ⟨rfl,rfl,(by decide:0<10),rfl,(by simp only[nb,cY,gK,lG,jC,aA,aW,cE,c7,dE,Tq,TU,TZ]),(by decide:1<10),rfl,rfl,(by decide:2<10),rfl,rfl,(by decide:3<10),rfl,cE _ _ _,(by decide:4<10),rfl,rfl,(by decide:5<10),rfl,(by simp only[nb,cY,gK,lG,jC,aA,aW,cE,c7,dE,Tq,TU,TZ]),(by decide:6<10),rfl,rfl,(by decide:7<10),rfl,(by simp only[nb,cY,gK,lG,jC,cE,c7,Tq,TU,TZ]),(by decide:8<10),rfl,rfl,(by decide:9<10),trivial⟩ rfl (z ?_)
  refine Fg rfl (z ?_)
  obtain⟨hg1,hm⟩:=ay hm
  refine z ?_
  refine aH pre rfl (z ?_)
  obtain⟨hg2,hm⟩:=ah hm
  refine zd ?_ ?_<;>intro h3
  ·rw[Th h3] at hm
   refine sL _ rfl ii ⟨rfl,rfl,(by decide:10<11),rfl,rfl,(by decide:0<11),rfl,(by simp only[nb,cY,gK,lG,jC,aA,aW,cE,c7,dE,Tq,TU,TZ]),(by decide:1<11),rfl,rfl,(by decide:2<11),rfl,rfl,(by decide:3<11),rfl,cE _ _ _,(by decide:4<11),rfl,rfl,(by decide:5<11),rfl,(by simp only[nb,cY,gK,lG,jC,aA,aW,cE,c7,dE,Tq,TU,TZ]),(by decide:6<11),rfl,rfl,(by decide:7<11),rfl,(by simp only[nb,cY,gK,lG,jC,cE,c7,Tq,TU,TZ]),(by decide:8<11),rfl,rfl,(by decide:9<11),trivial⟩ (z ?_)
   cases hm
   exact cZ (dC (fC a0 n _ _ true (y6 a tb)) rfl ⟨rfl,rfl,rfl,rfl,rfl,rfl,rfl,rfl,rfl,rfl,trivial⟩ (cg ii _ _ _ _ _ (eN _ _)) rfl ii ⟨rfl,_,rfl⟩)
  ·rw[Ti h3] at hm
   refine sL _ rfl ii ⟨rfl,rfl,(by decide:10<11),rfl,rfl,(by decide:0<11),rfl,(by simp only[nb,cY,gK,lG,jC,aA,aW,cE,c7,dE,Tq,TU,TZ]),(by decide:1<11),rfl,rfl,(by decide:2<11),rfl,rfl,(by decide:3<11),rfl,cE _ _ _,(by decide:4<11),rfl,rfl,(by decide:5<11),rfl,(by simp only[nb,cY,gK,lG,jC,aA,aW,cE,c7,dE,Tq,TU,TZ]),(by decide:6<11),rfl,rfl,(by decide:7<11),rfl,(by simp only[nb,cY,gK,lG,jC,cE,c7,Tq,TU,TZ]),(by decide:8<11),rfl,rfl,(by decide:9<11),trivial⟩ (z ?_)
   cases hm
   exact cZ (dC (fC a0 n _ _ false (y6 a tb)) rfl ⟨rfl,rfl,rfl,rfl,rfl,rfl,rfl,rfl,rfl,rfl,trivial⟩ (cg ii _ _ _ _ _ (eN _ _)) rfl ii ⟨rfl,_,rfl⟩)
 |succ k ih=>
  intro s pre out p t hm
  refine mC ae (fn:=Tryz.f313) rfl [(0,aX),(1,.cells [aA a0]),(2,.cells [.int .i64 n]),(3,.cells [.own 4 t]),(4,.row 1 (out.map lj) t false),(5,.loop (jH false)),(6,.cells [aA a]),(7,.cells [.func (.yield 5) [] []]),(8,.cells [.aE false (tb.map gQ)]),(9,.cells [.func (.func 313) [] [.ptr 7 0,.ptr 6 0,.ptr 8 0,.ptr 9 0]])] 10 rfl rfl (cg ii _ _ _ _ _ (eN _ _)) (by simp only[nb,cY,cE,Tq];rfl) ?_
  unfold DM at hm
  rcases pre with _|⟨p0,pre⟩
  ·refine z ?_
   obtain⟨j1,x1,en1,ex1,hm⟩:=av hm
   refine bF en1 ex1 rfl (z ?_)
   obtain⟨hg2,hm⟩:=ah hm
   refine lg (α:=Nat×kP×Nat) ae (fun(iw,s1,ts1)=>(Jt (DM a tb n k) tb (↑(k+1)) ([]) (List.drop iw x1.aF) s1=some p,⟨70,[(27,.int .i64 iw),(26,.int .i64 ↑x1.aF.length),(25,.aE false (List.map cS x1.aF)),(10,.bool false),(1,.int .i64 ↑(k+1)),(2,.aE false (List.map Pj [])),(5,.ptr 8 0),(6,.ptr 9 0)]⟩,⟨[(0,aX),(1,.cells [aA a0]),(2,.cells [.int .i64 n]),(3,.cells [.own 4 ts1]),(4,.row 1 (s1.map lj) ts1 false),(5,.loop (jH false)),(6,.cells [aA a]),(7,.cells [.func (Fn.yield 5) [] []]),(8,.cells [.aE false (List.map gQ tb)]),(9,.cells [.func (.func 313) [] [.ptr 7 0,.ptr 6 0,.ptr 8 0,.ptr 9 0]])],10,0,[],[]⟩,List.length x1.aF-iw)) ⟨(0,_,t),hm⟩ ?_
   rintro⟨i3,s1_3,ts1_3⟩ hq3
   dsimp only at hq3
   refine z ?_
   refine zd ?_ ?_<;>intro h4
   ·obtain⟨x4,ex4,ed4⟩:=an h4
    rw[ed4,Jt] at hq3
    refine z ?_
    obtain⟨hg5,hq3⟩:=ah hq3
    refine bq ex4 rfl (z ?_)
    obtain⟨v6,hv6,hq3⟩:=aa hq3
    refine lg (α:=Nat×Int×kP×Nat) ae (fun(nw,s1,s2,ts2)=>(Nc (DM a tb n k) tb (↑(k+1)) x4 ([]) nw s1 s2=some v6,⟨70,[(13,.int .i64 s1),(12,.ptr 10 0),(27,.int .i64 ↑i3),(26,.int .i64 ↑x1.aF.length),(25,.aE false (List.map cS x1.aF)),(10,.bool false),(1,.int .i64 ↑(k+1)),(2,.aE false (List.map Pj [])),(5,.ptr 8 0),(6,.ptr 9 0)]⟩,⟨[(10,.cells [.int .u8 x4.lo,.int .u8 x4.hi,.int .i64 x4.to]),(0,aX),(1,.cells [aA a0]),(2,.cells [.int .i64 n]),(3,.cells [.own 4 ts2]),(4,.row 1 (s2.map lj) ts2 false),(5,.loop (jH false)),(6,.cells [aA a]),(7,.cells [.func (Fn.yield 5) [] []]),(8,.cells [.aE false (List.map gQ tb)]),(9,.cells [.func (.func 313) [] [.ptr 7 0,.ptr 6 0,.ptr 8 0,.ptr 9 0]])],11,0,[],[]⟩,nw)) ⟨(_,_,_,ts1_3),hv6⟩ ?_
    rintro⟨n6,s1_6,s2_6,ts2_6⟩ hq6
    dsimp only at hq6
    rcases n6 with _|n6
    ·(unfold Nc at hq6;cases hq6)
    unfold Nc at hq6
    refine z ?_
    refine dg ae [0,0,2,6,15,31,63,63,191,511,1023,63,2111,8191,16383,32767] [] (z ?_)
    obtain⟨hg7,hq6⟩:=ah hq6
    refine z ?_
    refine zd ?_ ?_<;>intro h8
    ·rw[Th h8] at hq6
     obtain⟨hg9,hq6⟩:=ah hq6
     refine z ?_
     obtain⟨j11,x11,en11,ex11,hq6⟩:=av hq6
     refine bF en11 ex11 rfl (z ?_)
     obtain⟨j12,x12,en12,ex12,hq6⟩:=av hq6
     refine bF en12 ex12 rfl (z ?_)
     refine zr ?_ ?_<;>intro h13
     ·rw[Th h13] at hq6
      refine dg ae [0,0,2,0,8,0,0,64,0,256,992,0,2048,6144,16352,32767,65535] [] (z ?_)
      obtain⟨hg14,hq6⟩:=ah hq6
      refine⟨0,_,rfl,rfl,rfl,TC _,by simp only[Tr];omega,?_⟩
      refine z ?_
      refine Fi (z ?_)
      obtain⟨hg15,hq6⟩:=ay hq6
      refine z ?_
      refine Az Pj (UInt8.ofNat s1_6.toNat) (L1 ii) (z ?_)
      obtain⟨v16,e16,hq6⟩:=aa hq6
      refine jx (ih (t:=ts2_6) e16) (z ?_)
      refine⟨by rw[show((k+1:Nat):Int)-1=(k:Int) by omega]<;>rfl,⟨rfl,rfl,rfl,rfl,rfl,rfl,rfl,rfl,rfl,rfl,trivial⟩,?_⟩
      rintro _ _ ⟨rfl,t16,rfl⟩
      rcases v16 with⟨o16,_|_⟩<;>dsimp only at hq6
      ·refine z ?_
       rw[Ti TL] at hq6
       cases hq6
       dsimp only at hq3
       cases hq3
       exact cZ (dC (fC a0 n _ _ true (y6 a tb)) rfl ⟨rfl,rfl,rfl,rfl,rfl,rfl,rfl,rfl,rfl,rfl,trivial⟩ (cg ii _ _ _ _ _ (eN _ _)) rfl ii ⟨rfl,_,rfl⟩)
      ·refine z ?_
       rw[Th rfl] at hq6
       exact bk ⟨(n6,_,_,t16),hq6⟩
     ·rw[Ti (nt h13)] at hq6
      cases hq6
      dsimp only at hq3
      refine z ?_
      exact bk ⟨(i3+1,_,ts2_6),hq3⟩
    ·rw[Ti h8] at hq6
     cases hq6
     dsimp only at hq3
     refine z ?_
     exact bk ⟨(i3+1,_,ts2_6),hq3⟩
   ·rw[aq h4,Jt] at hq3
    cases hq3
    exact cZ (dC (fC a0 n _ _ false (y6 a tb)) rfl ⟨rfl,rfl,rfl,rfl,rfl,rfl,rfl,rfl,rfl,rfl,trivial⟩ (cg ii _ _ _ _ _ (eN _ _)) rfl ii ⟨rfl,_,rfl⟩)
  ·refine z ?_
   obtain⟨j1,x1,en1,ex1,hm⟩:=av hm
   refine bF en1 ex1 rfl (z ?_)
   obtain⟨hg2,hm⟩:=ah hm
   refine lg (α:=Nat×kP×Nat) ae (fun(iw,s1,ts1)=>(Jt (DM a tb n k) tb (↑(k+1)) (p0::pre) (List.drop iw x1.aF) s1=some p,⟨70,[(27,.int .i64 iw),(26,.int .i64 ↑x1.aF.length),(25,.aE false (List.map cS x1.aF)),(10,.bool false),(1,.int .i64 ↑(k+1)),(2,.aE false (List.map Pj (p0::pre))),(5,.ptr 8 0),(6,.ptr 9 0)]⟩,⟨[(0,aX),(1,.cells [aA a0]),(2,.cells [.int .i64 n]),(3,.cells [.own 4 ts1]),(4,.row 1 (s1.map lj) ts1 false),(5,.loop (jH false)),(6,.cells [aA a]),(7,.cells [.func (Fn.yield 5) [] []]),(8,.cells [.aE false (List.map gQ tb)]),(9,.cells [.func (.func 313) [] [.ptr 7 0,.ptr 6 0,.ptr 8 0,.ptr 9 0]])],10,0,[],[]⟩,List.length x1.aF-iw)) ⟨(0,_,t),hm⟩ ?_
   rintro⟨i3,s1_3,ts1_3⟩ hq3
   dsimp only at hq3
   refine z ?_
   refine zd ?_ ?_<;>intro h4
   ·obtain⟨x4,ex4,ed4⟩:=an h4
    rw[ed4,Jt] at hq3
    refine z ?_
    obtain⟨hg5,hq3⟩:=ah hq3
    refine bq ex4 rfl (z ?_)
    obtain⟨v6,hv6,hq3⟩:=aa hq3
    refine lg (α:=Nat×Int×kP×Nat) ae (fun(nw,s1,s2,ts2)=>(Nc (DM a tb n k) tb (↑(k+1)) x4 (p0::pre) nw s1 s2=some v6,⟨70,[(13,.int .i64 s1),(12,.ptr 10 0),(27,.int .i64 ↑i3),(26,.int .i64 ↑x1.aF.length),(25,.aE false (List.map cS x1.aF)),(10,.bool false),(1,.int .i64 ↑(k+1)),(2,.aE false (List.map Pj (p0::pre))),(5,.ptr 8 0),(6,.ptr 9 0)]⟩,⟨[(10,.cells [.int .u8 x4.lo,.int .u8 x4.hi,.int .i64 x4.to]),(0,aX),(1,.cells [aA a0]),(2,.cells [.int .i64 n]),(3,.cells [.own 4 ts2]),(4,.row 1 (s2.map lj) ts2 false),(5,.loop (jH false)),(6,.cells [aA a]),(7,.cells [.func (Fn.yield 5) [] []]),(8,.cells [.aE false (List.map gQ tb)]),(9,.cells [.func (.func 313) [] [.ptr 7 0,.ptr 6 0,.ptr 8 0,.ptr 9 0]])],11,0,[],[]⟩,nw)) ⟨(_,_,_,ts1_3),hv6⟩ ?_
    rintro⟨n6,s1_6,s2_6,ts2_6⟩ hq6
    dsimp only at hq6
    rcases n6 with _|n6
    ·(unfold Nc at hq6;cases hq6)
    unfold Nc at hq6
    refine z ?_
    refine dg ae [0,0,2,6,15,31,63,63,191,511,1023,63,2111,8191,16383,32767] [] (z ?_)
    obtain⟨hg7,hq6⟩:=ah hq6
    refine z ?_
    refine zd ?_ ?_<;>intro h8
    ·rw[Th h8] at hq6
     obtain⟨hg9,hq6⟩:=ah hq6
     refine z ?_
     obtain⟨j11,x11,en11,ex11,hq6⟩:=av hq6
     refine bF en11 ex11 rfl (z ?_)
     obtain⟨j12,x12,en12,ex12,hq6⟩:=av hq6
     refine bF en12 ex12 rfl (z ?_)
     refine zr ?_ ?_<;>intro h13
     ·rw[Th h13] at hq6
      refine dg ae [0,0,2,0,8,0,0,64,0,256,992,0,2048,6144,16352,32767,65535] [] (z ?_)
      obtain⟨hg14,hq6⟩:=ah hq6
      refine⟨0,_,rfl,rfl,rfl,TC _,by simp only[Tr];omega,?_⟩
      refine z ?_
      refine Fi (z ?_)
      obtain⟨hg15,hq6⟩:=ay hq6
      refine z ?_
      refine aH (UInt8.ofNat s1_6.toNat) (L1 ii) (z ?_)
      obtain⟨v17,e17,hq6⟩:=aa hq6
      refine jx (ih (t:=ts2_6) e17) (z ?_)
      refine⟨by rw[show((k+1:Nat):Int)-1=(k:Int) by omega]<;>rfl,⟨rfl,rfl,rfl,rfl,rfl,rfl,rfl,rfl,rfl,rfl,trivial⟩,?_⟩
      rintro _ _ ⟨rfl,t17,rfl⟩
      rcases v17 with⟨o17,_|_⟩<;>dsimp only at hq6
      ·refine z ?_
       rw[Ti TL] at hq6
       cases hq6
       dsimp only at hq3
       cases hq3
       exact cZ (dC (fC a0 n _ _ true (y6 a tb)) rfl ⟨rfl,rfl,rfl,rfl,rfl,rfl,rfl,rfl,rfl,rfl,trivial⟩ (cg ii _ _ _ _ _ (eN _ _)) rfl ii ⟨rfl,_,rfl⟩)
      ·refine z ?_
       rw[Th rfl] at hq6
       exact bk ⟨(n6,_,_,t17),hq6⟩
     ·rw[Ti (nt h13)] at hq6
      cases hq6
      dsimp only at hq3
      refine z ?_
      exact bk ⟨(i3+1,_,ts2_6),hq3⟩
    ·rw[Ti h8] at hq6
     cases hq6
     dsimp only at hq3
     refine z ?_
     exact bk ⟨(i3+1,_,ts2_6),hq3⟩
   ·rw[aq h4,Jt] at hq3
    cases hq3
    exact cZ (dC (fC a0 n _ _ false (y6 a tb)) rfl ⟨rfl,rfl,rfl,rfl,rfl,rfl,rfl,rfl,rfl,rfl,trivial⟩ (cg ii _ _ _ _ _ (eN _ _)) rfl ii ⟨rfl,_,rfl⟩)
def ED (v:Bool):List Bool->Int->Option Int
 |[],_=>some (-1)
 |x::r,i=>if(v==x) then some i else ED v r (i+1)
def IX (l:List Bool) (v:Bool):Option Bool:=(aN l).bind fun _=>(ED v l 0).bind fun k=>some (decide (k>=0))
theorem Ai {l:List Bool} {v:Bool} {r:Bool} (hm:IX l v=some r):Has Tryz.prog 36 [.aE false (l.map dd),.bool v] fun s=>s= .bool r:=by
 refine hs ae Tryz.f36 ?_
 unfold IX at hm
 refine z ?_
 refine ci ae Tryz.f56 (z ?_)
 obtain⟨hg1,hm⟩:=ah hm
 obtain⟨v2,hv2,hm⟩:=aa hm
 refine lg (α:=Nat) ae (fun iw=>(ED v (List.drop iw l) (iw:Int)=some v2,⟨19,[(8,.int .i64 iw),(7,.int .i64 ↑l.length),(6,.aE false (List.map dd l)),(4,.int .i64 0),(0,.aE false (List.map dd l)),(1,.bool v)]⟩,⟨[],0,0,[],[]⟩,List.length l-iw)) ⟨(0),hv2⟩ ?_
 intro i2 hq2
 dsimp only at hq2
 refine z ?_
 refine zd ?_ ?_<;>intro h3
 obtain⟨x3,ex3,ed3⟩:=an h3
 rw[ed3,ED] at hq2
 refine z ?_
 refine bq ex3 rfl (z ?_)
 refine zr ?_ ?_<;>intro h4
 rw[Th h4] at hq2
 cases hq2
 refine z ?_
 refine ei (z ?_)
 cases hm
 exact fc
 rw[Ti (nt h4)] at hq2
 exact bk ⟨i2+1,hq2⟩
 rw[aq h3,ED] at hq2
 cases hq2
 refine z ?_
 refine ei (z ?_)
 cases hm
 exact fc
def QK (less:List Bool) (s:Int):List Sv.Edge->List Bool->Option (List Bool)
 |[],o=>some o
 |e::r,o=>(cN o s).bind fun x=>if x then(kS o s true).bind fun o=>QK less s r o else(cN less e.to).bind fun y=>(kS o s y).bind fun o=>QK less s r o
def SQ (a:List ba) (less:List Bool):List ba->Int->List Bool->Option (List Bool)
 |[],_,o=>some o
 |_::r,i,o=>(cN a i).bind fun x=>(aN x.aF).bind fun _=>(QK less i x.aF o).bind fun o=>SQ a less r (i+1) o
def Mv (a:List ba) (less:List Bool):Option (List Bool):=(QC a).bind fun _=>(aN a).bind fun _=>SQ a less a 0 (List.replicate a.length false)
theorem SP {a:List ba} {less r:List Bool} (hm:Mv a less=some r):Has Tryz.prog 273 [.agg [aA a],.aE false (less.map dd)] fun s=>s= .aE false (r.map dd):=by
 refine hs ae Tryz.f273 ?_
 unfold Mv at hm
 refine z ?_
 obtain⟨hg1,hm⟩:=ah hm
 obtain⟨hg2,hm⟩:=ah hm
 refine⟨_,_,rfl,rfl,Tp _,by omega,?_⟩
 refine z ?_
 refine jV dd a.length false (by first|rfl|simp only[Tr]) rfl (z ?_)
 refine lg (α:=Nat×List Bool×Nat) ae (fun(iw,s1,ts1)=>(SQ a less (List.drop iw a) (iw:Int) s1=some r,⟨47,[(16,.int .i64 iw),(15,.int .i64 ↑a.length),(5,.own 1 ts1),(4,.ax),(2,.ptr 0 0),(1,.aE false (List.map dd less))]⟩,⟨[(1,.row 1 (s1.map dd) ts1 false),(0,.cells [aA a])],2,0,[],[]⟩,List.length a-iw)) ⟨(0,_,(0)),hm⟩ ?_
 rintro⟨i3,s1_3,ts1_3⟩ hq3
 dsimp only at hq3
 refine z ?_
 refine zd ?_ ?_<;>intro h4
 obtain⟨x4,ex4,ed4⟩:=an h4
 rw[ed4,SQ] at hq3
 refine z ?_
 obtain⟨j5,x5,en5,ex5,hq3⟩:=av hq3
 refine bF en5 ex5 rfl (z ?_)
 obtain⟨hg6,hq3⟩:=ah hq3
 refine aY rfl rfl ?_
 obtain⟨v7,hv7,hq3⟩:=aa hq3
 refine lg (α:=Nat×List Bool×Nat) ae (fun(iw,s1,ts1)=>(QK less (↑i3) (List.drop iw x5.aF) s1=some v7,⟨47,[(26,.int .i64 iw),(25,.int .i64 ↑x5.aF.length),(24,.aE false (List.map cS x5.aF)),(6,.int .i64 ↑i3),(16,.int .i64 ↑i3),(15,.int .i64 ↑a.length),(5,.own 1 ts1),(4,.ax),(2,.ptr 0 0),(1,.aE false (List.map dd less))]⟩,⟨[(1,.row 1 (s1.map dd) ts1 false),(0,.cells [aA a])],2,0,[],[]⟩,List.length x5.aF-iw)) ⟨(0,_,ts1_3),hv7⟩ ?_
 rintro⟨i7,s1_7,ts1_7⟩ hq7
 dsimp only at hq7
 refine z ?_
 refine zd ?_ ?_<;>intro h8
 obtain⟨x8,ex8,ed8⟩:=an h8
 rw[ed8,QK] at hq7
 refine z ?_
 refine bq ex8 rfl (z ?_)
 obtain⟨j9,x9,en9,ex9,hq7⟩:=av hq7
 refine aK en9 ex9 (z ?_)
 refine bP ex9 (z ?_)
 refine zr ?_ ?_<;>intro h10
 rw[Th h10] at hq7
 obtain⟨j11,x11,en11,ex11,hq7⟩:=cV hq7
 refine aK en11 ex11 (z ?_)
 refine cq _ true ex11 rfl (z ?_)
 exact bk ⟨(i7+1,_,ts1_7),hq7⟩
 rw[Ti (nt h10)] at hq7
 obtain⟨j12,x12,en12,ex12,hq7⟩:=av hq7
 refine bF en12 ex12 rfl (z ?_)
 obtain⟨j13,x13,en13,ex13,hq7⟩:=cV hq7
 refine aK en13 ex13 (z ?_)
 refine cq _ x12 ex13 rfl (z ?_)
 exact bk ⟨(i7+1,_,ts1_7),hq7⟩
 rw[aq h8,QK] at hq7
 cases hq7
 refine z ?_
 exact bk ⟨(i3+1,_,ts1_7),hq3⟩
 rw[aq h4,SQ] at hq3
 cases hq3
 refine dy (z ?_)
 first|exact e2|exact rfl
def Bj (a:List ba) (tb last:List (List Bool)) (n:Int) (k:Nat) (out:kP):Option (kP×Bool):=(cN last 0).bind fun r=>(cN r 0).bind fun b=>if b then DM a tb n k 0 [] out else some (out,true)
theorem FR {a0 a:List ba} {tb last:List (List Bool)} {n:Int} {k:Nat} {out:kP} {p:kP×Bool} {t:Nat} (hm:Bj a tb last n k out=some p):
  wi Tryz.prog 274 (fC a0 n out t false []) [.agg [aA a],.aE false (last.map gQ),.int .i64 k,.func (.yield 5) [] [],.aE false (tb.map gQ)] fun v os=>v= .bool p.2/\∃t',os=fC a0 n p.1 t' (!p.2) []:=by
 refine mC ae (fn:=Tryz.f274) rfl [(0,aX),(1,.cells [aA a0]),(2,.cells [.int .i64 n]),(3,.cells [.own 4 t]),(4,.row 1 (out.map lj) t false),(5,.loop (jH false))] 6 rfl rfl (cg ii _ _ _ _ _ trivial) (by simp only[nb,cY,cE,zK,Tq];rfl) ?_
 unfold Bj at hm
 refine z ?_
 obtain⟨j1,x1,en1,ex1,hm⟩:=av hm
 refine bF en1 ex1 rfl (z ?_)
 obtain⟨j2,x2,en2,ex2,hm⟩:=av hm
 refine bF en2 ex2 rfl (z ?_)
 refine zm ?_ ?_<;>intro h3
 ·rw[Ti (nt h3)] at hm
  cases hm
  exact cZ (dC (fC a0 n _ _ _ []) rfl ⟨rfl,rfl,rfl,rfl,rfl,rfl,trivial⟩ (cg ii _ _ _ _ _ trivial) rfl ii ⟨rfl,_,rfl⟩)
 ·rw[Th h3] at hm
  obtain⟨v4,e4,hm⟩:=aa (aB hm)
  refine jx (QV (a0:=a0) (t:=t) e4) (z ?_)
  refine⟨⟨rfl,rfl,rfl,rfl,rfl,rfl,rfl,rfl,rfl,rfl,trivial⟩,?_⟩
  rintro _ _ ⟨rfl,t4,rfl⟩
  refine z ?_
  cases hm
  exact cZ (dC (fC a0 n _ _ _ []) rfl ⟨rfl,rfl,rfl,rfl,rfl,rfl,trivial⟩ (cg ii _ _ _ _ _ trivial) rfl ii ⟨rfl,_,rfl⟩)
def QX (a:List ba):List ba->Int->List Bool->Option (List Bool)
 |[],_,l=>some l
 |_::r,i,l=>(cN a i).bind fun x=>(push l x.acc).bind fun l=>QX a r (i+1) l
def Qo (rec:Nat->List (List Bool)->kP->Option (kP×Bool)) (a:List ba) (n:Int) (k:Nat) (tb:List (List Bool)) (out:kP):Option (kP×Bool):=
 (cN tb k).bind fun r=>(IX r true).bind fun c=>if c then(aN tb).bind fun _=>(dV ((k:Int)+1)).bind fun _=>(yf (k+1<=tb.length)).bind fun _=>(Bj a tb ((tb.take (k+1)).drop k) n k out).bind fun p=>if p.2 then rec (k+1) tb p.1 else some (p.1,false) else some (out,true)
def FD (a:List ba) (n:Int):Nat->Nat->List (List Bool)->kP->Option (kP×Bool)
 |0,_,_,_=>none
 |f+1,k,tb,out=>(aN a).bind fun _=>if(a.length:Int)>0 then
   if(k:Int)>0 then(dV ((k:Int)-1)).bind fun _=>(cN tb ((k:Int)-1)).bind fun r=>(Mv a r).bind fun r'=>(push tb r').bind fun tb=>Qo (FD a n f) a n k tb out else Qo (FD a n f) a n k tb out
  else some (out,true)
def wdM (a:List ba) (n:Int) (f:Nat) (out:kP):Option (kP×Bool):=(aN a).bind fun _=>(QX a a 0 []).bind fun r=>FD a n f 0 [r] out
theorem Hw {a0 a:List ba} {n:Int} {f:Nat} {out:kP} {p:kP×Bool} {t:Nat} (hm:wdM a n f out=some p):
  wi Tryz.prog 272 (fC a0 n out t false []) [.func (.yield 5) [] [],.bN [aA a] 0] fun v os=>v= .dT []/\∃t',os=fC a0 n p.1 t' (!p.2) []:=by
 refine mC ae (fn:=Tryz.f272) rfl [(0,aX),(1,.cells [aA a0]),(2,.cells [.int .i64 n]),(3,.cells [.own 4 t]),(4,.row 1 (out.map lj) t false),(5,.loop (jH false))] 6 rfl rfl (cg ii _ _ _ _ _ trivial) (by simp only[nb,cY,cE,zK,Tq];rfl) ?_
 unfold wdM at hm
 refine z ?_
 obtain⟨hg1,hm⟩:=ah hm
 obtain⟨v2,hv2,hm⟩:=aa hm
 refine cy 4 1 rfl ?_
 refine lg (α:=Nat×List Bool×Nat) ae (fun(iw,s1,ts1)=>(QX a (List.drop iw a) (iw:Int) s1=some v2,⟨66,[(4,.own 6 ts1),(10,.int .i64 iw),(9,.int .i64 ↑a.length),(3,.ax),(0,.func (Fn.yield 5) [] []),(1,.bN [aA a] 0)]⟩,⟨[(6,.row 1 (s1.map dd) ts1 false),(0,aX),(1,.cells [aA a0]),(2,.cells [.int .i64 n]),(3,.cells [.own 4 t]),(4,.row 1 (List.map lj out) t false),(5,.loop (jH false))],7,0,[],[]⟩,List.length a-iw)) ⟨(0,_,(0)),hv2⟩ ?_
 rintro⟨i2,s1_2,ts1_2⟩ hq2
 dsimp only at hq2
 refine z ?_
 refine zd ?_ ?_<;>intro h3
 ·obtain⟨x3,ex3,ed3⟩:=an h3
  rw[ed3,QX] at hq2
  refine z ?_
  obtain⟨j4,x4,en4,ex4,hq2⟩:=av hq2
  refine bF en4 ex4 rfl (z ?_)
  obtain⟨hg5,hq2⟩:=ay hq2
  refine z ?_
  refine aH x4.acc rfl (z ?_)
  exact bk ⟨(i2+1,_,(ts1_2+1)),hq2⟩
 ·rw[aq h3,QX] at hq2
  cases hq2
  refine z ?_
  refine Az gQ v2 rfl (z ?_)
  refine IC 8 rfl ?_
  refine lg (α:=Nat×Nat×List (List Bool)×kP×Nat×Nat) ae (fun(nw,s1,s2,s3,ts2,ts3)=>(FD a n nw s1 s2 s3=some p,⟨66,[(6,.int .i64 (s1:Nat)),(3,.own 8 ts2),(0,.func (Fn.yield 5) [] []),(1,.bN [aA a] 0)]⟩,⟨[(8,.row 1 (s2.map gQ) ts2 true),(7,.row 1 [[.aE false (List.map dd v2)]] 0 false),(6,.row 1 (List.map dd v2) ts1_2 true),(0,aX),(1,.cells [aA a0]),(2,.cells [.int .i64 n]),(3,.cells [.own 4 ts3]),(4,.row 1 (s3.map lj) ts3 false),(5,.loop (jH false))],9,0,[],[]⟩,nw)) ⟨(_,_,_,_,(0),t),hm⟩ ?_
  rintro⟨n7,s1_7,s2_7,s3_7,ts2_7,ts3_7⟩ hq7
  dsimp only at hq7
  rcases n7 with _|n7
  ·(unfold FD at hq7;cases hq7)
  unfold FD at hq7
  refine z ?_
  obtain⟨hg8,hq7⟩:=ah hq7
  refine zd ?_ ?_<;>intro h9
  ·rw[Th h9] at hq7
   refine zd ?_ ?_<;>intro h10
   ·rw[Th h10] at hq7
    refine dg ae [0,0,0,0,8,28,60,126,254,511,1023] [] (z ?_)
    obtain⟨hg11,hq7⟩:=ah hq7
    refine z ?_
    obtain⟨j13,x13,en13,ex13,hq7⟩:=av hq7
    refine aK en13 ex13 (z ?_)
    refine bP ex13 (z ?_)
    obtain⟨v14,e14,hq7⟩:=aa hq7
    refine ce (SP e14) (z ?_)
    obtain⟨hg15,hq7⟩:=ay hq7
    unfold Qo at hq7
    refine z ?_
    refine aH v14 rfl (z ?_)
    refine dg ae [0,0,3,7,15,31,63,127,127,127,127,1151,127,4223,16255,127,127,127,262143,524287,1048575] [⟨18,0,0,[5,4,3,2,1,0,8]⟩,⟨14,0,0,[8]⟩] (z ?_)
    obtain⟨j24,x24,en24,ex24,hq7⟩:=av hq7
    refine aK en24 ex24 (z ?_)
    refine bP ex24 (z ?_)
    obtain⟨v25,e25,hq7⟩:=aa hq7
    refine ce (Ai e25) (z ?_)
    refine zm ?_ ?_<;>intro h26
    ·rw[Ti (nt h26)] at hq7
     cases hq7
     exact cZ (dC (fC a0 n _ _ false []) rfl ⟨rfl,rfl,rfl,rfl,rfl,rfl,trivial⟩ (cg ii _ _ _ _ _ trivial) rfl ii ⟨rfl,_,rfl⟩)
    ·rw[Th h26] at hq7
     obtain⟨hg27,hq7⟩:=ah hq7
     obtain⟨hg28,hq7⟩:=ah hq7
     obtain⟨hg29,hq7⟩:=ah hq7
     refine z ?_
     refine⟨s1_7,s1_7+1,rfl,by omega,by omega,by omega,by rw[Tr];omega,MO ?_⟩
     refine z ?_
     obtain⟨v31,e31,hq7⟩:=aa hq7
     refine jx (FR (a0:=a0) (t:=ts3_7) e31) (z ?_)
     refine⟨⟨rfl,rfl,rfl,rfl,rfl,rfl,trivial⟩,?_⟩
     rintro _ _ ⟨rfl,t31,rfl⟩
     rcases v31 with⟨o31,_|_⟩<;>dsimp only at hq7
     ·refine z ?_
      rw[Ti TL] at hq7
      cases hq7
      exact cZ (dC (fC a0 n _ _ true []) rfl ⟨rfl,rfl,rfl,rfl,rfl,rfl,trivial⟩ (cg ii _ _ _ _ _ trivial) rfl ii ⟨rfl,_,rfl⟩)
     ·refine z ?_
      rw[Th rfl] at hq7
      exact bk ⟨(n7,_,_,_,(ts2_7+1),t31),hq7⟩
   ·rw[Ti h10] at hq7
    unfold Qo at hq7
    refine z ?_
    refine dg ae [0,0,3,7,15,31,63,127,127,127,127,1151,127,4223,16255,127,127,127,262143,524287,1048575] [⟨18,0,0,[5,4,3,2,1,0,8]⟩,⟨14,0,0,[8]⟩] (z ?_)
    obtain⟨j36,x36,en36,ex36,hq7⟩:=av hq7
    refine aK en36 ex36 (z ?_)
    refine bP ex36 (z ?_)
    obtain⟨v37,e37,hq7⟩:=aa hq7
    refine ce (Ai e37) (z ?_)
    refine zm ?_ ?_<;>intro h38
    ·rw[Ti (nt h38)] at hq7
     cases hq7
     exact cZ (dC (fC a0 n _ _ false []) rfl ⟨rfl,rfl,rfl,rfl,rfl,rfl,trivial⟩ (cg ii _ _ _ _ _ trivial) rfl ii ⟨rfl,_,rfl⟩)
    ·rw[Th h38] at hq7
     obtain⟨hx1,hq7⟩:=ah hq7
     obtain⟨hx2,hq7⟩:=ah hq7
     obtain⟨hx3,hq7⟩:=ah hq7
     refine⟨s1_7,s1_7+1,rfl,by omega,by omega,by omega,by rw[Tr];omega,MO ?_⟩
     refine z ?_
     obtain⟨v39,e39,hq7⟩:=aa hq7
     refine jx (FR (a0:=a0) (t:=ts3_7) e39) (z ?_)
     refine⟨⟨rfl,rfl,rfl,rfl,rfl,rfl,trivial⟩,?_⟩
     rintro _ _ ⟨rfl,t39,rfl⟩
     rcases v39 with⟨o39,_|_⟩<;>dsimp only at hq7
     ·refine z ?_
      rw[Ti TL] at hq7
      cases hq7
      exact cZ (dC (fC a0 n _ _ true []) rfl ⟨rfl,rfl,rfl,rfl,rfl,rfl,trivial⟩ (cg ii _ _ _ _ _ trivial) rfl ii ⟨rfl,_,rfl⟩)
     ·refine z ?_
      rw[Th rfl] at hq7
      exact bk ⟨(n7,_,_,_,ts2_7,t39),hq7⟩
  ·rw[Ti h9] at hq7
   cases hq7
   exact cZ (dC (fC a0 n _ _ false []) rfl ⟨rfl,rfl,rfl,rfl,rfl,rfl,trivial⟩ (cg ii _ _ _ _ _ trivial) rfl ii ⟨rfl,_,rfl⟩)
def tw:Option Unit:=some ()
theorem Hy {a:List ba} {r:Unit} (hm:tw=some r):Has Tryz.prog 218 [.agg [aA a]] fun s=>s= .func (.func 272) [] [.bN [aA a] 0]:=by
 refine hs ae Tryz.f218 ?_
 unfold tw at hm
 refine z ?_
 cases hm
 refine dy (z ?_)
 first|exact e2|exact rfl
def tC (a:List ba) (n:Int):Nat:=(if 1000<n then 1000 else n).toNat*(a.length+1)+a.length+2
def oE (a:List ba) (n:Int):Option (List (List UInt8)):=if n<1 then some [] else(fY a).bind fun a=>tw.bind fun _=>(wdM a n (tC a n) []).bind fun p=>some p.1
theorem JN {a:List ba} {n:Int} {r:List (List UInt8)} (hm:oE a n=some r):bj Tryz.prog 180 [.agg [aA a],.int .i64 n] fun s=>s= .aE false (r.map lj):=by
 refine ht ae Tryz.f180 ?_
 unfold oE at hm
 refine z ?_
 refine zd ?_ ?_<;>intro h1
 rw[Th h1] at hm
 cases hm
 refine aV (z ?_)
 exact mt
 rw[Ti h1] at hm
 obtain⟨v2,e2,hm⟩:=aa hm
 refine ct (hX e2) (z ?_)
 obtain⟨v3,e3,hm⟩:=aa hm
 refine ce (Hy e3) (z ?_)
 refine rU 3 0 1 rfl rfl ?_
 obtain⟨v4,e4,hm⟩:=aa hm
 refine rV (t1:=[(5,.ptr 3 0),(3,.ptr 2 0)]) (Hw (a0:=a) (t:=0) e4) ⟨rfl,rfl,rfl,rfl,trivial⟩ rfl rfl rfl rfl ⟨rfl,rfl,rfl,rfl,rfl,rfl,trivial⟩ ?_
 rintro _ _ ⟨rfl,t4,rfl⟩
 refine z ?_
 rcases v4 with⟨o4,_|_⟩
 refine z ?_
 refine⟨jH true,.exit 0,rfl,(fun h=>by cases h),rfl,?_⟩
 refine z ?_
 cases hm
 refine aV (z ?_)
 exact mt
 refine z ?_
 refine⟨jH false,.normal,rfl,(fun h=>by cases h),rfl,?_⟩
 refine z ?_
 cases hm
 refine aV (z ?_)
 exact mt
/-! the algebra -/
def Io (x y:Bool):Option Bool:=if x then some true else some y
theorem RA {x y r:Bool} (hm:Io x y=some r):Has Tryz.prog 94 [.bool x,.bool y] fun s=>s= .bool r:=by
 refine hs ae Tryz.f94 ?_
 unfold Io at hm
 refine z ?_
 refine zr ?_ ?_<;>intro h1
 rw[Th h1] at hm
 cases hm
 exact fc
 rw[Ti (nt h1)] at hm
 cases hm
 exact fc
def SX (x y:Bool):Option Bool:=if x then some y else some false
theorem P8 {x y r:Bool} (hm:SX x y=some r):Has Tryz.prog 145 [.bool x,.bool y] fun s=>s= .bool r:=by
 refine hs ae Tryz.f145 ?_
 unfold SX at hm
 refine z ?_
 refine zr ?_ ?_<;>intro h1
 rw[Th h1] at hm
 cases hm
 exact fc
 rw[Ti (nt h1)] at hm
 cases hm
 exact fc
def oS (x y:Bool):Option Bool:=if x then some (!y) else some false
theorem Ix {x y r:Bool} (hm:oS x y=some r):Has Tryz.prog 125 [.bool x,.bool y] fun s=>s= .bool r:=by
 refine hs ae Tryz.f125 ?_
 unfold oS at hm
 refine z ?_
 refine zr ?_ ?_<;>intro h1
 rw[Th h1] at hm
 cases hm
 exact fc
 rw[Ti (nt h1)] at hm
 cases hm
 exact fc
def Im (a b:List ba):Option (List ba):=if(a.length:Int)=0 then(fY b).bind fun b=>ln b else if(b.length:Int)=0 then(fY a).bind fun a=>ln a else jj Io a b
theorem zG {a b r:List ba} (hm:Im a b=some r):bj Tryz.prog 61 [.agg [aA a],.agg [aA b]] fun s=>s= .agg [aA r]:=by
 refine ht ae Tryz.f61 ?_
 unfold Im at hm
 refine z ?_
 refine zd ?_ ?_<;>intro h1
 rw[Th h1] at hm
 obtain⟨v2,e2,hm⟩:=aa hm
 refine ct (hX e2) (z ?_)
 replace hm:=aB hm
 obtain⟨v3,e3,hm⟩:=aa hm
 refine ce (rz e3) (z ?_)
 cases hm
 exact mst
 rw[Ti h1] at hm
 refine zd ?_ ?_<;>intro h4
 rw[Th h4] at hm
 obtain⟨v5,e5,hm⟩:=aa hm
 refine ct (hX e5) (z ?_)
 replace hm:=aB hm
 obtain⟨v6,e6,hm⟩:=aa hm
 refine ce (rz e6) (z ?_)
 cases hm
 exact mst
 rw[Ti h4] at hm
 replace hm:=aB hm
 obtain⟨v7,e7,hm⟩:=aa hm
 refine ct (oP rfl rfl RA e7) (z ?_)
 cases hm
 exact mst
def MT (a b:List ba):Option (List ba):=if(a.length:Int)=0 then some [] else if(b.length:Int)=0 then some [] else jj SX a b
theorem P7 {a b r:List ba} (hm:MT a b=some r):bj Tryz.prog 108 [.agg [aA a],.agg [aA b]] fun s=>s= .agg [aA r]:=by
 refine ht ae Tryz.f108 ?_
 unfold MT at hm
 refine z ?_
 refine zd ?_ ?_<;>intro h1
 rw[Th h1] at hm
 cases hm
 refine aV (z ?_)
 exact mt
 rw[Ti h1] at hm
 refine zd ?_ ?_<;>intro h2
 rw[Th h2] at hm
 cases hm
 refine aV (z ?_)
 exact mt
 rw[Ti h2] at hm
 replace hm:=aB hm
 obtain⟨v3,e3,hm⟩:=aa hm
 refine ct (oP rfl rfl P8 e3) (z ?_)
 cases hm
 exact mst
def mq (a b:List ba):Option (List ba):=if(a.length:Int)=0 then some [] else if(b.length:Int)=0 then(fY a).bind fun a=>ln a else jj oS a b
theorem ny {a b r:List ba} (hm:mq a b=some r):bj Tryz.prog 95 [.agg [aA a],.agg [aA b]] fun s=>s= .agg [aA r]:=by
 refine ht ae Tryz.f95 ?_
 unfold mq at hm
 refine z ?_
 refine zd ?_ ?_<;>intro h1
 rw[Th h1] at hm
 cases hm
 refine aV (z ?_)
 exact mt
 rw[Ti h1] at hm
 refine zd ?_ ?_<;>intro h2
 rw[Th h2] at hm
 obtain⟨v3,e3,hm⟩:=aa hm
 refine ct (hX e3) (z ?_)
 replace hm:=aB hm
 obtain⟨v4,e4,hm⟩:=aa hm
 refine ce (rz e4) (z ?_)
 cases hm
 exact mst
 rw[Ti h2] at hm
 replace hm:=aB hm
 obtain⟨v5,e5,hm⟩:=aa hm
 refine ct (oP rfl rfl Ix e5) (z ?_)
 cases hm
 exact mst
def AE:List ba:=[⟨true,[⟨0,255,0⟩]⟩]
def MU:Option (List ba):=some AE
theorem Hg {r:List ba} (hm:MU=some r):Has Tryz.prog 96 [] fun s=>s= .agg [aA r]:=by
 refine hs ae Tryz.f96 ?_
 unfold MU at hm
 refine z ?_
 cases hm
 refine dy (z ?_)
 first|exact rfl|exact⟨rfl,rfl⟩
def jn (a:List ba):Option (List UInt8×Bool):=(oE a 1).bind fun l=>(aN l).bind fun _=>if(l.length:Int)=0 then some ([],false) else(cN l 0).bind fun x=>some (x,true)
theorem rh {a:List ba} {r:List UInt8×Bool} (hm:jn a=some r):bj Tryz.prog 138 [.agg [aA a]] fun s=>s= .dT [.str r.1,.bool r.2]:=by
 refine ht ae Tryz.f138 ?_
 unfold jn at hm
 refine z ?_
 obtain⟨v1,e1,hm⟩:=aa hm
 refine ct (JN e1) (z ?_)
 obtain⟨hg2,hm⟩:=ah hm
 refine zd ?_ ?_<;>intro h3
 rw[Th h3] at hm
 cases hm
 exact mst
 rw[Ti h3] at hm
 obtain⟨j4,x4,en4,ex4,hm⟩:=av hm
 refine bF en4 ex4 rfl (z ?_)
 cases hm
 exact mst
def OC (x:Int):Option Bool:=some false
theorem Gm {x:Int} {r:Bool} (hm:OC x=some r):Has Tryz.prog 244 [.int .i64 x] fun s=>s= .bool r:=by
 refine hs ae Tryz.f244 ?_
 unfold OC at hm
 cases hm
 refine z ?_
 exact nI rfl (by show SVal.bool _=_;simp)
def An (x y:Int):Option Int:=(OC x).bind fun a=>(OC y).bind fun b=>if a then if b then some 0 else some (-1) else if b then some 1 else if x<y then some (-1) else if x>y then some 1 else some 0
theorem Am {x y r:Int} (hm:An x y=some r):Has Tryz.prog 211 [.int .i64 x,.int .i64 y] fun s=>s= .int .i64 r:=by
 refine hs ae Tryz.f211 ?_
 unfold An at hm
 refine z ?_
 obtain⟨v1,e1,hm⟩:=aa hm
 refine ce (Gm e1) (z ?_)
 obtain⟨v2,e2,hm⟩:=aa hm
 refine ce (Gm e2) (z ?_)
 refine zr ?_ ?_<;>intro h3
 rw[Th h3] at hm
 refine zr ?_ ?_<;>intro h4
 rw[Th h4] at hm
 cases hm
 exact fc
 rw[Ti (nt h4)] at hm
 cases hm
 exact fc
 rw[Ti (nt h3)] at hm
 refine zr ?_ ?_<;>intro h5
 rw[Th h5] at hm
 cases hm
 exact fc
 rw[Ti (nt h5)] at hm
 refine zd ?_ ?_<;>intro h6
 rw[Th h6] at hm
 cases hm
 exact fc
 rw[Ti h6] at hm
 refine zd ?_ ?_<;>intro h7
 rw[Th h7] at hm
 cases hm
 exact fc
 rw[Ti h7] at hm
 cases hm
 exact fc
def Iu (x:Int):Option Bool:=some false
theorem Gl {x:Int} {r:Bool} (hm:Iu x=some r):Has Tryz.prog 223 [.int .i64 x] fun s=>s= .bool r:=by
 refine hs ae Tryz.f223 ?_
 unfold Iu at hm
 cases hm
 refine z ?_
 exact nI rfl (by show SVal.bool _=_;simp)
def IZ (x y:Int):Option Int:=(Iu x).bind fun a=>(Iu y).bind fun b=>if a then if b then some 0 else some (-1) else if b then some 1 else if x<y then some (-1) else if x>y then some 1 else some 0
theorem PK {x y r:Int} (hm:IZ x y=some r):Has Tryz.prog 191 [.int .i64 x,.int .i64 y] fun s=>s= .int .i64 r:=by
 refine hs ae Tryz.f191 ?_
 unfold IZ at hm
 refine z ?_
 obtain⟨v1,e1,hm⟩:=aa hm
 refine ce (Gl e1) (z ?_)
 obtain⟨v2,e2,hm⟩:=aa hm
 refine ce (Gl e2) (z ?_)
 refine zr ?_ ?_<;>intro h3
 rw[Th h3] at hm
 refine zr ?_ ?_<;>intro h4
 rw[Th h4] at hm
 cases hm
 exact fc
 rw[Ti (nt h4)] at hm
 cases hm
 exact fc
 rw[Ti (nt h3)] at hm
 refine zr ?_ ?_<;>intro h5
 rw[Th h5] at hm
 cases hm
 exact fc
 rw[Ti (nt h5)] at hm
 refine zd ?_ ?_<;>intro h6
 rw[Th h6] at hm
 cases hm
 exact fc
 rw[Ti h6] at hm
 refine zd ?_ ?_<;>intro h7
 rw[Th h7] at hm
 cases hm
 exact fc
 rw[Ti h7] at hm
 cases hm
 exact fc
def OB (x:List UInt8):Option Bool:=some false
theorem Gk {x:List UInt8} {r:Bool} (hm:OB x=some r):Has Tryz.prog 245 [.str x] fun s=>s= .bool r:=by
 refine hs ae Tryz.f245 ?_
 unfold OB at hm
 cases hm
 refine z ?_
 exact nI rfl (by show SVal.bool _=_;simp)
end Go.Proofs.YtaagahmkmcnhaaaGreatDoor
