/- For ConcreteWithin: functions of the program, walked beside Lean functions that say what they compute. -/
import Derived.Test.YtcejopopgcglpaaGreatDoorMd
set_option linter.unusedVariables false
set_option linter.unusedSimpArgs false
set_option linter.unusedSectionVars false
namespace Go.Proofs.YtcejopopgcglpaaGreatDoor
open Sv
set_option maxRecDepth 100000
set_option maxHeartbeats 2000000
def P0 (sc:bM):List (aF Va)->Option Bool
 |[]=>je sc
 |c::r=>(n5 c.fields).bind fun ok=>if ok then(GS c).bind fun ok=>if ok then P0 sc r else some false else some false
def RX (sc:bM) (ss:List (aF Va)):List (aV Va)->Option Bool
 |[]=>(aR ss).bind fun _=>P0 sc ss
 |c::r=>(aR c.rest).bind fun _=>if(c.rest.length:Int)>1 then some false else RX sc ss r
def sC (v:bt Va):Option Bool:=if v.any then(sw v.sc).bind fun c=>if c then(aR v.lists).bind fun _=>(aR v.structs).bind fun _=>some (decide ((v.lists.length:Int)+v.structs.length=0)) else some false
 else(aR v.lists).bind fun _=>RX v.sc v.structs v.lists
theorem Of {v:bt Va} {r:Bool} (hm:sC v=some r):bp Tryz.prog 158 [.agg (cg aN v)] fun s=>s= .bool r:=by
 refine ht ae Tryz.f158 ?_
 unfold sC at hm
 refine z ?_
 refine zr ?_ ?_<;>intro h1
 rw[HP h1] at hm
 obtain⟨v2,e2,hm⟩:=aa hm
 refine ce (Di e2) (z ?_)
 refine zr ?_ ?_<;>intro h3
 rw[HP h3] at hm
 obtain⟨hg4,hm⟩:=ah hm
 obtain⟨hg5,hm⟩:=ah hm
 refine z ?_
 cases hm
 exact mst
 rw[TP (nt h3)] at hm
 cases hm
 exact mst
 rw[TP (nt h1)] at hm
 obtain⟨hg6,hm⟩:=ah hm
 refine lg (α:=Nat) ae (fun iw=>(RX v.sc v.structs (List.drop iw v.lists)=some r,⟨54,[(25,.int .i64 iw),(24,.int .i64 ↑v.lists.length),(23,.aK false (List.map (aS aN) v.lists)),(2,.bool false),(1,.ptr 1 0)]⟩,⟨[(1,.cells (cg aN v)),(0,ba)],2,0,[],[]⟩,List.length v.lists-iw)) ⟨(0),hm⟩ ?_
 intro i7 hq7
 dsimp only at hq7
 refine z ?_
 refine zd ?_ ?_<;>intro h8
 obtain⟨x8,ex8,ed8⟩:=av h8
 rw[ed8,RX] at hq7
 refine z ?_
 obtain⟨hg9,hq7⟩:=ah hq7
 refine bx ex8 rfl (z ?_)
 refine zd ?_ ?_<;>intro h10
 rw[HP h10] at hq7
 cases hq7
 exact mst
 rw[TP h10] at hq7
 exact bk ⟨i7+1,hq7⟩
 rw[aA h8,RX] at hq7
 obtain⟨hg11,hq7⟩:=ah hq7
 refine bd rfl rfl ?_
 refine lg (α:=Nat) ae (fun iw=>(P0 v.sc (List.drop iw v.structs)=some r,⟨54,[(37,.int .i64 iw),(36,.int .i64 ↑v.structs.length),(35,.aK false (List.map (aG aN) v.structs)),(2,.bool false),(1,.ptr 1 0)]⟩,⟨[(1,.cells (cg aN v)),(0,ba)],2,0,[],[]⟩,List.length v.structs-iw)) ⟨(0),hq7⟩ ?_
 intro i12 hq12
 dsimp only at hq12
 refine z ?_
 refine zd ?_ ?_<;>intro h13
 obtain⟨x13,ex13,ed13⟩:=av h13
 rw[ed13,P0] at hq12
 refine z ?_
 refine bx ex13 rfl (z ?_)
 obtain⟨v14,e14,hq12⟩:=aa hq12
 refine ce (GG e14) (z ?_)
 refine zm ?_ ?_<;>intro h15
 rw[TP (nt h15)] at hq12
 cases hq12
 exact mst
 rw[HP h15] at hq12
 obtain⟨v16,e16,hq12⟩:=aa hq12
 refine ct (SE e16) (z ?_)
 refine zm ?_ ?_<;>intro h17
 rw[TP (nt h17)] at hq12
 cases hq12
 exact mst
 rw[HP h17] at hq12
 exact bk ⟨i12+1,hq12⟩
 rw[aA h13,P0] at hq12
 replace hq12:=aJ hq12
 obtain⟨v18,e18,hq12⟩:=aa hq12
 refine ct (ng e18) (z ?_)
 cases hq12
 exact mst
structure Wk where
 l9:Int
 deep:Int
 bad:Bool
def U7 (w:Wk):List SVal:=[.int .i64 w.l9,.int .i64 w.deep,.bool w.bad]
instance :Cl U7:=⟨fun _=>rfl⟩
def wb (w:Wk) (level:Int):Option Wk:=(dD (w.l9+1)).bind fun _=>some ⟨w.l9+1,mx w.deep level,w.bad⟩
theorem Ow {w r:Wk} {level:Int} (hm:wb w level=some r):lY Tryz.prog 157 (.cells (U7 w)) [.ptr 1 0,.int .i64 level] fun s o=>s= .dZ []/\o= .cells (U7 r):=by
 refine dV ae (fn:=Tryz.f157) rfl rfl rfl ?_
 unfold wb at hm
 refine z ?_
 obtain⟨hg1,hm⟩:=ah hm
 refine z ?_
 cases hm
 exact mso
def Ai (rec:Wk->bt Va->Int->Option Wk) (level:Int):List Va->Wk->Option Wk
 |[],w=>some w
 |x::r,w=>(dD (level+1)).bind fun _=>(rec w x.v (level+1)).bind fun w=>(rec w x.d (level+1)).bind fun w=>Ai rec level r w
def sY:Nat->Wk->bt Va->Int->Option Wk
 |0,_,_,_=>none
 |n+1,w,v,level=>(wb w level).bind fun w=>if level>16 then some ⟨w.l9,w.deep,true⟩ else(sC v).bind fun ok=>if ok then
   (py v).bind fun l=>(aR l).bind fun _=>Ai (sY n) level l w else some ⟨w.l9,w.deep,true⟩
theorem JK:∀{n:Nat} {w r:Wk} {v:bt Va} {level:Int} (hm:sY n w v level=some r),lY Tryz.prog 122 (.cells (U7 w)) [.ptr 1 0,.agg (cg aN v),.int .i64 level] fun s o=>s= .dZ []/\o= .cells (U7 r):=by
 intro n
 induction n with
 |zero=>intro w r v level hm;cases hm
 |succ n ih=>
  intro w r v level hm
  refine dV ae (fn:=Tryz.f122) rfl rfl (by simp only[nb,cX,c9,V3];rfl) ?_
  unfold sY at hm
  refine z ?_
  obtain⟨v1,e1,hm⟩:=aa hm
  refine dq 1 (Ow e1) rfl rfl rfl rfl (z ?_)
  refine zd ?_ ?_<;>intro h2
  ·rw[HP h2] at hm
   cases hm
   exact mso
  ·rw[TP h2] at hm
   obtain⟨v3,e3,hm⟩:=aa hm
   refine ct (Of e3) (z ?_)
   refine zm ?_ ?_<;>intro h4
   ·rw[TP (nt h4)] at hm
    cases hm
    exact mso
   ·rw[HP h4] at hm
    obtain⟨v5,e5,hm⟩:=aa hm
    refine ce (Lb e5) (z ?_)
    obtain⟨hg6,hm⟩:=ah hm
    refine lg (α:=Nat×Wk) ae (fun(iw,s1)=>(Ai (sY n) level (List.drop iw v5) s1=some r,⟨43,[(26,.int .i64 iw),(25,.int .i64 ↑v5.length),(24,.aK false (List.map aN v5)),(0,.ptr 1 0),(2,.int .i64 level)]⟩,⟨[(2,.cells (cg aN v)),(0,ba),(1,.cells (U7 s1))],3,0,[],[]⟩,List.length v5-iw)) ⟨(0,_),hm⟩ ?_
    rintro⟨i7,s1_7⟩ hq7
    dsimp only at hq7
    refine z ?_
    refine zd ?_ ?_<;>intro h8
    ·obtain⟨x8,ex8,ed8⟩:=av h8
     rw[ed8,Ai] at hq7
     refine z ?_
     obtain⟨hg9,hq7⟩:=ah hq7
     refine bF (cA _) ex8 rfl (z ?_)
     obtain⟨v10,e10,hq7⟩:=aa hq7
     refine dq 1 (ih e10) (by simp only[cz,bV,bU];rfl) rfl rfl rfl (z ?_)
     obtain⟨v11,e11,hq7⟩:=aa hq7
     refine dq 1 (ih e11) (by simp only[cz,bV,bU];rfl) rfl rfl rfl (z ?_)
     exact bk ⟨(i7+1,_),hq7⟩
    ·rw[aA h8,Ai] at hq7
     cases hq7
     exact mso
def B5 (v:bt Va):Option Wk:=sY 18 ⟨0,0,false⟩ v 1
theorem Mc {v:bt Va} {r:Wk} (hm:B5 v=some r):bp Tryz.prog 99 [.agg (cg aN v)] fun s=>s= .bR (U7 r) 0:=by
 refine ht ae Tryz.f99 ?_
 unfold B5 at hm
 refine z ?_
 replace hm:=aJ hm
 obtain⟨v1,e1,hm⟩:=aa hm
 refine dq 2 (JK e1) (by simp only[cz,bV,bU];rfl) rfl rfl rfl (z ?_)
 cases hm
 refine a8 (z ?_)
 exact mt
def gG (v:bt Va):Option Bool:=(B5 v).bind fun w=>some (!w.bad)
theorem nk {v:bt Va} {r:Bool} (hm:gG v=some r):bp Tryz.prog 75 [.agg (cg aN v)] fun s=>s= .bool r:=by
 refine ht ae Tryz.f75 ?_
 unfold gG at hm
 refine z ?_
 obtain⟨v1,e1,hm⟩:=aa hm
 refine ct (Mc e1) (z ?_)
 cases hm
 exact mst
def mf (x:Va):Option Bool:=(gG x.v).bind fun a=>if a then gG x.d else some false
theorem yB {x:Va} {r:Bool} (hm:mf x=some r):bp Tryz.prog 48 [.agg (ec x)] fun s=>s= .bool r:=by
 refine ht ae Tryz.f48 ?_
 unfold mf at hm
 refine z ?_
 obtain⟨v1,e1,hm⟩:=aa hm
 refine ct (nk e1) (z ?_)
 refine zr ?_ ?_<;>intro h2
 rw[HP h2] at hm
 replace hm:=aJ hm
 obtain⟨v3,e3,hm⟩:=aa hm
 refine ct (nk e3) (z ?_)
 cases hm
 exact mst
 rw[TP (nt h2)] at hm
 cases hm
 exact mst
def uU (a b:bM):Option Bool:=if a.null==b.null then if a.sE==b.sE then if a.rY==b.rY then(fH a.ints b.ints).bind fun c=>if c then(fH a.bC b.bC).bind fun c=>if c then pV a.strs b.strs else some false else some false else some false else some false else some false
theorem MW {a b:bM} {r:Bool} (hm:uU a b=some r):Has Tryz.prog 135 [.agg (cq a),.agg (cq b)] fun s=>s= .bool r:=by
 refine hs ae Tryz.f135 ?_
 unfold uU at hm
 refine z ?_
 refine zr ?_ ?_<;>intro h1
 rw[HP h1] at hm
 refine zr ?_ ?_<;>intro h2
 rw[HP h2] at hm
 refine zr ?_ ?_<;>intro h3
 rw[HP h3] at hm
 obtain⟨v4,e4,hm⟩:=aa hm
 refine ce (lz e4) (z ?_)
 refine zr ?_ ?_<;>intro h5
 rw[HP h5] at hm
 obtain⟨v6,e6,hm⟩:=aa hm
 refine ce (lz e6) (z ?_)
 refine zr ?_ ?_<;>intro h7
 rw[HP h7] at hm
 replace hm:=aJ hm
 obtain⟨v8,e8,hm⟩:=aa hm
 refine ce (AA e8) (z ?_)
 cases hm
 exact fc
 rw[TP (nt h7)] at hm
 cases hm
 exact fc
 rw[TP (nt h5)] at hm
 cases hm
 exact fc
 rw[TP (nt h3)] at hm
 cases hm
 exact fc
 rw[TP (nt h2)] at hm
 cases hm
 exact fc
 rw[TP (nt h1)] at hm
 cases hm
 exact fc
theorem R7 {fn:FuncId} {g:Va->Va->Option Bool} (hg:∀{x y r},g x y=some r->Has Tryz.prog fn [.agg (ec x),.agg (ec y)] fun s=>s= .bool r) {a b:List Va} {r:Bool} (hm:ju g a b=some r):Has Tryz.prog 136 [.aK false (a.map aN),.aK false (b.map aN),.func (.func fn) [] []] fun s=>s= .bool r:=by
 refine hs ae Tryz.f136 ?_
 unfold ju at hm
 refine z ?_
 refine zn ?_ ?_<;>intro h1
 rw[TP h1] at hm
 cases hm
 exact fc
 rw[HP h1] at hm
 obtain⟨hg2,hm⟩:=ah hm
 refine lg (α:=Nat) ae (fun iw=>(iQ g b (List.drop iw a) (iw:Int)=some r,⟨32,[(17,.int .i64 iw),(16,.int .i64 ↑a.length),(15,.aK false (List.map aN a)),(6,.bool false),(1,.aK false (List.map aN b)),(2,.func (.func fn) [] [])]⟩,⟨[],0,0,[],[]⟩,List.length a-iw)) ⟨(0),hm⟩ ?_
 intro i3 hq3
 dsimp only at hq3
 refine z ?_
 refine zd ?_ ?_<;>intro h4
 obtain⟨x4,ex4,ed4⟩:=av h4
 rw[ed4,iQ] at hq3
 refine z ?_
 refine bF (cA _) ex4 rfl (z ?_)
 obtain⟨j5,x5,en5,ex5,hq3⟩:=az hq3
 refine bP (cA _) en5 ex5 rfl (z ?_)
 obtain⟨v6,e6,hq3⟩:=aa hq3
 refine ce (hg e6) (z ?_)
 refine zm ?_ ?_<;>intro h7
 rw[TP (nt h7)] at hq3
 cases hq3
 exact fc
 rw[HP h7] at hq3
 exact bk ⟨i3+1,hq3⟩
 rw[aA h4,iQ] at hq3
 cases hq3
 exact fc
theorem Ot {fn:FuncId} {g:dy Va->dy Va->Option Bool} (hg:∀{x y r},g x y=some r->Has Tryz.prog fn [.agg (lQ x),.agg (lQ y)] fun s=>s= .bool r) {a b:List (dy Va)} {r:Bool} (hm:ju g a b=some r):Has Tryz.prog 180 [.aK false (a.map (cZ aN)),.aK false (b.map (cZ aN)),.func (.func fn) [] []] fun s=>s= .bool r:=by
 refine hs ae Tryz.f180 ?_
 unfold ju at hm
 refine z ?_
 refine zn ?_ ?_<;>intro h1
 rw[TP h1] at hm
 cases hm
 exact fc
 rw[HP h1] at hm
 obtain⟨hg2,hm⟩:=ah hm
 refine lg (α:=Nat) ae (fun iw=>(iQ g b (List.drop iw a) (iw:Int)=some r,⟨32,[(17,.int .i64 iw),(16,.int .i64 ↑a.length),(15,.aK false (List.map (cZ aN) a)),(6,.bool false),(1,.aK false (List.map (cZ aN) b)),(2,.func (.func fn) [] [])]⟩,⟨[],0,0,[],[]⟩,List.length a-iw)) ⟨(0),hm⟩ ?_
 intro i3 hq3
 dsimp only at hq3
 refine z ?_
 refine zd ?_ ?_<;>intro h4
 obtain⟨x4,ex4,ed4⟩:=av h4
 rw[ed4,iQ] at hq3
 refine z ?_
 refine bF (cP _) ex4 rfl (z ?_)
 obtain⟨j5,x5,en5,ex5,hq3⟩:=az hq3
 refine bP (cP _) en5 ex5 rfl (z ?_)
 obtain⟨v6,e6,hq3⟩:=aa hq3
 refine ce (hg e6) (z ?_)
 refine zm ?_ ?_<;>intro h7
 rw[TP (nt h7)] at hq3
 cases hq3
 exact fc
 rw[HP h7] at hq3
 exact bk ⟨i3+1,hq3⟩
 rw[aA h4,iQ] at hq3
 cases hq3
 exact fc
theorem Ou {fn:FuncId} {g:cW Va->cW Va->Option Bool} (hg:∀{x y r},g x y=some r->Has Tryz.prog fn [.agg (fI x),.agg (fI y)] fun s=>s= .bool r) {a b:List (cW Va)} {r:Bool} (hm:ju g a b=some r):Has Tryz.prog 182 [.aK false (a.map (dI aN)),.aK false (b.map (dI aN)),.func (.func fn) [] []] fun s=>s= .bool r:=by
 refine hs ae Tryz.f182 ?_
 unfold ju at hm
 refine z ?_
 refine zn ?_ ?_<;>intro h1
 rw[TP h1] at hm
 cases hm
 exact fc
 rw[HP h1] at hm
 obtain⟨hg2,hm⟩:=ah hm
 refine lg (α:=Nat) ae (fun iw=>(iQ g b (List.drop iw a) (iw:Int)=some r,⟨32,[(17,.int .i64 iw),(16,.int .i64 ↑a.length),(15,.aK false (List.map (dI aN) a)),(6,.bool false),(1,.aK false (List.map (dI aN) b)),(2,.func (.func fn) [] [])]⟩,⟨[],0,0,[],[]⟩,List.length a-iw)) ⟨(0),hm⟩ ?_
 intro i3 hq3
 dsimp only at hq3
 refine z ?_
 refine zd ?_ ?_<;>intro h4
 obtain⟨x4,ex4,ed4⟩:=av h4
 rw[ed4,iQ] at hq3
 refine z ?_
 refine bF (cB _) ex4 rfl (z ?_)
 obtain⟨j5,x5,en5,ex5,hq3⟩:=az hq3
 refine bP (cB _) en5 ex5 rfl (z ?_)
 obtain⟨v6,e6,hq3⟩:=aa hq3
 refine ce (hg e6) (z ?_)
 refine zm ?_ ?_<;>intro h7
 rw[TP (nt h7)] at hq3
 cases hq3
 exact fc
 rw[HP h7] at hq3
 exact bk ⟨i3+1,hq3⟩
 rw[aA h4,iQ] at hq3
 cases hq3
 exact fc
abbrev PL (rec:bt Va->bt Va->Option Bool):Prop:=∀{a b r},rec a b=some r->Has Tryz.prog 102 [.agg (cg aN a),.agg (cg aN b)] fun s=>s= .bool r
def lK (rec:bt Va->bt Va->Option Bool) (x y:Va):Option Bool:=(rec x.v y.v).bind fun c=>if c then rec x.d y.d else some false
theorem pW {rec:bt Va->bt Va->Option Bool} (h:PL rec) {x y:Va} {r:Bool} (hm:lK rec x y=some r):Has Tryz.prog 77 [.agg (ec x),.agg (ec y)] fun s=>s= .bool r:=by
 refine hs ae Tryz.f77 ?_
 unfold lK at hm
 refine z ?_
 obtain⟨v1,e1,hm⟩:=aa hm
 refine ce (h e1) (z ?_)
 refine zr ?_ ?_<;>intro h2
 rw[HP h2] at hm
 replace hm:=aJ hm
 obtain⟨v3,e3,hm⟩:=aa hm
 refine ce (h e3) (z ?_)
 cases hm
 exact fc
 rw[TP (nt h2)] at hm
 cases hm
 exact fc
def CU (rec:bt Va->bt Va->Option Bool) (x y:dy Va):Option Bool:=if x.label=y.label then if x.dR=y.dR then lK rec x.val y.val else some false else some false
theorem MY {rec:bt Va->bt Va->Option Bool} (h:PL rec) {x y:dy Va} {r:Bool} (hm:CU rec x y=some r):Has Tryz.prog 181 [.agg (lQ x),.agg (lQ y)] fun s=>s= .bool r:=by
 refine hs ae Tryz.f181 ?_
 unfold CU at hm
 refine z ?_
 refine zd ?_ ?_<;>intro h1
 rw[HP h1] at hm
 refine zd ?_ ?_<;>intro h2
 rw[HP h2] at hm
 replace hm:=aJ hm
 obtain⟨v3,e3,hm⟩:=aa hm
 refine ce (pW h e3) (z ?_)
 cases hm
 exact fc
 rw[TP h2] at hm
 cases hm
 exact fc
 rw[TP h1] at hm
 cases hm
 exact fc
def CV (rec:bt Va->bt Va->Option Bool) (x y:cW Va):Option Bool:=(pV x.set y.set).bind fun c=>if c then lK rec x.val y.val else some false
theorem MZ {rec:bt Va->bt Va->Option Bool} (h:PL rec) {x y:cW Va} {r:Bool} (hm:CV rec x y=some r):Has Tryz.prog 183 [.agg (fI x),.agg (fI y)] fun s=>s= .bool r:=by
 refine hs ae Tryz.f183 ?_
 unfold CV at hm
 refine z ?_
 obtain⟨v1,e1,hm⟩:=aa hm
 refine ce (AA e1) (z ?_)
 refine zr ?_ ?_<;>intro h2
 rw[HP h2] at hm
 replace hm:=aJ hm
 obtain⟨v3,e3,hm⟩:=aa hm
 refine ce (pW h e3) (z ?_)
 cases hm
 exact fc
 rw[TP (nt h2)] at hm
 cases hm
 exact fc
def uT (rec:bt Va->bt Va->Option Bool) (x y:aF Va):Option Bool:=(ju (CU rec) x.fields y.fields).bind fun c=>if c then ju (CV rec) x.aw y.aw else some false
theorem MU {rec:bt Va->bt Va->Option Bool} (h:PL rec) {x y:aF Va} {r:Bool} (hm:uT rec x y=some r):Has Tryz.prog 138 [.agg (aG aN x),.agg (aG aN y)] fun s=>s= .bool r:=by
 refine hs ae Tryz.f138 ?_
 unfold uT at hm
 refine z ?_
 obtain⟨v1,e1,hm⟩:=aa hm
 refine ce (Ot (MY h) e1) (z ?_)
 refine zr ?_ ?_<;>intro h2
 rw[HP h2] at hm
 replace hm:=aJ hm
 obtain⟨v3,e3,hm⟩:=aa hm
 refine ce (Ou (MZ h) e3) (z ?_)
 cases hm
 exact fc
 rw[TP (nt h2)] at hm
 cases hm
 exact fc
def AD (rec:bt Va->bt Va->Option Bool) (b:List (aF Va)):List (aF Va)->Int->Option Bool
 |[],_=>some true
 |x::r,i=>(cJ b i).bind fun y=>(uT rec x y).bind fun c=>if c then AD rec b r (i+1) else some false
def xP (rec:bt Va->bt Va->Option Bool) (sa sb:List (aF Va)) (b:List (aV Va)):List (aV Va)->Int->Option Bool
 |[],_=>(aR sa).bind fun _=>AD rec sb sa 0
 |x::r,i=>(cJ b i).bind fun y=>(aR x.items).bind fun _=>(aR y.items).bind fun _=>if(x.items.length:Int)=y.items.length then
   (fb x).bind fun p=>(fb y).bind fun q=>(ju (lK rec) p q).bind fun c=>if c then xP rec sa sb b r (i+1) else some false
  else some false
def oX:Nat->bt Va->bt Va->Option Bool
 |0,_,_=>none
 |n+1,a,b=>if a.any==b.any then(uU a.sc b.sc).bind fun c=>if c then(aR a.lists).bind fun _=>(aR b.lists).bind fun _=>if(a.lists.length:Int)=b.lists.length then
   (aR a.structs).bind fun _=>(aR b.structs).bind fun _=>if(a.structs.length:Int)=b.structs.length then(aR a.lists).bind fun _=>xP (oX n) a.structs b.structs b.lists a.lists 0 else some false else some false else some false else some false
theorem Q1:∀{n:Nat},PL (oX n):=by
 intro n
 induction n with
 |zero=>intro a b r hm;cases hm
 |succ n ih=>
  intro a b r hm
  refine hs ae Tryz.f102 ?_
  unfold oX at hm
  refine z ?_
  refine zm ?_ ?_<;>intro h1
  ·rw[TP (nt h1)] at hm
   cases hm
   exact fc
  ·rw[HP h1] at hm
   obtain⟨v2,e2,hm⟩:=aa hm
   refine ce (MW e2) (z ?_)
   refine zm ?_ ?_<;>intro h3
   ·rw[TP (nt h3)] at hm
    cases hm
    exact fc
   ·rw[HP h3] at hm
    obtain⟨hg4,hm⟩:=ah hm
    obtain⟨hg5,hm⟩:=ah hm
    refine zn ?_ ?_<;>intro h6
    ·rw[TP h6] at hm
     cases hm
     exact fc
    ·rw[HP h6] at hm
     obtain⟨hg7,hm⟩:=ah hm
     obtain⟨hg8,hm⟩:=ah hm
     refine zn ?_ ?_<;>intro h9
     ·rw[TP h9] at hm
      cases hm
      exact fc
     ·rw[HP h9] at hm
      obtain⟨hg10,hm⟩:=ah hm
      refine lg (α:=Nat) ae (fun iw=>(xP (oX n) a.structs b.structs b.lists (List.drop iw a.lists) (iw:Int)=some r,⟨91,[(43,.int .i64 iw),(42,.int .i64 ↑a.lists.length),(4,.bool false),(3,.ptr 1 0),(2,.ptr 0 0)]⟩,⟨[(1,.cells (cg aN b)),(0,.cells (cg aN a))],2,0,[],[]⟩,List.length a.lists-iw)) ⟨(0),hm⟩ ?_
      intro i11 hq11
      dsimp only at hq11
      refine z ?_
      refine zd ?_ ?_<;>intro h12
      ·obtain⟨x12,ex12,ed12⟩:=av h12
       rw[ed12,xP] at hq11
       refine z ?_
       refine dg ae [0,1,0,7,15,0,32,0,224,480,0,0,3103,8191] [⟨13,0,0,[3]⟩,⟨12,0,0,[2]⟩] (z ?_)
       refine bx ex12 rfl (z ?_)
       obtain⟨j14,x14,en14,ex14,hq11⟩:=az hq11
       refine bD en14 ex14 rfl (z ?_)
       refine dg ae [0,1,3,0,8,24,63,127,255,511,255,2047,4095,8191,16383] [] (z ?_)
       obtain⟨hg15,hq11⟩:=ah hq11
       obtain⟨hg16,hq11⟩:=ah hq11
       refine zn ?_ ?_<;>intro h17
       ·rw[TP h17] at hq11
        cases hq11
        exact fc
       ·rw[HP h17] at hq11
        obtain⟨v18,e18,hq11⟩:=aa hq11
        refine ce (ia e18) (z ?_)
        obtain⟨v19,e19,hq11⟩:=aa hq11
        refine ce (ia e19) (z ?_)
        obtain⟨v20,e20,hq11⟩:=aa hq11
        refine ce (R7 (pW ih) e20) (z ?_)
        refine zm ?_ ?_<;>intro h21
        ·rw[TP (nt h21)] at hq11
         cases hq11
         exact fc
        ·rw[HP h21] at hq11
         exact bk ⟨i11+1,hq11⟩
      ·rw[aA h12,xP] at hq11
       obtain⟨hg22,hq11⟩:=ah hq11
       refine bd rfl rfl ?_
       refine lg (α:=Nat) ae (fun iw=>(AD (oX n) b.structs (List.drop iw a.structs) (iw:Int)=some r,⟨91,[(75,.int .i64 iw),(74,.int .i64 ↑a.structs.length),(4,.bool false),(3,.ptr 1 0),(2,.ptr 0 0)]⟩,⟨[(1,.cells (cg aN b)),(0,.cells (cg aN a))],2,0,[],[]⟩,List.length a.structs-iw)) ⟨(0),hq11⟩ ?_
       intro i23 hq23
       dsimp only at hq23
       refine z ?_
       refine zd ?_ ?_<;>intro h24
       ·obtain⟨x24,ex24,ed24⟩:=av h24
        rw[ed24,AD] at hq23
        refine z ?_
        refine dg ae [0,1,0,7,15,0,32,0,224,480,1023,2047] [] (z ?_)
        refine bx ex24 rfl (z ?_)
        obtain⟨j25,x25,en25,ex25,hq23⟩:=az hq23
        refine bD en25 ex25 rfl (z ?_)
        obtain⟨v26,e26,hq23⟩:=aa hq23
        refine ce (MU ih e26) (z ?_)
        refine zm ?_ ?_<;>intro h27
        ·rw[TP (nt h27)] at hq23
         cases hq23
         exact fc
        ·rw[HP h27] at hq23
         exact bk ⟨i23+1,hq23⟩
       ·rw[aA h24,AD] at hq23
        cases hq23
        exact fc
def qy:Nat:=64
def mi (x y:Va):Option Bool:=lK (oX qy) x y
theorem uP {x y:Va} {r:Bool} (hm:mi x y=some r):Has Tryz.prog 51 [.agg (ec x),.agg (ec y)] fun s=>s= .bool r:=by
 refine hs ae Tryz.f51 ?_
 unfold mi at hm
 refine z ?_
 replace hm:=aJ hm
 obtain⟨v1,e1,hm⟩:=aa hm
 refine ce (pW Q1 e1) (z ?_)
 cases hm
 exact fc
def tr (c k:Option Int):Option Int:=c.bind fun c=>if c=0 then k else some c
def um (a b:Bool):Option Int:=if a==b then some 0 else if a then some (-1) else some 1
theorem Ch {a b:Bool} {r:Int} (hm:um a b=some r):Has Tryz.prog 256 [.bool a,.bool b] fun s=>s= .int .i64 r:=by
 refine hs ae Tryz.f256 ?_
 unfold um at hm
 refine z ?_
 refine zr ?_ ?_<;>intro h1
 rw[HP h1] at hm
 cases hm
 exact fc
 rw[TP (nt h1)] at hm
 refine zr ?_ ?_<;>intro h2
 rw[HP h2] at hm
 cases hm
 exact fc
 rw[TP (nt h2)] at hm
 cases hm
 exact fc
section
variable {α:Type}
def gp (g:α->α->Option Int) (b:List α) (n:Nat):List α->Int->Option Int
 |[],_=>(aR b).bind fun _=>if(n:Int)<b.length then some (-1) else some 0
 |x::r,i=>(aR b).bind fun _=>if i>=(b.length:Int) then some 1 else(cJ b i).bind fun y=>(g x y).bind fun c=>if c=0 then gp g b n r (i+1) else some c
def fC (g:α->α->Option Int) (a b:List α):Option Int:=(aR a).bind fun _=>gp g b a.length a 0
end
theorem Vn {fn:FuncId} {g:(aV Va)->(aV Va)->Option Int} (hg:∀{x y r},g x y=some r->bp Tryz.prog fn [.agg (aS aN x),.agg (aS aN y)] fun s=>s= .int .i64 r) {a b:List (aV Va)} {r:Int} (hm:fC g a b=some r):bp Tryz.prog 259 [.aK false (a.map (aS aN)),.aK false (b.map (aS aN)),.func (.func fn) [] []] fun s=>s= .int .i64 r:=by
 refine ht ae Tryz.f259 ?_
 unfold fC at hm
 refine z ?_
 obtain⟨hg1,hm⟩:=ah hm
 refine lg (α:=Nat) ae (fun iw=>(gp g b a.length (List.drop iw a) (iw:Int)=some r,⟨39,[(13,.int .i64 iw),(12,.int .i64 ↑a.length),(11,.aK false (List.map (aS aN) a)),(6,.int .i64 0),(0,.aK false (List.map (aS aN) a)),(1,.aK false (List.map (aS aN) b)),(2,.func (.func fn) [] [])]⟩,⟨[(0,ba)],1,0,[],[]⟩,List.length a-iw)) ⟨(0),hm⟩ ?_
 intro i2 hq2
 dsimp only at hq2
 refine z ?_
 refine zd ?_ ?_<;>intro h3
 obtain⟨x3,ex3,ed3⟩:=av h3
 rw[ed3,gp] at hq2
 refine z ?_
 obtain⟨hg4,hq2⟩:=ah hq2
 refine bx ex3 rfl (z ?_)
 refine zd ?_ ?_<;>intro h5
 rw[HP h5] at hq2
 cases hq2
 exact mst
 rw[TP h5] at hq2
 obtain⟨j6,x6,en6,ex6,hq2⟩:=az hq2
 refine bD en6 ex6 rfl (z ?_)
 obtain⟨v7,e7,hq2⟩:=aa hq2
 refine ct (hg e7) (z ?_)
 refine zn ?_ ?_<;>intro h8
 rw[TP h8] at hq2
 cases hq2
 exact mst
 rw[HP h8] at hq2
 exact bk ⟨i2+1,hq2⟩
 rw[aA h3,gp] at hq2
 obtain⟨hg9,hq2⟩:=ah hq2
 refine zd ?_ ?_<;>intro h10
 rw[HP h10] at hq2
 cases hq2
 exact mst
 rw[TP h10] at hq2
 cases hq2
 exact mst
theorem Vm {fn:FuncId} {g:(aF Va)->(aF Va)->Option Int} (hg:∀{x y r},g x y=some r->bp Tryz.prog fn [.agg (aG aN x),.agg (aG aN y)] fun s=>s= .int .i64 r) {a b:List (aF Va)} {r:Int} (hm:fC g a b=some r):bp Tryz.prog 262 [.aK false (a.map (aG aN)),.aK false (b.map (aG aN)),.func (.func fn) [] []] fun s=>s= .int .i64 r:=by
 refine ht ae Tryz.f262 ?_
 unfold fC at hm
 refine z ?_
 obtain⟨hg1,hm⟩:=ah hm
 refine lg (α:=Nat) ae (fun iw=>(gp g b a.length (List.drop iw a) (iw:Int)=some r,⟨39,[(13,.int .i64 iw),(12,.int .i64 ↑a.length),(11,.aK false (List.map (aG aN) a)),(6,.int .i64 0),(0,.aK false (List.map (aG aN) a)),(1,.aK false (List.map (aG aN) b)),(2,.func (.func fn) [] [])]⟩,⟨[(0,ba)],1,0,[],[]⟩,List.length a-iw)) ⟨(0),hm⟩ ?_
 intro i2 hq2
 dsimp only at hq2
 refine z ?_
 refine zd ?_ ?_<;>intro h3
 obtain⟨x3,ex3,ed3⟩:=av h3
 rw[ed3,gp] at hq2
 refine z ?_
 obtain⟨hg4,hq2⟩:=ah hq2
 refine bx ex3 rfl (z ?_)
 refine zd ?_ ?_<;>intro h5
 rw[HP h5] at hq2
 cases hq2
 exact mst
 rw[TP h5] at hq2
 obtain⟨j6,x6,en6,ex6,hq2⟩:=az hq2
 refine bD en6 ex6 rfl (z ?_)
 obtain⟨v7,e7,hq2⟩:=aa hq2
 refine ct (hg e7) (z ?_)
 refine zn ?_ ?_<;>intro h8
 rw[TP h8] at hq2
 cases hq2
 exact mst
 rw[HP h8] at hq2
 exact bk ⟨i2+1,hq2⟩
 rw[aA h3,gp] at hq2
 obtain⟨hg9,hq2⟩:=ah hq2
 refine zd ?_ ?_<;>intro h10
 rw[HP h10] at hq2
 cases hq2
 exact mst
 rw[TP h10] at hq2
 cases hq2
 exact mst
theorem Vk {fn:FuncId} {g:Va->Va->Option Int} (hg:∀{x y r},g x y=some r->bp Tryz.prog fn [.agg (ec x),.agg (ec y)] fun s=>s= .int .i64 r) {a b:List (Va)} {r:Int} (hm:fC g a b=some r):bp Tryz.prog 295 [.aK false (a.map (aN)),.aK false (b.map (aN)),.func (.func fn) [] []] fun s=>s= .int .i64 r:=by
 refine ht ae Tryz.f295 ?_
 unfold fC at hm
 refine z ?_
 obtain⟨hg1,hm⟩:=ah hm
 refine lg (α:=Nat) ae (fun iw=>(gp g b a.length (List.drop iw a) (iw:Int)=some r,⟨39,[(13,.int .i64 iw),(12,.int .i64 ↑a.length),(11,.aK false (List.map aN a)),(6,.int .i64 0),(0,.aK false (List.map aN a)),(1,.aK false (List.map aN b)),(2,.func (.func fn) [] [])]⟩,⟨[(0,ba)],1,0,[],[]⟩,List.length a-iw)) ⟨(0),hm⟩ ?_
 intro i2 hq2
 dsimp only at hq2
 refine z ?_
 refine zd ?_ ?_<;>intro h3
 obtain⟨x3,ex3,ed3⟩:=av h3
 rw[ed3,gp] at hq2
 refine z ?_
 obtain⟨hg4,hq2⟩:=ah hq2
 refine bF (cA _) ex3 rfl (z ?_)
 refine zd ?_ ?_<;>intro h5
 rw[HP h5] at hq2
 cases hq2
 exact mst
 rw[TP h5] at hq2
 obtain⟨j6,x6,en6,ex6,hq2⟩:=az hq2
 refine bP (cA _) en6 ex6 rfl (z ?_)
 obtain⟨v7,e7,hq2⟩:=aa hq2
 refine ct (hg e7) (z ?_)
 refine zn ?_ ?_<;>intro h8
 rw[TP h8] at hq2
 cases hq2
 exact mst
 rw[HP h8] at hq2
 exact bk ⟨i2+1,hq2⟩
 rw[aA h3,gp] at hq2
 obtain⟨hg9,hq2⟩:=ah hq2
 refine zd ?_ ?_<;>intro h10
 rw[HP h10] at hq2
 cases hq2
 exact mst
 rw[TP h10] at hq2
 cases hq2
 exact mst
theorem Vo {fn:FuncId} {g:(dy Va)->(dy Va)->Option Int} (hg:∀{x y r},g x y=some r->bp Tryz.prog fn [.agg (lQ x),.agg (lQ y)] fun s=>s= .int .i64 r) {a b:List (dy Va)} {r:Int} (hm:fC g a b=some r):bp Tryz.prog 298 [.aK false (a.map (cZ aN)),.aK false (b.map (cZ aN)),.func (.func fn) [] []] fun s=>s= .int .i64 r:=by
 refine ht ae Tryz.f298 ?_
 unfold fC at hm
 refine z ?_
 obtain⟨hg1,hm⟩:=ah hm
 refine lg (α:=Nat) ae (fun iw=>(gp g b a.length (List.drop iw a) (iw:Int)=some r,⟨39,[(13,.int .i64 iw),(12,.int .i64 ↑a.length),(11,.aK false (List.map (cZ aN) a)),(6,.int .i64 0),(0,.aK false (List.map (cZ aN) a)),(1,.aK false (List.map (cZ aN) b)),(2,.func (.func fn) [] [])]⟩,⟨[(0,ba)],1,0,[],[]⟩,List.length a-iw)) ⟨(0),hm⟩ ?_
 intro i2 hq2
 dsimp only at hq2
 refine z ?_
 refine zd ?_ ?_<;>intro h3
 obtain⟨x3,ex3,ed3⟩:=av h3
 rw[ed3,gp] at hq2
 refine z ?_
 obtain⟨hg4,hq2⟩:=ah hq2
 refine bF (cP _) ex3 rfl (z ?_)
 refine zd ?_ ?_<;>intro h5
 rw[HP h5] at hq2
 cases hq2
 exact mst
 rw[TP h5] at hq2
 obtain⟨j6,x6,en6,ex6,hq2⟩:=az hq2
 refine bP (cP _) en6 ex6 rfl (z ?_)
 obtain⟨v7,e7,hq2⟩:=aa hq2
 refine ct (hg e7) (z ?_)
 refine zn ?_ ?_<;>intro h8
 rw[TP h8] at hq2
 cases hq2
 exact mst
 rw[HP h8] at hq2
 exact bk ⟨i2+1,hq2⟩
 rw[aA h3,gp] at hq2
 obtain⟨hg9,hq2⟩:=ah hq2
 refine zd ?_ ?_<;>intro h10
 rw[HP h10] at hq2
 cases hq2
 exact mst
 rw[TP h10] at hq2
 cases hq2
 exact mst
theorem Vp {fn:FuncId} {g:(cW Va)->(cW Va)->Option Int} (hg:∀{x y r},g x y=some r->bp Tryz.prog fn [.agg (fI x),.agg (fI y)] fun s=>s= .int .i64 r) {a b:List (cW Va)} {r:Int} (hm:fC g a b=some r):bp Tryz.prog 304 [.aK false (a.map (dI aN)),.aK false (b.map (dI aN)),.func (.func fn) [] []] fun s=>s= .int .i64 r:=by
 refine ht ae Tryz.f304 ?_
 unfold fC at hm
 refine z ?_
 obtain⟨hg1,hm⟩:=ah hm
 refine lg (α:=Nat) ae (fun iw=>(gp g b a.length (List.drop iw a) (iw:Int)=some r,⟨39,[(13,.int .i64 iw),(12,.int .i64 ↑a.length),(11,.aK false (List.map (dI aN) a)),(6,.int .i64 0),(0,.aK false (List.map (dI aN) a)),(1,.aK false (List.map (dI aN) b)),(2,.func (.func fn) [] [])]⟩,⟨[(0,ba)],1,0,[],[]⟩,List.length a-iw)) ⟨(0),hm⟩ ?_
 intro i2 hq2
 dsimp only at hq2
 refine z ?_
 refine zd ?_ ?_<;>intro h3
 obtain⟨x3,ex3,ed3⟩:=av h3
 rw[ed3,gp] at hq2
 refine z ?_
 obtain⟨hg4,hq2⟩:=ah hq2
 refine bF (cB _) ex3 rfl (z ?_)
 refine zd ?_ ?_<;>intro h5
 rw[HP h5] at hq2
 cases hq2
 exact mst
 rw[TP h5] at hq2
 obtain⟨j6,x6,en6,ex6,hq2⟩:=az hq2
 refine bP (cB _) en6 ex6 rfl (z ?_)
 obtain⟨v7,e7,hq2⟩:=aa hq2
 refine ct (hg e7) (z ?_)
 refine zn ?_ ?_<;>intro h8
 rw[TP h8] at hq2
 cases hq2
 exact mst
 rw[HP h8] at hq2
 exact bk ⟨i2+1,hq2⟩
 rw[aA h3,gp] at hq2
 obtain⟨hg9,hq2⟩:=ah hq2
 refine zd ?_ ?_<;>intro h10
 rw[HP h10] at hq2
 cases hq2
 exact mst
 rw[TP h10] at hq2
 cases hq2
 exact mst
abbrev pI (rec:bt Va->bt Va->Option Int):Prop:=∀{a b r},rec a b=some r->bp Tryz.prog 212 [.agg (cg aN a),.agg (cg aN b)] fun s=>s= .int .i64 r
theorem Mg {rec:bt Va->bt Va->Option Int} (h:pI rec) {x y:Va} {r:Int} (hm:rec x.v y.v=some r):bp Tryz.prog 319 [.bR (ec x) 0,.bR (ec y) 0] fun s=>s= .int .i64 r:=by
 refine ht ae Tryz.f319 (z ?_)
 replace hm:=aJ hm
 obtain⟨v1,e1,hm⟩:=aa hm
 refine ct (h e1) (z ?_)
 cases hm
 exact mst
theorem Mf {rec:bt Va->bt Va->Option Int} (h:pI rec) {x y:Va} {r:Int} (hm:rec x.d y.d=some r):bp Tryz.prog 320 [.bR (ec x) 0,.bR (ec y) 0] fun s=>s= .int .i64 r:=by
 refine ht ae Tryz.f320 (z ?_)
 replace hm:=aJ hm
 obtain⟨v1,e1,hm⟩:=aa hm
 refine ct (h e1) (z ?_)
 cases hm
 exact mst
def Ak (rec:bt Va->bt Va->Option Int) (x y:Va):Option Int:=tr (rec x.v y.v) (tr (rec x.d y.d) (some 0))
theorem Aj {rec:bt Va->bt Va->Option Int} (h:pI rec) {x y:Va} {r:Int} (hm:Ak rec x y=some r):bp Tryz.prog 296 [.agg (ec x),.agg (ec y)] fun s=>s= .int .i64 r:=by
 refine ht ae Tryz.f296 ?_
 unfold Ak at hm
 unfold tr at hm
 refine z ?_
 refine ci ae Tryz.f254 (z ?_)
 refine gO (z ?_)
 refine bE ae ?_
 refine z ?_
 refine cC (j:=0) rfl (by decide) (z ?_)
 refine⟨_,rfl,?_⟩
 refine z ?_
 obtain⟨v1,e1,hm⟩:=aa hm
 refine bI (Mg h e1) (z ?_)
 refine zn ?_ ?_<;>intro h2
 rw[TP h2] at hm
 refine ei (z ?_)
 cases hm
 exact mst
 rw[HP h2] at hm
 refine bE ae ?_
 refine z ?_
 refine cC (j:=1) rfl (by decide) (z ?_)
 refine⟨_,rfl,?_⟩
 refine z ?_
 obtain⟨v3,e3,hm⟩:=aa hm
 refine bI (Mf h e3) (z ?_)
 refine zn ?_ ?_<;>intro h4
 rw[TP h4] at hm
 refine ei (z ?_)
 cases hm
 exact mst
 rw[HP h4] at hm
 refine bE ae ?_
 refine z ?_
 refine ei (z ?_)
 cases hm
 exact mst
def Qs (x y:aV Va):Option Int:=(aR x.items).bind fun _=>(aR y.items).bind fun _=>wC x.items.length y.items.length
theorem Qr {x y:aV Va} {r:Int} (hm:Qs x y=some r):Has Tryz.prog 292 [.bR (aS aN x) 0,.bR (aS aN y) 0] fun s=>s= .int .i64 r:=by
 refine hs ae Tryz.f292 ?_
 unfold Qs at hm
 refine z ?_
 obtain⟨hg1,hm⟩:=ah hm
 obtain⟨hg2,hm⟩:=ah hm
 replace hm:=aJ hm
 obtain⟨v3,e3,hm⟩:=aa hm
 refine ce (Bt e3) (z ?_)
 cases hm
 exact fc
def Qq (x y:aV Va):Option Int:=(aR x.rest).bind fun _=>(aR y.rest).bind fun _=>um (decide ((x.rest.length:Int)>0)) (decide ((y.rest.length:Int)>0))
theorem Qp {x y:aV Va} {r:Int} (hm:Qq x y=some r):Has Tryz.prog 293 [.bR (aS aN x) 0,.bR (aS aN y) 0] fun s=>s= .int .i64 r:=by
 refine hs ae Tryz.f293 ?_
 unfold Qq at hm
 refine z ?_
 obtain⟨hg1,hm⟩:=ah hm
 obtain⟨hg2,hm⟩:=ah hm
 replace hm:=aJ hm
 obtain⟨v3,e3,hm⟩:=aa hm
 refine ce (Ch e3) (z ?_)
 cases hm
 exact fc
def Qo (rec:bt Va->bt Va->Option Int) (x y:aV Va):Option Int:=(fb x).bind fun p=>(fb y).bind fun q=>fC (Ak rec) p q
theorem Qn {rec:bt Va->bt Va->Option Int} (h:pI rec) {x y:aV Va} {r:Int} (hm:Qo rec x y=some r):bp Tryz.prog 294 [.bR (aS aN x) 0,.bR (aS aN y) 0] fun s=>s= .int .i64 r:=by
 refine ht ae Tryz.f294 ?_
 unfold Qo at hm
 refine z ?_
 refine dg ae [0,1,0,7,15,31] [] (z ?_)
 obtain⟨v1,e1,hm⟩:=aa hm
 refine ce (ia e1) (z ?_)
 obtain⟨v2,e2,hm⟩:=aa hm
 refine ce (ia e2) (z ?_)
 replace hm:=aJ hm
 obtain⟨v3,e3,hm⟩:=aa hm
 refine ct (Vk (Aj h) e3) (z ?_)
 cases hm
 exact mst
def JM (rec:bt Va->bt Va->Option Int) (x y:aV Va):Option Int:=tr (Qs x y) (tr (Qq x y) (tr (Qo rec x y) (some 0)))
theorem Qm {rec:bt Va->bt Va->Option Int} (h:pI rec) {x y:aV Va} {r:Int} (hm:JM rec x y=some r):bp Tryz.prog 260 [.agg (aS aN x),.agg (aS aN y)] fun s=>s= .int .i64 r:=by
 refine ht ae Tryz.f260 ?_
 unfold JM at hm
 unfold tr at hm
 refine z ?_
 refine ci ae Tryz.f254 (z ?_)
 refine gO (z ?_)
 refine bE ae ?_
 refine z ?_
 refine cC (j:=0) rfl (by decide) (z ?_)
 refine⟨_,rfl,?_⟩
 refine z ?_
 obtain⟨v1,e1,hm⟩:=aa hm
 refine b6 (Qr e1) rfl (z ?_)
 refine zn ?_ ?_<;>intro h2
 rw[TP h2] at hm
 refine ei (z ?_)
 cases hm
 exact mst
 rw[HP h2] at hm
 refine bE ae ?_
 refine z ?_
 refine cC (j:=1) rfl (by decide) (z ?_)
 refine⟨_,rfl,?_⟩
 refine z ?_
 obtain⟨v3,e3,hm⟩:=aa hm
 refine b6 (Qp e3) rfl (z ?_)
 refine zn ?_ ?_<;>intro h4
 rw[TP h4] at hm
 refine ei (z ?_)
 cases hm
 exact mst
 rw[HP h4] at hm
 refine bE ae ?_
 refine z ?_
 refine cC (j:=2) rfl (by decide) (z ?_)
 refine⟨_,rfl,?_⟩
 refine z ?_
 obtain⟨v5,e5,hm⟩:=aa hm
 refine bI (Qn h e5) (z ?_)
 refine zn ?_ ?_<;>intro h6
 rw[TP h6] at hm
 refine ei (z ?_)
 cases hm
 exact mst
 rw[HP h6] at hm
 refine bE ae ?_
 refine z ?_
 refine ei (z ?_)
 cases hm
 exact mst
theorem Qv {x y:dy Va} {r:Int} (hm:wz x.label y.label=some r):Has Tryz.prog 300 [.bR (lQ x) 0,.bR (lQ y) 0] fun s=>s= .int .i64 r:=by
 refine hs ae Tryz.f300 (z ?_)
 replace hm:=aJ hm
 obtain⟨v1,e1,hm⟩:=aa hm
 refine ce (I3 e1) (z ?_)
 cases hm
 exact fc
theorem Qu {x y:dy Va} {r:Int} (hm:wC x.dR y.dR=some r):Has Tryz.prog 301 [.bR (lQ x) 0,.bR (lQ y) 0] fun s=>s= .int .i64 r:=by
 refine hs ae Tryz.f301 (z ?_)
 replace hm:=aJ hm
 obtain⟨v1,e1,hm⟩:=aa hm
 refine ce (Bt e1) (z ?_)
 cases hm
 exact fc
theorem Qt {rec:bt Va->bt Va->Option Int} (h:pI rec) {x y:dy Va} {r:Int} (hm:Ak rec x.val y.val=some r):bp Tryz.prog 302 [.bR (lQ x) 0,.bR (lQ y) 0] fun s=>s= .int .i64 r:=by
 refine ht ae Tryz.f302 (z ?_)
 replace hm:=aJ hm
 obtain⟨v1,e1,hm⟩:=aa hm
 refine ct (Aj h e1) (z ?_)
 cases hm
 exact mst
def vcF (rec:bt Va->bt Va->Option Int) (x y:dy Va):Option Int:=tr (wz x.label y.label) (tr (wC x.dR y.dR) (tr (Ak rec x.val y.val) (some 0)))
theorem TT {rec:bt Va->bt Va->Option Int} (h:pI rec) {x y:dy Va} {r:Int} (hm:vcF rec x y=some r):bp Tryz.prog 299 [.agg (lQ x),.agg (lQ y)] fun s=>s= .int .i64 r:=by
 refine ht ae Tryz.f299 ?_
 unfold vcF at hm
 unfold tr at hm
 refine z ?_
 refine ci ae Tryz.f254 (z ?_)
 refine gO (z ?_)
 refine bE ae ?_
 refine z ?_
 refine cC (j:=0) rfl (by decide) (z ?_)
 refine⟨_,rfl,?_⟩
 refine z ?_
 obtain⟨v1,e1,hm⟩:=aa hm
 refine b6 (Qv e1) rfl (z ?_)
 refine zn ?_ ?_<;>intro h2
 rw[TP h2] at hm
 refine ei (z ?_)
 cases hm
 exact mst
 rw[HP h2] at hm
 refine bE ae ?_
 refine z ?_
 refine cC (j:=1) rfl (by decide) (z ?_)
 refine⟨_,rfl,?_⟩
 refine z ?_
 obtain⟨v3,e3,hm⟩:=aa hm
 refine b6 (Qu e3) rfl (z ?_)
 refine zn ?_ ?_<;>intro h4
 rw[TP h4] at hm
 refine ei (z ?_)
 cases hm
 exact mst
 rw[HP h4] at hm
 refine bE ae ?_
 refine z ?_
 refine cC (j:=2) rfl (by decide) (z ?_)
 refine⟨_,rfl,?_⟩
 refine z ?_
 obtain⟨v5,e5,hm⟩:=aa hm
 refine bI (Qt h e5) (z ?_)
 refine zn ?_ ?_<;>intro h6
 rw[TP h6] at hm
 refine ei (z ?_)
 cases hm
 exact mst
 rw[HP h6] at hm
 refine bE ae ?_
 refine z ?_
 refine ei (z ?_)
 cases hm
 exact mst
theorem Qx {x y:cW Va} {r:Int} (hm:EF x.set y.set=some r):bp Tryz.prog 306 [.bR (fI x) 0,.bR (fI y) 0] fun s=>s= .int .i64 r:=by
 refine ht ae Tryz.f306 (z ?_)
 replace hm:=aJ hm
 obtain⟨v1,e1,hm⟩:=aa hm
 refine ct (Bs e1) (z ?_)
 cases hm
 exact mst
theorem Qw {rec:bt Va->bt Va->Option Int} (h:pI rec) {x y:cW Va} {r:Int} (hm:Ak rec x.val y.val=some r):bp Tryz.prog 307 [.bR (fI x) 0,.bR (fI y) 0] fun s=>s= .int .i64 r:=by
 refine ht ae Tryz.f307 (z ?_)
 replace hm:=aJ hm
 obtain⟨v1,e1,hm⟩:=aa hm
 refine ct (Aj h e1) (z ?_)
 cases hm
 exact mst
def vcC (rec:bt Va->bt Va->Option Int) (x y:cW Va):Option Int:=tr (EF x.set y.set) (tr (Ak rec x.val y.val) (some 0))
theorem TU {rec:bt Va->bt Va->Option Int} (h:pI rec) {x y:cW Va} {r:Int} (hm:vcC rec x y=some r):bp Tryz.prog 305 [.agg (fI x),.agg (fI y)] fun s=>s= .int .i64 r:=by
 refine ht ae Tryz.f305 ?_
 unfold vcC at hm
 unfold tr at hm
 refine z ?_
 refine ci ae Tryz.f254 (z ?_)
 refine gO (z ?_)
 refine bE ae ?_
 refine z ?_
 refine cC (j:=0) rfl (by decide) (z ?_)
 refine⟨_,rfl,?_⟩
 refine z ?_
 obtain⟨v1,e1,hm⟩:=aa hm
 refine bI (Qx e1) (z ?_)
 refine zn ?_ ?_<;>intro h2
 rw[TP h2] at hm
 refine ei (z ?_)
 cases hm
 exact mst
 rw[HP h2] at hm
 refine bE ae ?_
 refine z ?_
 refine cC (j:=1) rfl (by decide) (z ?_)
 refine⟨_,rfl,?_⟩
 refine z ?_
 obtain⟨v3,e3,hm⟩:=aa hm
 refine bI (Qw h e3) (z ?_)
 refine zn ?_ ?_<;>intro h4
 rw[TP h4] at hm
 refine ei (z ?_)
 cases hm
 exact mst
 rw[HP h4] at hm
 refine bE ae ?_
 refine z ?_
 refine ei (z ?_)
 cases hm
 exact mst
theorem Ql {rec:bt Va->bt Va->Option Int} (h:pI rec) {x y:aF Va} {r:Int} (hm:fC (vcF rec) x.fields y.fields=some r):bp Tryz.prog 297 [.bR (aG aN x) 0,.bR (aG aN y) 0] fun s=>s= .int .i64 r:=by
 refine ht ae Tryz.f297 (z ?_)
 replace hm:=aJ hm
 obtain⟨v1,e1,hm⟩:=aa hm
 refine ct (Vo (TT h) e1) (z ?_)
 cases hm
 exact mst
theorem Qk {rec:bt Va->bt Va->Option Int} (h:pI rec) {x y:aF Va} {r:Int} (hm:fC (vcC rec) x.aw y.aw=some r):bp Tryz.prog 303 [.bR (aG aN x) 0,.bR (aG aN y) 0] fun s=>s= .int .i64 r:=by
 refine ht ae Tryz.f303 (z ?_)
 replace hm:=aJ hm
 obtain⟨v1,e1,hm⟩:=aa hm
 refine ct (Vp (TU h) e1) (z ?_)
 cases hm
 exact mst
def JL (rec:bt Va->bt Va->Option Int) (x y:aF Va):Option Int:=tr (fC (vcF rec) x.fields y.fields) (tr (fC (vcC rec) x.aw y.aw) (some 0))
theorem Qj {rec:bt Va->bt Va->Option Int} (h:pI rec) {x y:aF Va} {r:Int} (hm:JL rec x y=some r):bp Tryz.prog 263 [.agg (aG aN x),.agg (aG aN y)] fun s=>s= .int .i64 r:=by
 refine ht ae Tryz.f263 ?_
 unfold JL at hm
 unfold tr at hm
 refine z ?_
 refine ci ae Tryz.f254 (z ?_)
 refine gO (z ?_)
 refine bE ae ?_
 refine z ?_
 refine cC (j:=0) rfl (by decide) (z ?_)
 refine⟨_,rfl,?_⟩
 refine z ?_
 obtain⟨v1,e1,hm⟩:=aa hm
 refine bI (Ql h e1) (z ?_)
 refine zn ?_ ?_<;>intro h2
 rw[TP h2] at hm
 refine ei (z ?_)
 cases hm
 exact mst
 rw[HP h2] at hm
 refine bE ae ?_
 refine z ?_
 refine cC (j:=1) rfl (by decide) (z ?_)
 refine⟨_,rfl,?_⟩
 refine z ?_
 obtain⟨v3,e3,hm⟩:=aa hm
 refine bI (Qk h e3) (z ?_)
 refine zn ?_ ?_<;>intro h4
 rw[TP h4] at hm
 refine ei (z ?_)
 cases hm
 exact mst
 rw[HP h4] at hm
 refine bE ae ?_
 refine z ?_
 refine ei (z ?_)
 cases hm
 exact mst
theorem TZ {a b:bt Va} {r:Int} (hm:um a.any b.any=some r):Has Tryz.prog 255 [.bR (cg aN a) 0,.bR (cg aN b) 0] fun s=>s= .int .i64 r:=by
 refine hs ae Tryz.f255 (z ?_)
 replace hm:=aJ hm
 obtain⟨v1,e1,hm⟩:=aa hm
 refine ce (Ch e1) (z ?_)
 cases hm
 exact fc
theorem TY {a b:bt Va} {r:Int} (hm:wy a.sc b.sc=some r):bp Tryz.prog 257 [.bR (cg aN a) 0,.bR (cg aN b) 0] fun s=>s= .int .i64 r:=by
 refine ht ae Tryz.f257 (z ?_)
 replace hm:=aJ hm
 obtain⟨v1,e1,hm⟩:=aa hm
 refine ct (EC e1) (z ?_)
 cases hm
 exact mst
theorem TX {rec:bt Va->bt Va->Option Int} (h:pI rec) {a b:bt Va} {r:Int} (hm:fC (JM rec) a.lists b.lists=some r):bp Tryz.prog 258 [.bR (cg aN a) 0,.bR (cg aN b) 0] fun s=>s= .int .i64 r:=by
 refine ht ae Tryz.f258 (z ?_)
 replace hm:=aJ hm
 obtain⟨v1,e1,hm⟩:=aa hm
 refine ct (Vn (Qm h) e1) (z ?_)
 cases hm
 exact mst
theorem TW {rec:bt Va->bt Va->Option Int} (h:pI rec) {a b:bt Va} {r:Int} (hm:fC (JL rec) a.structs b.structs=some r):bp Tryz.prog 261 [.bR (cg aN a) 0,.bR (cg aN b) 0] fun s=>s= .int .i64 r:=by
 refine ht ae Tryz.f261 (z ?_)
 replace hm:=aJ hm
 obtain⟨v1,e1,hm⟩:=aa hm
 refine ct (Vm (Qj h) e1) (z ?_)
 cases hm
 exact mst
def Cj:Nat->bt Va->bt Va->Option Int
 |0,_,_=>none
 |n+1,a,b=>tr (um a.any b.any) (tr (wy a.sc b.sc) (tr (fC (JM (Cj n)) a.lists b.lists) (tr (fC (JL (Cj n)) a.structs b.structs) (some 0))))
theorem Qi:∀{n:Nat},pI (Cj n):=by
 intro n
 induction n with
 |zero=>intro a b r hm;cases hm
 |succ n ih=>
  intro a b r hm
  refine ht ae Tryz.f212 ?_
  unfold Cj at hm
  unfold tr at hm
  refine z ?_
  refine ci ae Tryz.f254 (z ?_)
  refine gO (z ?_)
  refine bE ae ?_
  refine z ?_
  refine cC (j:=0) rfl (by decide) (z ?_)
  refine⟨_,rfl,?_⟩
  refine z ?_
  obtain⟨v1,e1,hm⟩:=aa hm
  refine b6 (TZ e1) rfl (z ?_)
  refine zn ?_ ?_<;>intro h2
  ·rw[TP h2] at hm
   refine ei (z ?_)
   cases hm
   exact mst
  ·rw[HP h2] at hm
   refine bE ae ?_
   refine z ?_
   refine cC (j:=1) rfl (by decide) (z ?_)
   refine⟨_,rfl,?_⟩
   refine z ?_
   obtain⟨v3,e3,hm⟩:=aa hm
   refine bI (TY e3) (z ?_)
   refine zn ?_ ?_<;>intro h4
   ·rw[TP h4] at hm
    refine ei (z ?_)
    cases hm
    exact mst
   ·rw[HP h4] at hm
    refine bE ae ?_
    refine z ?_
    refine cC (j:=2) rfl (by decide) (z ?_)
    refine⟨_,rfl,?_⟩
    refine z ?_
    obtain⟨v5,e5,hm⟩:=aa hm
    refine bI (TX ih e5) (z ?_)
    refine zn ?_ ?_<;>intro h6
    ·rw[TP h6] at hm
     refine ei (z ?_)
     cases hm
     exact mst
    ·rw[HP h6] at hm
     refine bE ae ?_
     refine z ?_
     refine cC (j:=3) rfl (by decide) (z ?_)
     refine⟨_,rfl,?_⟩
     refine z ?_
     obtain⟨v7,e7,hm⟩:=aa hm
     refine bI (TW ih e7) (z ?_)
     refine zn ?_ ?_<;>intro h8
     ·rw[TP h8] at hm
      refine ei (z ?_)
      cases hm
      exact mst
     ·rw[HP h8] at hm
      refine bE ae ?_
      refine z ?_
      refine ei (z ?_)
      cases hm
      exact mst
def wx (a b:bt Va):Option Int:=(gG a).bind fun x=>if x then(gG b).bind fun y=>if y then Cj qy a b else some 0 else some 0
theorem zF {a b:bt Va} {r:Int} (hm:wx a b=some r):bp Tryz.prog 167 [.agg (cg aN a),.agg (cg aN b)] fun s=>s= .int .i64 r:=by
 refine ht ae Tryz.f167 ?_
 unfold wx at hm
 refine z ?_
 obtain⟨v1,e1,hm⟩:=aa hm
 refine ct (nk e1) (z ?_)
 refine zm ?_ ?_<;>intro h2
 rw[TP (nt h2)] at hm
 cases hm
 exact mst
 rw[HP h2] at hm
 obtain⟨v3,e3,hm⟩:=aa hm
 refine ct (nk e3) (z ?_)
 refine zm ?_ ?_<;>intro h4
 rw[TP (nt h4)] at hm
 cases hm
 exact mst
 rw[HP h4] at hm
 replace hm:=aJ hm
 obtain⟨v5,e5,hm⟩:=aa hm
 refine ct (Qi e5) (z ?_)
 cases hm
 exact mst
section
variable {α:Type}
def fA (g:α->Option Bool):List α->Int->Option Int
 |[],_=>some (-1)
 |x::r,i=>(g x).bind fun c=>if c then some i else fA g r (i+1)
def qn (g:α->Option Bool) (l:List α):Option Int:=(aR l).bind fun _=>fA g l 0
def mP (g:α->Option Bool) (l:List α):Option Bool:=(qn g l).bind fun i=>some (decide (i>=0))
def tf (is:α->α->Option Bool) (b:List α):List α->Option Bool
 |[]=>some true
 |x::r=>(mP (is x) b).bind fun c=>if c then tf is b r else some false
def yc (is:α->α->Option Bool) (a b:List α):Option Bool:=(aR a).bind fun _=>tf is b a
end
theorem UK {fn:FuncId} {cap:List SVal} (hc:aB cap=true) (hw:cH cap=cap) {g:aV Va->Option Bool} (hg:∀{x r},g x=some r->bp Tryz.prog fn (.agg (aS aN x)::cap) fun s=>s= .bool r) {l:List (aV Va)} {r:Int} (hm:qn g l=some r):bp Tryz.prog 65 [.aK false (l.map (aS aN)),.func (.func fn) [] cap] fun s=>s= .int .i64 r:=by
 refine ht ae Tryz.f65 ?_
 unfold qn at hm
 refine z ?_
 obtain⟨hg1,hm⟩:=ah hm
 refine lg (α:=Nat) ae (fun iw=>(fA g (List.drop iw l) (iw:Int)=some r,⟨19,[(8,.int .i64 iw),(7,.int .i64 ↑l.length),(4,.int .i64 0),(0,.aK false (List.map (aS aN) l)),(1,.func (.func fn) [] cap)]⟩,⟨[(0,ba)],1,0,[],[]⟩,List.length l-iw)) ⟨(0),hm⟩ ?_
 intro i2 hq2
 dsimp only at hq2
 refine z ?_
 refine zd ?_ ?_<;>intro h3
 obtain⟨x3,ex3,ed3⟩:=av h3
 rw[ed3,fA] at hq2
 refine z ?_
 refine bx ex3 rfl (z ?_)
 obtain⟨v4,e4,hq2⟩:=aa hq2
 refine jb (hg e4) (by(simp only[cH,kh,hw];try rfl)) rfl (z ?_)
 refine zr ?_ ?_<;>intro h5
 rw[HP h5] at hq2
 cases hq2
 exact mst
 rw[TP (nt h5)] at hq2
 exact bk ⟨i2+1,hq2⟩
 rw[aA h3,fA] at hq2
 cases hq2
 exact mst
theorem OK {fn:FuncId} {cap:List SVal} (hc:aB cap=true) (hw:cH cap=cap) {g:aV Va->Option Bool} (hg:∀{x r},g x=some r->bp Tryz.prog fn (.agg (aS aN x)::cap) fun s=>s= .bool r) {l:List (aV Va)} {r:Bool} (hm:mP g l=some r):bp Tryz.prog 37 [.aK false (l.map (aS aN)),.func (.func fn) [] cap] fun s=>s= .bool r:=by
 refine ht ae Tryz.f37 ?_
 unfold mP at hm
 refine z ?_
 obtain⟨v1,e1,hm⟩:=aa hm
 refine ct (UK hc hw hg e1) (z ?_)
 cases hm
 exact mst
theorem Sw {fn:FuncId} {is:aV Va->aV Va->Option Bool} (hg:∀{x y r},is x y=some r->bp Tryz.prog fn [.agg (aS aN x),.agg (aS aN y)] fun s=>s= .bool r) {x y:aV Va} {r:Bool} (hm:is x y=some r):bp Tryz.prog 176 [.agg (aS aN y),.bR [.func (.func fn) [] []] 0,.bR (aS aN x) 0] fun s=>s= .bool r:=by
 refine ht ae Tryz.f176 (z ?_)
 replace hm:=aJ hm
 obtain⟨v1,e1,hm⟩:=aa hm
 refine ct (hg e1) (z ?_)
 cases hm
 exact mst
theorem Vf {fn:FuncId} {is:aV Va->aV Va->Option Bool} (hg:∀{x y r},is x y=some r->bp Tryz.prog fn [.agg (aS aN x),.agg (aS aN y)] fun s=>s= .bool r) {a b:List (aV Va)} {r:Bool} (hm:yc is a b=some r):bp Tryz.prog 133 [.aK false (a.map (aS aN)),.aK false (b.map (aS aN)),.func (.func fn) [] []] fun s=>s= .bool r:=by
 refine ht ae Tryz.f133 ?_
 unfold yc at hm
 refine z ?_
 obtain⟨hg1,hm⟩:=ah hm
 refine sy 1 rfl rfl ?_
 refine lg (α:=Nat) ae (fun iw=>(tf is b (List.drop iw a)=some r,⟨20,[(11,.int .i64 iw),(10,.int .i64 ↑a.length),(9,.aK false (List.map (aS aN) a)),(6,.bool false),(5,.ptr 1 0),(1,.aK false (List.map (aS aN) b))]⟩,⟨[(1,.still [.func (.func fn) [] []]),(0,ba)],2,0,[],[]⟩,List.length a-iw)) ⟨(0),hm⟩ ?_
 intro i2 hq2
 dsimp only at hq2
 refine z ?_
 refine zd ?_ ?_<;>intro h3
 obtain⟨x3,ex3,ed3⟩:=av h3
 rw[ed3,tf] at hq2
 refine z ?_
 refine bx ex3 rfl (z ?_)
 obtain⟨v4,e4,hq2⟩:=aa hq2
 refine bI (OK (by simp only[aB,closed,aL,cN,bN,cj,eM,cl,dF,V3]) rfl (Sw hg) e4) (z ?_)
 refine zm ?_ ?_<;>intro h5
 rw[TP (nt h5)] at hq2
 cases hq2
 exact mst
 rw[HP h5] at hq2
 exact bk ⟨i2+1,hq2⟩
 rw[aA h3,tf] at hq2
 cases hq2
 exact mst
theorem UI {fn:FuncId} {cap:List SVal} (hc:aB cap=true) (hw:cH cap=cap) {g:aF Va->Option Bool} (hg:∀{x r},g x=some r->bp Tryz.prog fn (.agg (aG aN x)::cap) fun s=>s= .bool r) {l:List (aF Va)} {r:Int} (hm:qn g l=some r):bp Tryz.prog 67 [.aK false (l.map (aG aN)),.func (.func fn) [] cap] fun s=>s= .int .i64 r:=by
 refine ht ae Tryz.f67 ?_
 unfold qn at hm
 refine z ?_
 obtain⟨hg1,hm⟩:=ah hm
 refine lg (α:=Nat) ae (fun iw=>(fA g (List.drop iw l) (iw:Int)=some r,⟨19,[(8,.int .i64 iw),(7,.int .i64 ↑l.length),(4,.int .i64 0),(0,.aK false (List.map (aG aN) l)),(1,.func (.func fn) [] cap)]⟩,⟨[(0,ba)],1,0,[],[]⟩,List.length l-iw)) ⟨(0),hm⟩ ?_
 intro i2 hq2
 dsimp only at hq2
 refine z ?_
 refine zd ?_ ?_<;>intro h3
 obtain⟨x3,ex3,ed3⟩:=av h3
 rw[ed3,fA] at hq2
 refine z ?_
 refine bx ex3 rfl (z ?_)
 obtain⟨v4,e4,hq2⟩:=aa hq2
 refine jb (hg e4) (by(simp only[cH,kh,hw];try rfl)) rfl (z ?_)
 refine zr ?_ ?_<;>intro h5
 rw[HP h5] at hq2
 cases hq2
 exact mst
 rw[TP (nt h5)] at hq2
 exact bk ⟨i2+1,hq2⟩
 rw[aA h3,fA] at hq2
 cases hq2
 exact mst
theorem OJ {fn:FuncId} {cap:List SVal} (hc:aB cap=true) (hw:cH cap=cap) {g:aF Va->Option Bool} (hg:∀{x r},g x=some r->bp Tryz.prog fn (.agg (aG aN x)::cap) fun s=>s= .bool r) {l:List (aF Va)} {r:Bool} (hm:mP g l=some r):bp Tryz.prog 41 [.aK false (l.map (aG aN)),.func (.func fn) [] cap] fun s=>s= .bool r:=by
 refine ht ae Tryz.f41 ?_
 unfold mP at hm
 refine z ?_
 obtain⟨v1,e1,hm⟩:=aa hm
 refine ct (UI hc hw hg e1) (z ?_)
 cases hm
 exact mst
theorem Su {fn:FuncId} {is:aF Va->aF Va->Option Bool} (hg:∀{x y r},is x y=some r->bp Tryz.prog fn [.agg (aG aN x),.agg (aG aN y)] fun s=>s= .bool r) {x y:aF Va} {r:Bool} (hm:is x y=some r):bp Tryz.prog 177 [.agg (aG aN y),.bR [.func (.func fn) [] []] 0,.bR (aG aN x) 0] fun s=>s= .bool r:=by
 refine ht ae Tryz.f177 (z ?_)
 replace hm:=aJ hm
 obtain⟨v1,e1,hm⟩:=aa hm
 refine ct (hg e1) (z ?_)
 cases hm
 exact mst
theorem Ve {fn:FuncId} {is:aF Va->aF Va->Option Bool} (hg:∀{x y r},is x y=some r->bp Tryz.prog fn [.agg (aG aN x),.agg (aG aN y)] fun s=>s= .bool r) {a b:List (aF Va)} {r:Bool} (hm:yc is a b=some r):bp Tryz.prog 134 [.aK false (a.map (aG aN)),.aK false (b.map (aG aN)),.func (.func fn) [] []] fun s=>s= .bool r:=by
 refine ht ae Tryz.f134 ?_
 unfold yc at hm
 refine z ?_
 obtain⟨hg1,hm⟩:=ah hm
 refine sy 1 rfl rfl ?_
 refine lg (α:=Nat) ae (fun iw=>(tf is b (List.drop iw a)=some r,⟨20,[(11,.int .i64 iw),(10,.int .i64 ↑a.length),(9,.aK false (List.map (aG aN) a)),(6,.bool false),(5,.ptr 1 0),(1,.aK false (List.map (aG aN) b))]⟩,⟨[(1,.still [.func (.func fn) [] []]),(0,ba)],2,0,[],[]⟩,List.length a-iw)) ⟨(0),hm⟩ ?_
 intro i2 hq2
 dsimp only at hq2
 refine z ?_
 refine zd ?_ ?_<;>intro h3
 obtain⟨x3,ex3,ed3⟩:=av h3
 rw[ed3,tf] at hq2
 refine z ?_
 refine bx ex3 rfl (z ?_)
 obtain⟨v4,e4,hq2⟩:=aa hq2
 refine bI (OJ (by simp only[aB,closed,aL,cN,bN,cj,eM,cl,dF,V3]) rfl (Su hg) e4) (z ?_)
 refine zm ?_ ?_<;>intro h5
 rw[TP (nt h5)] at hq2
 cases hq2
 exact mst
 rw[HP h5] at hq2
 exact bk ⟨i2+1,hq2⟩
 rw[aA h3,tf] at hq2
 cases hq2
 exact mst
theorem UL {fn:FuncId} {cap:List SVal} (hc:aB cap=true) (hw:cH cap=cap) {g:cW Va->Option Bool} (hg:∀{x r},g x=some r->Has Tryz.prog fn (.agg (fI x)::cap) fun s=>s= .bool r) {l:List (cW Va)} {r:Int} (hm:qn g l=some r):Has Tryz.prog 160 [.aK false (l.map (dI aN)),.func (.func fn) [] cap] fun s=>s= .int .i64 r:=by
 refine hs ae Tryz.f160 ?_
 unfold qn at hm
 refine z ?_
 obtain⟨hg1,hm⟩:=ah hm
 refine lg (α:=Nat) ae (fun iw=>(fA g (List.drop iw l) (iw:Int)=some r,⟨19,[(8,.int .i64 iw),(7,.int .i64 ↑l.length),(4,.int .i64 0),(0,.aK false (List.map (dI aN) l)),(1,.func (.func fn) [] cap)]⟩,⟨[],0,0,[],[]⟩,List.length l-iw)) ⟨(0),hm⟩ ?_
 intro i2 hq2
 dsimp only at hq2
 refine z ?_
 refine zd ?_ ?_<;>intro h3
 obtain⟨x3,ex3,ed3⟩:=av h3
 rw[ed3,fA] at hq2
 refine z ?_
 refine bF (cB _) ex3 rfl (z ?_)
 obtain⟨v4,e4,hq2⟩:=aa hq2
 refine kO (hg e4) (by(simp only[cH,kh,hw];try rfl)) (z ?_)
 refine zr ?_ ?_<;>intro h5
 rw[HP h5] at hq2
 cases hq2
 exact fc
 rw[TP (nt h5)] at hq2
 exact bk ⟨i2+1,hq2⟩
 rw[aA h3,fA] at hq2
 cases hq2
 exact fc
abbrev Tf (rec:bt Va->bt Va->Option Bool):Prop:=∀{a b r},rec a b=some r->bp Tryz.prog 101 [.agg (cg aN a),.agg (cg aN b)] fun s=>s= .bool r
def jQ (rec:bt Va->bt Va->Option Bool) (x y:Va):Option Bool:=(rec x.v y.v).bind fun c=>if c then rec x.d y.d else some false
theorem nO {rec:bt Va->bt Va->Option Bool} (h:Tf rec) {x y:Va} {r:Bool} (hm:jQ rec x y=some r):bp Tryz.prog 168 [.agg (ec x),.agg (ec y)] fun s=>s= .bool r:=by
 refine ht ae Tryz.f168 ?_
 unfold jQ at hm
 refine z ?_
 obtain⟨v1,e1,hm⟩:=aa hm
 refine ct (h e1) (z ?_)
 refine zr ?_ ?_<;>intro h2
 rw[HP h2] at hm
 replace hm:=aJ hm
 obtain⟨v3,e3,hm⟩:=aa hm
 refine ct (h e3) (z ?_)
 cases hm
 exact mst
 rw[TP (nt h2)] at hm
 cases hm
 exact mst
def lbE (rec:bt Va->bt Va->Option Bool) (a b:aV Va):Option Bool:=(aR a.rest).bind fun _=>if(a.rest.length:Int)=0 then some true else(cJ a.rest 0).bind fun x=>(cJ b.rest 0).bind fun y=>jQ rec x y
def Gt (rec:bt Va->bt Va->Option Bool) (a b:aV Va):List Va->Int->Option Bool
 |[],_=>lbE rec a b
 |x::r,i=>(item b i).bind fun p=>(jQ rec x p.1).bind fun c=>if c then Gt rec a b r (i+1) else some false
def RH (rec:bt Va->bt Va->Option Bool) (a b:aV Va):Option Bool:=(aR b.rest).bind fun _=>(aR a.items).bind fun _=>(aR b.items).bind fun _=>
 if(a.items.length:Int)<b.items.length then some false else if(b.rest.length:Int)>0 then Gt rec a b a.items 0
 else if(a.items.length:Int)>b.items.length then some false else(aR a.rest).bind fun _=>if(a.rest.length:Int)>0 then some false else Gt rec a b a.items 0
theorem NS {rec:bt Va->bt Va->Option Bool} (h:Tf rec) {x y:aV Va} {r:Bool} (hm:RH rec x y=some r):bp Tryz.prog 127 [.agg (aS aN x),.agg (aS aN y)] fun s=>s= .bool r:=by
 refine ht ae Tryz.f127 ?_
 unfold RH at hm
 refine z ?_
 obtain⟨hg1,hm⟩:=ah hm
 obtain⟨hg2,hm⟩:=ah hm
 obtain⟨hg3,hm⟩:=ah hm
 refine zd ?_ ?_<;>intro h4
 rw[HP h4] at hm
 cases hm
 exact mst
 rw[TP h4] at hm
 refine zn ?_ ?_<;>intro h5
 rw[TP h5] at hm
 refine zd ?_ ?_<;>intro h6
 rw[HP h6] at hm
 cases hm
 exact mst
 rw[TP h6] at hm
 obtain⟨hg7,hm⟩:=ah hm
 refine zd ?_ ?_<;>intro h8
 rw[HP h8] at hm
 cases hm
 exact mst
 rw[TP h8] at hm
 refine lg (α:=Nat) ae (fun iw=>(Gt rec x y (List.drop iw x.items) (iw:Int)=some r,⟨74,[(43,.int .i64 iw),(42,.int .i64 ↑x.items.length),(41,.aK false (List.map aN x.items)),(4,.bool false),(3,.ptr 2 0),(2,.ptr 1 0)]⟩,⟨[(2,.cells (aS aN y)),(1,.cells (aS aN x)),(0,ba)],3,0,[],[]⟩,List.length x.items-iw)) ⟨(0),hm⟩ ?_
 intro i9 hq9
 dsimp only at hq9
 refine z ?_
 refine zd ?_ ?_<;>intro h10
 obtain⟨x10,ex10,ed10⟩:=av h10
 rw[ed10,Gt] at hq9
 refine z ?_
 refine bF (cA _) ex10 rfl (z ?_)
 obtain⟨v11,e11,hq9⟩:=aa hq9
 refine ce (A9 e11) (z ?_)
 obtain⟨v12,e12,hq9⟩:=aa hq9
 refine ct (nO h e12) (z ?_)
 refine zm ?_ ?_<;>intro h13
 rw[TP (nt h13)] at hq9
 cases hq9
 exact mst
 rw[HP h13] at hq9
 exact bk ⟨i9+1,hq9⟩
 rw[aA h10,Gt] at hq9
 unfold lbE at hq9
 refine z ?_
 refine dg ae [0,1,3,7,15,31,63,127,255,31,543,1567,3615,8191,16383,32767] [] (z ?_)
 obtain⟨hg14,hq9⟩:=ah hq9
 have h15:((↑x.rest.length:Int)=0):=by omega
 refine LA h15 (z ?_)
 rw[HP h15] at hq9
 cases hq9
 exact mst
 rw[HP h5] at hm
 refine lg (α:=Nat) ae (fun iw=>(Gt rec x y (List.drop iw x.items) (iw:Int)=some r,⟨74,[(43,.int .i64 iw),(42,.int .i64 ↑x.items.length),(41,.aK false (List.map aN x.items)),(4,.bool false),(3,.ptr 2 0),(2,.ptr 1 0)]⟩,⟨[(2,.cells (aS aN y)),(1,.cells (aS aN x)),(0,ba)],3,0,[],[]⟩,List.length x.items-iw)) ⟨(0),hm⟩ ?_
 intro i16 hq16
 dsimp only at hq16
 refine z ?_
 refine zd ?_ ?_<;>intro h17
 obtain⟨x17,ex17,ed17⟩:=av h17
 rw[ed17,Gt] at hq16
 refine z ?_
 refine bF (cA _) ex17 rfl (z ?_)
 obtain⟨v18,e18,hq16⟩:=aa hq16
 refine ce (A9 e18) (z ?_)
 obtain⟨v19,e19,hq16⟩:=aa hq16
 refine ct (nO h e19) (z ?_)
 refine zm ?_ ?_<;>intro h20
 rw[TP (nt h20)] at hq16
 cases hq16
 exact mst
 rw[HP h20] at hq16
 exact bk ⟨i16+1,hq16⟩
 rw[aA h17,Gt] at hq16
 unfold lbE at hq16
 refine z ?_
 refine dg ae [0,1,3,7,15,31,63,127,255,31,543,1567,3615,8191,16383,32767] [] (z ?_)
 obtain⟨hg21,hq16⟩:=ah hq16
 refine zd ?_ ?_<;>intro h22
 rw[HP h22] at hq16
 cases hq16
 exact mst
 rw[TP h22] at hq16
 obtain⟨j23,x23,en23,ex23,hq16⟩:=az hq16
 refine bP (cA _) en23 ex23 rfl (z ?_)
 obtain⟨j24,x24,en24,ex24,hq16⟩:=az hq16
 refine bP (cA _) en24 ex24 rfl (z ?_)
 replace hq16:=aJ hq16
 obtain⟨v25,e25,hq16⟩:=aa hq16
 refine ct (nO h e25) (z ?_)
 cases hq16
 exact mst
def Tk (rec:bt Va->bt Va->Option Bool) (a b:aF Va) (f:dy Va):Option Bool:=(view a f.label).bind fun x=>(view b f.label).bind fun y=>if x.2>y.2 then some false else jQ rec x.1 y.1
def uO (rec:bt Va->bt Va->Option Bool) (x:cW Va):List (cW Va)->Option Bool
 |[]=>some true
 |y::r=>(jQ rec x.val y.val).bind fun c=>if c then uO rec x r else(th x.set y.set).bind fun l=>(aR l).bind fun _=>if(l.length:Int)>0 then some false else uO rec x r
def Q0 (rec:bt Va->bt Va->Option Bool) (kb:List (cW Va)):List (cW Va)->Option Bool
 |[]=>some true
 |x::r=>(aR kb).bind fun _=>(uO rec x kb).bind fun c=>if c then Q0 rec kb r else some false
def xL (rec:bt Va->bt Va->Option Bool) (a b:aF Va):List (dy Va)->Option Bool
 |[]=>(aR a.aw).bind fun _=>Q0 rec b.aw a.aw
 |f::r=>(Tk rec a b f).bind fun c=>if c then xL rec a b r else some false
def xN (rec:bt Va->bt Va->Option Bool) (a b:aF Va):List (dy Va)->Option Bool
 |[]=>(aR b.fields).bind fun _=>xL rec a b b.fields
 |f::r=>(Tk rec a b f).bind fun c=>if c then xN rec a b r else some false
def QZ (rec:bt Va->bt Va->Option Bool) (a b:aF Va):Option Bool:=(aR a.fields).bind fun _=>xN rec a b a.fields
theorem MO {rec:bt Va->bt Va->Option Bool} (h:Tf rec) {x y:aF Va} {r:Bool} (hm:QZ rec x y=some r):bp Tryz.prog 130 [.agg (aG aN x),.agg (aG aN y)] fun s=>s= .bool r:=by
 refine ht ae Tryz.f130 ?_
 unfold QZ at hm
 refine z ?_
 refine dg ae [0,1,0,4,12,0,32,96,255,0,512,2047,4095,0] [] (z ?_)
 obtain⟨hg1,hm⟩:=ah hm
 refine⟨0,_,rfl,rfl,rfl,Wd _,by simp only[V4];omega,?_⟩
 refine z ?_
 refine Ha (z ?_)
 refine gO (z ?_)
 refine bE ae ?_
 refine z ?_
 refine cC (j:=0) rfl (by simp) (z ?_)
 refine⟨_,rfl,?_⟩
 refine z ?_
 refine lg (α:=Nat) ae (fun iw=>(xN rec x y (List.drop iw x.fields)=some r,⟨97,[(36,.int .i64 iw),(35,SVal.int IntKind.i64 ↑x.fields.length),(34,SVal.aK false (List.map (cZ aN) x.fields)),(6,SVal.aK false (List.map (cZ aN) x.fields)),(33,SVal.aK false (List.map (cZ aN) x.fields)),(32,SVal.fv 3 0 0 0),(30,SVal.int IntKind.i64 0),(29,SVal.int IntKind.i64 ↑[[SVal.aK false (List.map (cZ aN) x.fields)],[SVal.aK false (List.map (cZ aN) y.fields)]].length),(28,SVal.own 3 0),(4,SVal.bool false),(3,SVal.ptr 2 0),(2,SVal.ptr 1 0)]⟩,⟨[(3,bo.row 1 [[SVal.aK false (List.map (cZ aN) x.fields)],[SVal.aK false (List.map (cZ aN) y.fields)]] 0 false),(2,bo.cells (aG aN y)),(1,bo.cells (aG aN x)),(0,ba)],4,0,[],[]⟩,List.length x.fields-iw)) ⟨(0),hm⟩ ?_
 intro i2 hq2
 dsimp only at hq2
 refine z ?_
 refine zd ?_ ?_<;>intro h3
 obtain⟨x3,ex3,ed3⟩:=av h3
 rw[ed3,xN] at hq2
 unfold Tk at hq2
 rw[VY] at hq2
 refine z ?_
 refine bF (cP _) ex3 rfl (z ?_)
 obtain⟨v4,e4,hq2⟩:=aa hq2
 refine ce (pN e4) ?_
 rw[VY] at hq2
 refine z ?_
 obtain⟨v5,e5,hq2⟩:=aa hq2
 refine ce (pN e5) (z ?_)
 refine zd ?_ ?_<;>intro h6
 rw[HP h6] at hq2
 dsimp only[Option.bind_some] at hq2
 rw[TP Wr] at hq2
 cases hq2
 exact mst
 rw[TP h6] at hq2
 obtain⟨v7,e7,hq2⟩:=aa hq2
 refine ct (nO h e7) (z ?_)
 refine zm ?_ ?_<;>intro h8
 rw[TP (nt h8)] at hq2
 cases hq2
 exact mst
 rw[HP h8] at hq2
 exact bk ⟨i2+1,hq2⟩
 rw[aA h3,xN] at hq2
 refine bE ae ?_
 refine z ?_
 obtain⟨hg9,hq2⟩:=ah hq2
 refine cC (j:=1) rfl (by simp) (z ?_)
 refine⟨_,rfl,?_⟩
 refine z ?_
 refine bd rfl rfl ?_
 refine lg (α:=Nat) ae (fun iw=>(xL rec x y (List.drop iw y.fields)=some r,⟨97,[(36,.int .i64 iw),(35,SVal.int IntKind.i64 ↑y.fields.length),(34,SVal.aK false (List.map (cZ aN) y.fields)),(6,SVal.aK false (List.map (cZ aN) y.fields)),(33,SVal.aK false (List.map (cZ aN) y.fields)),(32,SVal.fv 3 0 1 0),(30,SVal.int IntKind.i64 (0+1)),(64,SVal.int IntKind.i64 (0+1)),(29,SVal.int IntKind.i64 ↑[[SVal.aK false (List.map (cZ aN) x.fields)],[SVal.aK false (List.map (cZ aN) y.fields)]].length),(28,SVal.own 3 0),(4,SVal.bool false),(3,SVal.ptr 2 0),(2,SVal.ptr 1 0)]⟩,⟨[(3,bo.row 1 [[SVal.aK false (List.map (cZ aN) x.fields)],[SVal.aK false (List.map (cZ aN) y.fields)]] 0 false),(2,bo.cells (aG aN y)),(1,bo.cells (aG aN x)),(0,ba)],4,0,[],[]⟩,List.length y.fields-iw)) ⟨(0),hq2⟩ ?_
 intro i10 hq10
 dsimp only at hq10
 refine z ?_
 refine zd ?_ ?_<;>intro h11
 obtain⟨x11,ex11,ed11⟩:=av h11
 rw[ed11,xL] at hq10
 unfold Tk at hq10
 rw[VY] at hq10
 refine z ?_
 refine bF (cP _) ex11 rfl (z ?_)
 obtain⟨v12,e12,hq10⟩:=aa hq10
 refine ce (pN e12) ?_
 rw[VY] at hq10
 refine z ?_
 obtain⟨v13,e13,hq10⟩:=aa hq10
 refine ce (pN e13) (z ?_)
 refine zd ?_ ?_<;>intro h14
 rw[HP h14] at hq10
 dsimp only[Option.bind_some] at hq10
 rw[TP Wr] at hq10
 cases hq10
 exact mst
 rw[TP h14] at hq10
 obtain⟨v15,e15,hq10⟩:=aa hq10
 refine ct (nO h e15) (z ?_)
 refine zm ?_ ?_<;>intro h16
 rw[TP (nt h16)] at hq10
 cases hq10
 exact mst
 rw[HP h16] at hq10
 exact bk ⟨i10+1,hq10⟩
 rw[aA h11,xL] at hq10
 refine bE ae ?_
 refine z ?_
 obtain⟨hg17,hq10⟩:=ah hq10
 refine bd rfl rfl ?_
 refine lg (α:=Nat) ae (fun iw=>(Q0 rec y.aw (List.drop iw x.aw)=some r,⟨97,[(68,.int .i64 iw),(67,SVal.int IntKind.i64 ↑x.aw.length),(66,SVal.aK false (List.map (dI aN) x.aw)),(4,SVal.bool false),(3,SVal.ptr 2 0)]⟩,⟨[(3,bo.row 1 [[SVal.aK false (List.map (cZ aN) x.fields)],[SVal.aK false (List.map (cZ aN) y.fields)]] 0 false),(2,bo.cells (aG aN y)),(1,bo.cells (aG aN x)),(0,ba)],4,0,[],[]⟩,List.length x.aw-iw)) ⟨(0),hq10⟩ ?_
 intro i18 hq18
 dsimp only at hq18
 refine z ?_
 refine zd ?_ ?_<;>intro h19
 obtain⟨x19,ou,ed19⟩:=av h19
 rw[ed19,Q0] at hq18
 refine z ?_
 obtain⟨hg20,hq18⟩:=ah hq18
 refine bF (cB _) ou rfl (z ?_)
 obtain⟨v21,hv21,hq18⟩:=aa hq18
 refine lg (α:=Nat) ae (fun iw=>(uO rec x19 (List.drop iw y.aw)=some v21,⟨97,[(75,.int .i64 iw),(74,SVal.int IntKind.i64 ↑y.aw.length),(73,SVal.aK false (List.map (dI aN) y.aw)),(14,SVal.ptr 4 0),(68,SVal.int IntKind.i64 ↑i18),(67,SVal.int IntKind.i64 ↑x.aw.length),(66,SVal.aK false (List.map (dI aN) x.aw)),(4,SVal.bool false),(3,SVal.ptr 2 0)]⟩,⟨[(4,bo.cells (fI x19)),(3,bo.row 1 [[SVal.aK false (List.map (cZ aN) x.fields)],[SVal.aK false (List.map (cZ aN) y.fields)]] 0 false),(2,bo.cells (aG aN y)),(1,bo.cells (aG aN x)),(0,ba)],5,0,[],[]⟩,List.length y.aw-iw)) ⟨(0),hv21⟩ ?_
 intro i21 hq21
 dsimp only at hq21
 refine z ?_
 refine zd ?_ ?_<;>intro h22
 obtain⟨x22,ex22,ed22⟩:=av h22
 rw[ed22,uO] at hq21
 refine z ?_
 refine bF (cB _) ex22 rfl (z ?_)
 obtain⟨v23,e23,hq21⟩:=aa hq21
 refine ct (nO h e23) (z ?_)
 refine zm ?_ ?_<;>intro h24
 rw[TP (nt h24)] at hq21
 obtain⟨v25,e25,hq21⟩:=aa hq21
 refine ct (SY e25) (z ?_)
 obtain⟨hg26,hq21⟩:=ah hq21
 refine zd ?_ ?_<;>intro h27
 rw[HP h27] at hq21
 cases hq21
 rw[TP Wr] at hq18
 cases hq18
 exact mst
 rw[TP h27] at hq21
 exact bk ⟨i21+1,hq21⟩
 rw[HP h24] at hq21
 exact bk ⟨i21+1,hq21⟩
 rw[aA h22,uO] at hq21
 cases hq21
 rw[HP rfl] at hq18
 exact bk ⟨i18+1,hq18⟩
 rw[aA h19,Q0] at hq18
 cases hq18
 exact mst
def iD:Nat->bt Va->bt Va->Option Bool
 |0,_,_=>none
 |n+1,a,b=>if a.any then some b.any else if b.any then some b.any else(mi (.mk a zV) (.mk b zV)).bind fun c=>if c then some true else(fE a.sc b.sc).bind fun c=>if c then
   (yc (RH (iD n)) a.lists b.lists).bind fun c=>if c then yc (QZ (iD n)) a.structs b.structs else some false else some false
theorem BM:∀{n:Nat},Tf (iD n):=by
 intro n
 induction n with
 |zero=>intro a b r hm;cases hm
 |succ n ih=>
  intro a b r hm
  refine ht ae Tryz.f101 ?_
  unfold iD at hm
  refine z ?_
  refine zr ?_ ?_<;>intro h1
  ·rw[HP h1] at hm
   cases hm
   exact mst
  ·rw[TP (nt h1)] at hm
   refine zr ?_ ?_<;>intro h2
   ·rw[HP h2] at hm
    cases hm
    exact mst
   ·rw[TP (nt h2)] at hm
    obtain⟨v3,e3,hm⟩:=aa hm
    refine ce (uP e3) (z ?_)
    refine zr ?_ ?_<;>intro h4
    ·rw[HP h4] at hm
     cases hm
     exact mst
    ·rw[TP (nt h4)] at hm
     obtain⟨v5,e5,hm⟩:=aa hm
     refine ct (oV e5) (z ?_)
     refine zm ?_ ?_<;>intro h6
     ·rw[TP (nt h6)] at hm
      cases hm
      exact mst
     ·rw[HP h6] at hm
      obtain⟨v7,e7,hm⟩:=aa hm
      refine ct (Vf (NS ih) e7) (z ?_)
      refine zr ?_ ?_<;>intro h8
      ·rw[HP h8] at hm
       replace hm:=aJ hm
       obtain⟨v9,e9,hm⟩:=aa hm
       refine ct (Ve (MO ih) e9) (z ?_)
       cases hm
       exact mst
      ·rw[TP (nt h8)] at hm
       cases hm
       exact mst
/-! list cases -/
abbrev VQ (cv:Va->Option (Va×Bool)):Prop:=∀{x r},cv x=some r->bp Tryz.prog 76 [.agg (ec x)] fun s=>s= .dZ [.agg (ec r.1),.bool r.2]
def oR (cv:Va->Option (Va×Bool)) (is:Bool) (items:List Va):List Va->List Va->Option (aV Va×Bool×Bool)
 |[],out=>some (⟨items,out⟩,is,true)
 |x::r,out=>(cv x).bind fun p=>if p.2 then(mI p.1.v).bind fun b=>if b then oR cv is items r out else(push out p.1).bind fun out=>oR cv is items r out else some (⟨[],[]⟩,false,false)
def LX (cv:Va->Option (Va×Bool)) (rest:List Va):List Va->Bool->List Va->Option (aV Va×Bool×Bool)
 |[],is,out=>(aR rest).bind fun _=>oR cv is out rest []
 |x::r,is,out=>(cv x).bind fun p=>if p.2 then if is then(mI p.1.v).bind fun b=>(push out p.1).bind fun out=>LX cv rest r (!b) out else(push out p.1).bind fun out=>LX cv rest r false out
  else some (⟨[],[]⟩,false,false)
def Ln (cv:Va->Option (Va×Bool)) (c:aV Va):Option (aV Va×Bool×Bool):=(aR c.items).bind fun _=>LX cv c.rest c.items true []
theorem SK {cv:Va->Option (Va×Bool)} (h:VQ cv) {c:aV Va} {r:aV Va×Bool×Bool} (hm:Ln cv c=some r):bp Tryz.prog 124 [.agg (aS aN c)] fun s=>s= .dZ [.agg (aS aN r.1),.bool r.2.1,.bool r.2.2]:=by
 refine ht ae Tryz.f124 ?_
 unfold Ln at hm
 refine z ?_
 obtain⟨hg1,hm⟩:=ah hm
 refine bK 3 0 18 rfl rfl ?_
 refine lg (α:=Nat×Bool×List Va×Nat) ae (fun(iw,s1,s2,ts2)=>(LX cv c.rest (List.drop iw c.items) s1 s2=some r,⟨72,[(18,.int .i64 iw),(17,.int .i64 ↑c.items.length),(16,.aK false (List.map aN c.items)),(6,.bool s1),(5,.ptr 3 0),(4,.bool false),(3,.bool false),(2,.ptr 2 0),(1,.ptr 1 0)]⟩,⟨[(4,.row 18 (s2.map aN) ts2 false),(3,.cells [.own 4 ts2,.aD]),(2,.cells [.aD,.aD]),(1,.cells (aS aN c)),(0,ba)],5,0,[],[]⟩,List.length c.items-iw)) ⟨(0,_,_,(0)),hm⟩ ?_
 rintro⟨i2,s1_2,s2_2,ts2_2⟩ hq2
 dsimp only at hq2
 refine z ?_
 refine zd ?_ ?_<;>intro h3
 obtain⟨x3,ex3,ed3⟩:=av h3
 rw[ed3,LX] at hq2
 refine z ?_
 refine bF (cA _) ex3 rfl (z ?_)
 obtain⟨v4,e4,hq2⟩:=aa hq2
 refine ct (h e4) (z ?_)
 refine zm ?_ ?_<;>intro h5
 rw[TP (nt h5)] at hq2
 cases hq2
 refine a8 (z ?_)
 exact mt
 rw[HP h5] at hq2
 refine zr ?_ ?_<;>intro h6
 rw[HP h6] at hq2
 obtain⟨v7,e7,hq2⟩:=aa hq2
 refine ct (kA e7) (z ?_)
 obtain⟨hg8,hq2⟩:=aC hq2
 refine z ?_
 refine aM v4.fst (cA _) (z ?_)
 exact bk ⟨(i2+1,_,_,(ts2_2+1)),hq2⟩
 rw[TP (nt h6)] at hq2
 obtain⟨hg9,hq2⟩:=aC hq2
 refine z ?_
 refine aM v4.fst (cA _) (z ?_)
 exact bk ⟨(i2+1,_,_,(ts2_2+1)),hq2⟩
 rw[aA h3,LX] at hq2
 obtain⟨hg10,hq2⟩:=ah hq2
 refine bd rfl rfl ?_
 refine bK 3 1 18 rfl rfl ?_
 refine lg (α:=Nat×List Va×Nat) ae (fun(iw,s1,ts1)=>(oR cv s1_2 s2_2 (List.drop iw c.rest) s1=some r,⟨72,[(47,.int .i64 iw),(46,.int .i64 ↑c.rest.length),(45,.aK false (List.map aN c.rest)),(6,.bool s1_2),(5,.ptr 3 0),(4,.bool false),(3,.bool false),(2,.ptr 2 0)]⟩,⟨[(5,.row 18 (s1.map aN) ts1 false),(4,.row 18 (List.map aN s2_2) ts2_2 false),(3,.cells [.own 4 ts2_2,.own 5 ts1]),(2,.cells [.aD,.aD]),(1,.cells (aS aN c)),(0,ba)],6,0,[],[]⟩,List.length c.rest-iw)) ⟨(0,_,(0)),hq2⟩ ?_
 rintro⟨i11,s1_11,ts1_11⟩ hq11
 dsimp only at hq11
 refine z ?_
 refine zd ?_ ?_<;>intro h12
 obtain⟨x12,ex12,ed12⟩:=av h12
 rw[ed12,oR] at hq11
 refine z ?_
 refine bF (cA _) ex12 rfl (z ?_)
 obtain⟨v13,e13,hq11⟩:=aa hq11
 refine ct (h e13) (z ?_)
 refine zm ?_ ?_<;>intro h14
 rw[TP (nt h14)] at hq11
 cases hq11
 refine a8 (z ?_)
 exact mt
 rw[HP h14] at hq11
 obtain⟨v15,e15,hq11⟩:=aa hq11
 refine ct (kA e15) (z ?_)
 refine zm ?_ ?_<;>intro h16
 rw[TP (nt h16)] at hq11
 obtain⟨hg17,hq11⟩:=aC hq11
 refine z ?_
 refine aM v13.fst (cA _) (z ?_)
 exact bk ⟨(i11+1,_,(ts1_11+1)),hq11⟩
 rw[HP h16] at hq11
 exact bk ⟨(i11+1,_,ts1_11),hq11⟩
 rw[aA h12,oR] at hq11
 cases hq11
 refine a8 (z ?_)
 exact mt
theorem Vd {x:cW Va} {v:Va} {r:Bool} (hm:mi x.val v=some r):Has Tryz.prog 161 [.agg (fI x),.bR (ec v) 0] fun s=>s= .bool r:=by
 refine hs ae Tryz.f161 (z ?_)
 replace hm:=aJ hm
 obtain⟨v1,e1,hm⟩:=aa hm
 refine ce (uP e1) (z ?_)
 cases hm
 exact fc
def I5 (x y:cW Va):Option Int:=EF x.set y.set
theorem Vc {x y:cW Va} {r:Int} (hm:I5 x y=some r):bp Tryz.prog 163 [.agg (fI x),.agg (fI y)] fun s=>s= .int .i64 r:=by
 refine ht ae Tryz.f163 ?_
 unfold I5 at hm
 refine z ?_
 replace hm:=aJ hm
 obtain⟨v1,e1,hm⟩:=aa hm
 refine ct (Bs e1) (z ?_)
 cases hm
 exact mst
def LV (cv:Va->Option (Va×Bool)) (is:Bool) (fs:List (dy Va)):List (cW Va)->List (cW Va)->Option (aF Va×Bool×Bool)
 |[],out=>(gC I5 out).bind fun out=>some (⟨fs,out⟩,is,true)
 |k::r,out=>(cv k.val).bind fun p=>if p.2 then(qn (fun x=>mi x.val p.1) out).bind fun i=>if i<0 then
    (Tp k.set []).bind fun l=>(push out ⟨l,p.1⟩).bind fun out=>LV cv is fs r out
   else(cJ out i).bind fun y=>(Tp y.set k.set).bind fun l=>(ot out i fun z=>⟨l,z.val⟩).bind fun out=>LV cv is fs r out
  else some (⟨[],[]⟩,false,false)
def K3 (cv:Va->Option (Va×Bool)) (ks:List (cW Va)):List (dy Va)->Bool->List (dy Va)->Option (aF Va×Bool×Bool)
 |[],is,out=>(aR ks).bind fun _=>LV cv is out ks []
 |f::r,is,out=>(cv f.val).bind fun p=>if p.2 then if is then(mI p.1.v).bind fun b=>(push out ⟨f.label,f.dR,p.1⟩).bind fun out=>K3 cv ks r (!b) out else(push out ⟨f.label,f.dR,p.1⟩).bind fun out=>K3 cv ks r false out
  else some (⟨[],[]⟩,false,false)
def Ll (cv:Va->Option (Va×Bool)) (c:aF Va):Option (aF Va×Bool×Bool):=(aR c.fields).bind fun _=>K3 cv c.aw c.fields true []
theorem SI {cv:Va->Option (Va×Bool)} (h:VQ cv) {c:aF Va} {r:aF Va×Bool×Bool} (hm:Ll cv c=some r):bp Tryz.prog 125 [.agg (aG aN c)] fun s=>s= .dZ [.agg (aG aN r.1),.bool r.2.1,.bool r.2.2]:=by
 refine ht ae Tryz.f125 ?_
 unfold Ll at hm
 refine z ?_
 obtain⟨hg1,hm⟩:=ah hm
 refine bK 3 0 20 rfl rfl ?_
 refine lg (α:=Nat×Bool×List (dy Va)×Nat) ae (fun(iw,s1,s2,ts2)=>(K3 cv c.aw (List.drop iw c.fields) s1 s2=some r,⟨101,[(19,.int .i64 iw),(18,.int .i64 ↑c.fields.length),(17,.aK false (List.map (cZ aN) c.fields)),(6,.bool s1),(5,.ptr 3 0),(4,.bool false),(3,.bool false),(2,.ptr 2 0),(1,.ptr 1 0)]⟩,⟨[(4,.row 20 (s2.map (cZ aN)) ts2 false),(3,.cells [.own 4 ts2,.aD]),(2,.cells [.aD,.aD]),(1,.cells (aG aN c)),(0,ba)],5,0,[],[]⟩,List.length c.fields-iw)) ⟨(0,_,_,(0)),hm⟩ ?_
 rintro⟨i2,s1_2,s2_2,ts2_2⟩ hq2
 dsimp only at hq2
 refine z ?_
 refine zd ?_ ?_<;>intro h3
 obtain⟨x3,ex3,ed3⟩:=av h3
 rw[ed3,K3] at hq2
 refine z ?_
 refine bF (cP _) ex3 rfl (z ?_)
 obtain⟨v4,e4,hq2⟩:=aa hq2
 refine ct (h e4) (z ?_)
 refine zm ?_ ?_<;>intro h5
 rw[TP (nt h5)] at hq2
 cases hq2
 refine a8 (z ?_)
 exact mt
 rw[HP h5] at hq2
 refine zr ?_ ?_<;>intro h6
 rw[HP h6] at hq2
 obtain⟨v7,e7,hq2⟩:=aa hq2
 refine ct (kA e7) (z ?_)
 obtain⟨hg8,hq2⟩:=aC hq2
 refine z ?_
 refine aM ({label:=x3.label,dR:=x3.dR,val:=v4.fst}) (cP _) (z ?_)
 exact bk ⟨(i2+1,_,_,(ts2_2+1)),hq2⟩
 rw[TP (nt h6)] at hq2
 obtain⟨hg9,hq2⟩:=aC hq2
 refine z ?_
 refine aM ({label:=x3.label,dR:=x3.dR,val:=v4.fst}) (cP _) (z ?_)
 exact bk ⟨(i2+1,_,_,(ts2_2+1)),hq2⟩
 rw[aA h3,K3] at hq2
 obtain⟨hg10,hq2⟩:=ah hq2
 refine bd rfl rfl ?_
 refine bK 3 1 19 rfl rfl ?_
 refine lg (α:=Nat×List (cW Va)×Nat) ae (fun(iw,s1,ts1)=>(LV cv s1_2 s2_2 (List.drop iw c.aw) s1=some r,⟨101,[(51,.int .i64 iw),(50,.int .i64 ↑c.aw.length),(49,.aK false (List.map (dI aN) c.aw)),(6,.bool s1_2),(5,.ptr 3 0),(4,.bool false),(3,.bool false),(2,.ptr 2 0)]⟩,⟨[(5,.row 19 (s1.map (dI aN)) ts1 false),(4,.row 20 (List.map (cZ aN) s2_2) ts2_2 false),(3,.cells [.own 4 ts2_2,.own 5 ts1]),(2,.cells [.aD,.aD]),(1,.cells (aG aN c)),(0,ba)],6,0,[],[]⟩,List.length c.aw-iw)) ⟨(0,_,(0)),hq2⟩ ?_
 rintro⟨i11,s1_11,ts1_11⟩ hq11
 dsimp only at hq11
 refine z ?_
 refine zd ?_ ?_<;>intro h12
 obtain⟨x12,ex12,ed12⟩:=av h12
 rw[ed12,LV] at hq11
 refine z ?_
 refine bF (cB _) ex12 rfl (z ?_)
 obtain⟨v13,e13,hq11⟩:=aa hq11
 refine ct (h e13) (z ?_)
 refine zm ?_ ?_<;>intro h14
 rw[TP (nt h14)] at hq11
 cases hq11
 refine a8 (z ?_)
 exact mt
 rw[HP h14] at hq11
 obtain⟨v15,e15,hq11⟩:=aa hq11
 refine b6 (UL (by simp only[aB,closed,aL,cN,bN,cj,eM,cl,dF,V3]) rfl Vd e15) rfl (z ?_)
 refine zd ?_ ?_<;>intro h16
 rw[HP h16] at hq11
 refine dg ae [0,1,0,4,0,28,0,124,252,511,1023,2047] [] (z ?_)
 obtain⟨v17,e17,hq11⟩:=aa hq11
 refine ct (AJ e17) (z ?_)
 obtain⟨hg18,hq11⟩:=aC hq11
 refine z ?_
 refine aM ({set:=v17,val:=v13.fst}) (cB _) (z ?_)
 exact bk ⟨(i11+1,_,(ts1_11+1)),hq11⟩
 rw[TP h16] at hq11
 refine dg ae [0,1,0,0,8,0,56,120,248,0,512,2040,4095,8191,16383] [] (z ?_)
 obtain⟨j19,x19,en19,ou,hq11⟩:=az hq11
 refine aP en19 ou (z ?_)
 refine pY (cB _) ou (z ?_)
 obtain⟨v20,e20,hq11⟩:=aa hq11
 refine ct (AJ e20) (z ?_)
 obtain⟨j21,x21,en21,ex21,hq11⟩:=bY hq11
 refine aP en21 ex21 (z ?_)
 refine FG _ ({set:=v20,val:=x21.val}) (cB _) (cB _) ex21 rfl (z ?_)
 exact bk ⟨(i11+1,_,ts1_11),hq11⟩
 rw[aA h12,LV] at hq11
 obtain⟨v22,e22,hq11⟩:=aa hq11
 refine dq 5 (FY rfl rfl Vc e22) rfl rfl rfl rfl (z ?_)
 cases hq11
 refine a8 (z ?_)
 exact mt
def ofL (c:aV Va):Option (bt Va):=some ⟨false,et,[c],[]⟩
theorem Um {c:aV Va} {r:bt Va} (hm:ofL c=some r):Has Tryz.prog 128 [.agg (aS aN c)] fun s=>s= .agg (cg aN r):=by
 refine hs ae Tryz.f128 ?_
 unfold ofL at hm
 refine z ?_
 cases hm
 refine dH (z ?_)
 first|exact e2|exact rfl
def Nu (c:aF Va):Option (bt Va):=some ⟨false,et,[],[c]⟩
theorem Rm {c:aF Va} {r:bt Va} (hm:Nu c=some r):Has Tryz.prog 131 [.agg (aG aN c)] fun s=>s= .agg (cg aN r):=by
 refine hs ae Tryz.f131 ?_
 unfold Nu at hm
 refine z ?_
 cases hm
 refine dH (z ?_)
 first|exact e2|exact rfl
section
variable {α:Type}
def Kz (is:α->α->Option Bool) (x:α) (i:Int):List α->Int->Option Bool
 |[],_=>some false
 |y::r,k=>if i=k then Kz is x i r (k+1) else(is x y).bind fun c=>if c then if k<i then some true else(is y x).bind fun d=>if d then Kz is x i r (k+1) else some true else Kz is x i r (k+1)
def Ky (is:α->α->Option Bool) (l:List α):List α->Int->List α->Option (List α)
 |[],_,out=>some out
 |x::r,i,out=>(aR l).bind fun _=>(Kz is x i l 0).bind fun d=>if d then Ky is l r (i+1) out else(push out x).bind fun out=>Ky is l r (i+1) out
def zI (of:α->Option (bt Va)) (x y:α):Option Int:=(of x).bind fun a=>(of y).bind fun b=>wx a b
def s8 (is:α->α->Option Bool) (of:α->Option (bt Va)) (l:List α):Option (List α):=(aR l).bind fun _=>(Ky is l l 0 []).bind fun out=>gC (zI of) out
end
theorem Rt {fo:FuncId} {of:aV Va->Option (bt Va)} (ho:∀{x r},of x=some r->Has Tryz.prog fo [.agg (aS aN x)] fun s=>s= .agg (cg aN r)) {x y:aV Va} {r:Int} (hm:zI of x y=some r):bp Tryz.prog 166 [.agg (aS aN x),.agg (aS aN y),.bR [.func (.func fo) [] []] 0] fun s=>s= .int .i64 r:=by
 refine ht ae Tryz.f166 ?_
 unfold zI at hm
 refine z ?_
 refine dg ae [0,0,3,0,0,31,63,127] [] (z ?_)
 obtain⟨v1,e1,hm⟩:=aa hm
 refine ce (ho e1) (z ?_)
 obtain⟨v2,e2,hm⟩:=aa hm
 refine ce (ho e2) (z ?_)
 replace hm:=aJ hm
 obtain⟨v3,e3,hm⟩:=aa hm
 refine ct (zF e3) (z ?_)
 cases hm
 exact mst
theorem Us {fi fo:FuncId} {is:aV Va->aV Va->Option Bool} {of:aV Va->Option (bt Va)} (hi:∀{x y r},is x y=some r->bp Tryz.prog fi [.agg (aS aN x),.agg (aS aN y)] fun s=>s= .bool r) (ho:∀{x r},of x=some r->Has Tryz.prog fo [.agg (aS aN x)] fun s=>s= .agg (cg aN r)) {l r:List (aV Va)} (hm:s8 is of l=some r):bp Tryz.prog 126 [.aK false (l.map (aS aN)),.func (.func fi) [] [],.func (.func fo) [] []] fun s=>s= .aK false (r.map (aS aN)):=by
 refine ht ae Tryz.f126 ?_
 unfold s8 at hm
 refine z ?_
 obtain⟨hg1,hm⟩:=ah hm
 obtain⟨v2,hv2,hm⟩:=aa hm
 refine cr 7 2 rfl ?_
 refine lg (α:=Nat×List (aV Va)×Nat) ae (fun(iw,s1,ts1)=>(Ky is l (List.drop iw l) (iw:Int) s1=some v2,⟨57,[(7,.own 2 ts1),(14,.int .i64 iw),(13,.int .i64 ↑l.length),(12,.aK false (List.map (aS aN) l)),(6,.aD),(5,.ptr 1 0),(0,.aK false (List.map (aS aN) l)),(1,.func (.func fi) [] [])]⟩,⟨[(2,.row 2 (s1.map (aS aN)) ts1 false),(1,.cells [.func (.func fo) [] []]),(0,ba)],3,0,[],[]⟩,List.length l-iw)) ⟨(0,_,(0)),hv2⟩ ?_
 rintro⟨i2,s1_2,ts1_2⟩ hq2
 dsimp only at hq2
 refine z ?_
 refine zd ?_ ?_<;>intro h3
 obtain⟨x3,ex3,ed3⟩:=av h3
 rw[ed3,Ky] at hq2
 refine z ?_
 obtain⟨hg4,hq2⟩:=ah hq2
 refine bx ex3 rfl (z ?_)
 obtain⟨v5,hv5,hq2⟩:=aa hq2
 refine lg (α:=Nat) ae (fun iw=>(Kz is x3 (↑i2) (List.drop iw l) (iw:Int)=some v5,⟨57,[(21,.int .i64 iw),(20,.int .i64 ↑l.length),(19,.aK false (List.map (aS aN) l)),(8,.int .i64 ↑i2),(9,.ptr 3 0),(7,.own 2 ts1_2),(14,.int .i64 ↑i2),(13,.int .i64 ↑l.length),(12,.aK false (List.map (aS aN) l)),(6,.aD),(5,.ptr 1 0),(0,.aK false (List.map (aS aN) l)),(1,.func (.func fi) [] [])]⟩,⟨[(3,.cells [.aK false (List.map aN x3.items),.aK false (List.map aN x3.rest)]),(2,.row 2 (List.map (aS aN) s1_2) ts1_2 false),(1,.cells [.func (.func fo) [] []]),(0,ba)],4,0,[],[]⟩,List.length l-iw)) ⟨(0),hv5⟩ ?_
 intro i5 hq5
 dsimp only at hq5
 refine z ?_
 refine zd ?_ ?_<;>intro h6
 obtain⟨x6,ex6,ed6⟩:=av h6
 rw[ed6,Kz] at hq5
 refine z ?_
 refine bx ex6 rfl (z ?_)
 refine zn ?_ ?_<;>intro h7
 rw[TP h7] at hq5
 obtain⟨v8,e8,hq5⟩:=aa hq5
 refine ct (hi e8) (z ?_)
 refine zr ?_ ?_<;>intro h9
 rw[HP h9] at hq5
 refine zd ?_ ?_<;>intro h10
 rw[HP h10] at hq5
 cases hq5
 rw[HP rfl] at hq2
 exact bk ⟨(i2+1,_,ts1_2),hq2⟩
 rw[TP h10] at hq5
 obtain⟨v11,e11,hq5⟩:=aa hq5
 refine ct (hi e11) (z ?_)
 refine zm ?_ ?_<;>intro h12
 rw[TP (nt h12)] at hq5
 cases hq5
 rw[HP rfl] at hq2
 exact bk ⟨(i2+1,_,ts1_2),hq2⟩
 rw[HP h12] at hq5
 exact bk ⟨i5+1,hq5⟩
 rw[TP (nt h9)] at hq5
 exact bk ⟨i5+1,hq5⟩
 rw[HP h7] at hq5
 exact bk ⟨i5+1,hq5⟩
 rw[aA h6,Kz] at hq5
 cases hq5
 rw[TP Wr] at hq2
 obtain⟨hg13,hq2⟩:=aC hq2
 refine z ?_
 refine aM x3 rfl (z ?_)
 exact bk ⟨(i2+1,_,(ts1_2+1)),hq2⟩
 rw[aA h3,Ky] at hq2
 cases hq2
 refine z ?_
 replace hm:=aJ hm
 obtain⟨v14,e14,hm⟩:=aa hm
 refine wN 2 (JX rfl rfl (Rt ho) e14) rfl rfl (z ?_)
 cases hm
 refine a8 (z ?_)
 exact mt
theorem Rs {fo:FuncId} {of:aF Va->Option (bt Va)} (ho:∀{x r},of x=some r->Has Tryz.prog fo [.agg (aG aN x)] fun s=>s= .agg (cg aN r)) {x y:aF Va} {r:Int} (hm:zI of x y=some r):bp Tryz.prog 170 [.agg (aG aN x),.agg (aG aN y),.bR [.func (.func fo) [] []] 0] fun s=>s= .int .i64 r:=by
 refine ht ae Tryz.f170 ?_
 unfold zI at hm
 refine z ?_
 refine dg ae [0,0,3,0,0,31,63,127] [] (z ?_)
 obtain⟨v1,e1,hm⟩:=aa hm
 refine ce (ho e1) (z ?_)
 obtain⟨v2,e2,hm⟩:=aa hm
 refine ce (ho e2) (z ?_)
 replace hm:=aJ hm
 obtain⟨v3,e3,hm⟩:=aa hm
 refine ct (zF e3) (z ?_)
 cases hm
 exact mst
theorem Ur {fi fo:FuncId} {is:aF Va->aF Va->Option Bool} {of:aF Va->Option (bt Va)} (hi:∀{x y r},is x y=some r->bp Tryz.prog fi [.agg (aG aN x),.agg (aG aN y)] fun s=>s= .bool r) (ho:∀{x r},of x=some r->Has Tryz.prog fo [.agg (aG aN x)] fun s=>s= .agg (cg aN r)) {l r:List (aF Va)} (hm:s8 is of l=some r):bp Tryz.prog 129 [.aK false (l.map (aG aN)),.func (.func fi) [] [],.func (.func fo) [] []] fun s=>s= .aK false (r.map (aG aN)):=by
 refine ht ae Tryz.f129 ?_
 unfold s8 at hm
 refine z ?_
 obtain⟨hg1,hm⟩:=ah hm
 obtain⟨v2,hv2,hm⟩:=aa hm
 refine cr 7 2 rfl ?_
 refine lg (α:=Nat×List (aF Va)×Nat) ae (fun(iw,s1,ts1)=>(Ky is l (List.drop iw l) (iw:Int) s1=some v2,⟨57,[(7,.own 2 ts1),(14,.int .i64 iw),(13,.int .i64 ↑l.length),(12,.aK false (List.map (aG aN) l)),(6,.aD),(5,.ptr 1 0),(0,.aK false (List.map (aG aN) l)),(1,.func (.func fi) [] [])]⟩,⟨[(2,.row 2 (s1.map (aG aN)) ts1 false),(1,.cells [.func (.func fo) [] []]),(0,ba)],3,0,[],[]⟩,List.length l-iw)) ⟨(0,_,(0)),hv2⟩ ?_
 rintro⟨i2,s1_2,ts1_2⟩ hq2
 dsimp only at hq2
 refine z ?_
 refine zd ?_ ?_<;>intro h3
 obtain⟨x3,ex3,ed3⟩:=av h3
 rw[ed3,Ky] at hq2
 refine z ?_
 obtain⟨hg4,hq2⟩:=ah hq2
 refine bx ex3 rfl (z ?_)
 obtain⟨v5,hv5,hq2⟩:=aa hq2
 refine lg (α:=Nat) ae (fun iw=>(Kz is x3 (↑i2) (List.drop iw l) (iw:Int)=some v5,⟨57,[(21,.int .i64 iw),(20,.int .i64 ↑l.length),(19,.aK false (List.map (aG aN) l)),(8,.int .i64 ↑i2),(9,.ptr 3 0),(7,.own 2 ts1_2),(14,.int .i64 ↑i2),(13,.int .i64 ↑l.length),(12,.aK false (List.map (aG aN) l)),(6,.aD),(5,.ptr 1 0),(0,.aK false (List.map (aG aN) l)),(1,.func (.func fi) [] [])]⟩,⟨[(3,.cells [.aK false (List.map (cZ aN) x3.fields),.aK false (List.map (dI aN) x3.aw)]),(2,.row 2 (List.map (aG aN) s1_2) ts1_2 false),(1,.cells [.func (.func fo) [] []]),(0,ba)],4,0,[],[]⟩,List.length l-iw)) ⟨(0),hv5⟩ ?_
 intro i5 hq5
 dsimp only at hq5
 refine z ?_
 refine zd ?_ ?_<;>intro h6
 obtain⟨x6,ex6,ed6⟩:=av h6
 rw[ed6,Kz] at hq5
 refine z ?_
 refine bx ex6 rfl (z ?_)
 refine zn ?_ ?_<;>intro h7
 rw[TP h7] at hq5
 obtain⟨v8,e8,hq5⟩:=aa hq5
 refine ct (hi e8) (z ?_)
 refine zr ?_ ?_<;>intro h9
 rw[HP h9] at hq5
 refine zd ?_ ?_<;>intro h10
 rw[HP h10] at hq5
 cases hq5
 rw[HP rfl] at hq2
 exact bk ⟨(i2+1,_,ts1_2),hq2⟩
 rw[TP h10] at hq5
 obtain⟨v11,e11,hq5⟩:=aa hq5
 refine ct (hi e11) (z ?_)
 refine zm ?_ ?_<;>intro h12
 rw[TP (nt h12)] at hq5
 cases hq5
 rw[HP rfl] at hq2
 exact bk ⟨(i2+1,_,ts1_2),hq2⟩
 rw[HP h12] at hq5
 exact bk ⟨i5+1,hq5⟩
 rw[TP (nt h9)] at hq5
 exact bk ⟨i5+1,hq5⟩
 rw[HP h7] at hq5
 exact bk ⟨i5+1,hq5⟩
 rw[aA h6,Kz] at hq5
 cases hq5
 rw[TP Wr] at hq2
 obtain⟨hg13,hq2⟩:=aC hq2
 refine z ?_
 refine aM x3 rfl (z ?_)
 exact bk ⟨(i2+1,_,(ts1_2+1)),hq2⟩
 rw[aA h3,Ky] at hq2
 cases hq2
 refine z ?_
 replace hm:=aJ hm
 obtain⟨v14,e14,hm⟩:=aa hm
 refine wN 2 (JW rfl rfl (Rs ho) e14) rfl rfl (z ?_)
 cases hm
 refine a8 (z ?_)
 exact mt
def Db (c:aV Va):Option Bool:=(aR c.items).bind fun _=>if(c.items.length:Int)=0 then(aR c.rest).bind fun _=>if(c.rest.length:Int)=1 then(cJ c.rest 0).bind fun x=>y7 x else some false else some false
theorem Ni {c:aV Va} {r:Bool} (hm:Db c=some r):Has Tryz.prog 174 [.agg (aS aN c)] fun s=>s= .bool r:=by
 refine hs ae Tryz.f174 ?_
 unfold Db at hm
 refine z ?_
 obtain⟨hg1,hm⟩:=ah hm
 refine zd ?_ ?_<;>intro h2
 rw[HP h2] at hm
 obtain⟨hg3,hm⟩:=ah hm
 refine zd ?_ ?_<;>intro h4
 rw[HP h4] at hm
 obtain⟨j5,x5,en5,ex5,hm⟩:=az hm
 refine bP (cA _) en5 ex5 rfl (z ?_)
 replace hm:=aJ hm
 obtain⟨v6,e6,hm⟩:=aa hm
 refine ce (DJ e6) (z ?_)
 cases hm
 exact fc
 rw[TP h4] at hm
 cases hm
 exact fc
 rw[TP h2] at hm
 cases hm
 exact fc
def vf (c:aF Va):Option Bool:=(aR c.fields).bind fun _=>if(c.fields.length:Int)=0 then(aR c.aw).bind fun _=>if(c.aw.length:Int)=1 then(cJ c.aw 0).bind fun k=>y7 k.val else some false else some false
theorem Kp {c:aF Va} {r:Bool} (hm:vf c=some r):Has Tryz.prog 175 [.agg (aG aN c)] fun s=>s= .bool r:=by
 refine hs ae Tryz.f175 ?_
 unfold vf at hm
 refine z ?_
 obtain⟨hg1,hm⟩:=ah hm
 refine zd ?_ ?_<;>intro h2
 rw[HP h2] at hm
 obtain⟨hg3,hm⟩:=ah hm
 refine zd ?_ ?_<;>intro h4
 rw[HP h4] at hm
 obtain⟨j5,x5,en5,ex5,hm⟩:=az hm
 refine bP (cB _) en5 ex5 rfl (z ?_)
 replace hm:=aJ hm
 obtain⟨v6,e6,hm⟩:=aa hm
 refine ce (DJ e6) (z ?_)
 cases hm
 exact fc
 rw[TP h4] at hm
 cases hm
 exact fc
 rw[TP h2] at hm
 cases hm
 exact fc
def evM (v:bt Va):Option Bool:=(aR v.lists).bind fun _=>if(v.lists.length:Int)=1 then(aR v.structs).bind fun _=>if(v.structs.length:Int)=1 then S1.bind fun s=>(wy v.sc s).bind fun c=>if c=0 then
 (cJ v.lists 0).bind fun l=>(Db l).bind fun b=>if b then(cJ v.structs 0).bind fun s=>vf s else some false else some false else some false else some false
theorem U2 {v:bt Va} {r:Bool} (hm:evM v=some r):bp Tryz.prog 132 [.agg (cg aN v)] fun s=>s= .bool r:=by
 refine ht ae Tryz.f132 ?_
 unfold evM at hm
 refine z ?_
 refine dg ae [0,1,3,7,15,31,63,127,255,511,1023,2047,4095,2047,16383,32767,65535,131071,262143,524287,1048575,2097151,4194303,8388607,16777215,33554431,67108863,134217727,268435455,536870911,1073741823,2147483647] [] (z ?_)
 obtain⟨hg1,hm⟩:=ah hm
 refine zd ?_ ?_<;>intro h2
 rw[HP h2] at hm
 obtain⟨hg3,hm⟩:=ah hm
 refine zd ?_ ?_<;>intro h4
 rw[HP h4] at hm
 obtain⟨v5,e5,hm⟩:=aa hm
 refine ct (S0 e5) (z ?_)
 obtain⟨v6,e6,hm⟩:=aa hm
 refine ct (EC e6) (z ?_)
 refine zd ?_ ?_<;>intro h7
 rw[HP h7] at hm
 obtain⟨j8,x8,en8,ex8,hm⟩:=az hm
 refine bD en8 ex8 rfl (z ?_)
 obtain⟨v9,e9,hm⟩:=aa hm
 refine ce (Ni e9) (z ?_)
 refine zr ?_ ?_<;>intro h10
 rw[HP h10] at hm
 obtain⟨j11,x11,en11,ex11,hm⟩:=az hm
 refine bD en11 ex11 rfl (z ?_)
 replace hm:=aJ hm
 obtain⟨v12,e12,hm⟩:=aa hm
 refine ce (Kp e12) (z ?_)
 cases hm
 exact mst
 rw[TP (nt h10)] at hm
 cases hm
 exact mst
 rw[TP h7] at hm
 cases hm
 exact mst
 rw[TP h4] at hm
 cases hm
 exact mst
 rw[TP h2] at hm
 cases hm
 exact mst
def Sr (s:bM):Option bM:=orS s et
theorem Sq {s r:bM} (hm:Sr s=some r):bp Tryz.prog 123 [.agg (cq s)] fun v=>v= .agg (cq r):=by
 refine ht ae Tryz.f123 ?_
 unfold Sr at hm
 refine z ?_
 replace hm:=aJ hm
 obtain⟨v1,e1,hm⟩:=aa hm
 refine ct (Nf e1) (z ?_)
 cases hm
 exact mst
def gg:Nat:=64
def cnE (sc:bM) (ls:List (aV Va)) (ss:List (aF Va)):Option (bt Va×Bool):=(s8 (RH (iD gg)) ofL ls).bind fun ls=>(s8 (QZ (iD gg)) Nu ss).bind fun ss=>(evM ⟨false,sc,ls,ss⟩).bind fun e=>if e then some (⟨true,et,[],[]⟩,true) else some (⟨false,sc,ls,ss⟩,true)
def OT (cv:Va->Option (Va×Bool)) (sc:bM) (ls:List (aV Va)):List (aF Va)->List (aF Va)->Option (bt Va×Bool)
 |[],out=>cnE sc ls out
 |c::r,out=>(Ll cv c).bind fun p=>if p.2.2 then if p.2.1 then(push out p.1).bind fun out=>OT cv sc ls r out else OT cv sc ls r out else some (zV,false)
def LW (cv:Va->Option (Va×Bool)) (sc:bM) (ss:List (aF Va)):List (aV Va)->List (aV Va)->Option (bt Va×Bool)
 |[],out=>(aR ss).bind fun _=>OT cv sc out ss []
 |c::r,out=>(Ln cv c).bind fun p=>if p.2.2 then if p.2.1 then(push out p.1).bind fun out=>LW cv sc ss r out else LW cv sc ss r out else some (zV,false)
abbrev CanF (cf:bt Va->Option (bt Va×Bool)):Prop:=∀{x r},cf x=some r->bp Tryz.prog 100 [.agg (cg aN x)] fun s=>s= .dZ [.agg (cg aN r.1),.bool r.2]
def qF (cf:bt Va->Option (bt Va×Bool)) (x:Va):Option (Va×Bool):=(cf x.v).bind fun a=>(cf x.d).bind fun b=>if a.2 then if b.2 then(iD gg b.1 a.1).bind fun c=>some (.mk a.1 b.1,c) else some (.mk a.1 b.1,false) else some (.mk a.1 b.1,false)
theorem Bl {cf:bt Va->Option (bt Va×Bool)} (h:CanF cf):VQ (qF cf):=by
 intro x r hm
 refine ht ae Tryz.f76 ?_
 unfold qF at hm
 refine z ?_
 obtain⟨v1,e1,hm⟩:=aa hm
 refine ct (h e1) (z ?_)
 obtain⟨v2,e2,hm⟩:=aa hm
 refine ct (h e2) (z ?_)
 refine dg ae [0,0,3,0,8,24,56,120,248,248,1016,2040,2047,8191] [⟨12,0,0,[2]⟩] (z ?_)
 refine zr ?_ ?_<;>intro h6
 rw[HP h6] at hm
 refine zr ?_ ?_<;>intro h7
 rw[HP h7] at hm
 obtain⟨v8,e8,hm⟩:=aa hm
 refine ct (BM e8) (z ?_)
 cases hm
 exact mst
 rw[TP (nt h7)] at hm
 cases hm
 exact mst
 rw[TP (nt h6)] at hm
 cases hm
 exact mst
def oz:Nat->bt Va->Option (bt Va×Bool)
 |0,_=>none
 |n+1,v=>if v.any then some (v,true) else(Sr v.sc).bind fun sc=>(aR v.lists).bind fun _=>LW (qF (oz n)) sc v.structs v.lists []
theorem SJ:∀{n:Nat},CanF (oz n):=by
 intro n
 induction n with
 |zero=>intro x r hm;cases hm
 |succ n ih=>
  intro v r hm
  refine ht ae Tryz.f100 ?_
  unfold oz at hm
  refine z ?_
  refine zr ?_ ?_<;>intro h1
  ·rw[HP h1] at hm
   cases hm
   exact mst
  ·rw[TP (nt h1)] at hm
   obtain⟨v2,e2,hm⟩:=aa hm
   refine ct (Sq e2) (z ?_)
   obtain⟨hg3,hm⟩:=ah hm
   refine cr 5 2 rfl ?_
   refine lg (α:=Nat×List (aV Va)×Nat) ae (fun(iw,s1,ts1)=>(LW (qF (oz n)) v2 v.structs (List.drop iw v.lists) s1=some r,⟨78,[(5,.own 4 ts1),(27,.int .i64 iw),(26,.int .i64 ↑v.lists.length),(25,.aK false (List.map (aS aN) v.lists)),(4,.ptr 3 0),(3,.bool false),(2,.ptr 2 0),(1,.ptr 1 0)]⟩,⟨[(4,.row 2 (s1.map (aS aN)) ts1 false),(3,.cells [.bool false,.bool v2.null,.bool v2.sE,.bool v2.rY,a7 v2.ints,a7 v2.bC,aE v2.strs,.aD,.aD]),(2,.cells [.bool false,.bool false,.bool false,.bool false,.aD,.aD,.aD,.aD,.aD]),(1,.cells (cg aN v)),(0,ba)],5,0,[],[]⟩,List.length v.lists-iw)) ⟨(0,_,(0)),hm⟩ ?_
   rintro⟨i4,s1_4,ts1_4⟩ hq4
   dsimp only at hq4
   refine z ?_
   refine zd ?_ ?_<;>intro h5
   ·obtain⟨x5,ex5,ed5⟩:=av h5
    rw[ed5,LW] at hq4
    refine z ?_
    refine bx ex5 rfl (z ?_)
    obtain⟨v6,e6,hq4⟩:=aa hq4
    refine ct (SK (Bl ih) e6) (z ?_)
    refine zm ?_ ?_<;>intro h7
    ·rw[TP (nt h7)] at hq4
     cases hq4
     refine a8 (z ?_)
     exact mt
    ·rw[HP h7] at hq4
     refine zr ?_ ?_<;>intro h8
     ·rw[HP h8] at hq4
      obtain⟨hg9,hq4⟩:=aC hq4
      refine z ?_
      refine aM v6.fst rfl (z ?_)
      exact bk ⟨(i4+1,_,(ts1_4+1)),hq4⟩
     ·rw[TP (nt h8)] at hq4
      exact bk ⟨(i4+1,_,ts1_4),hq4⟩
   ·rw[aA h5,LW] at hq4
    obtain⟨hg10,hq4⟩:=ah hq4
    refine bd rfl rfl ?_
    refine cr 11 2 rfl ?_
    refine lg (α:=Nat×List (aF Va)×Nat) ae (fun(iw,s1,ts1)=>(OT (qF (oz n)) v2 s1_4 (List.drop iw v.structs) s1=some r,⟨78,[(11,.own 5 ts1),(49,.int .i64 iw),(48,.int .i64 ↑v.structs.length),(47,.aK false (List.map (aG aN) v.structs)),(5,.own 4 ts1_4),(4,.ptr 3 0),(3,.bool false),(2,.ptr 2 0)]⟩,⟨[(5,.row 2 (s1.map (aG aN)) ts1 false),(4,.row 2 (List.map (aS aN) s1_4) ts1_4 false),(3,.cells [.bool false,.bool v2.null,.bool v2.sE,.bool v2.rY,a7 v2.ints,a7 v2.bC,aE v2.strs,.aD,.aD]),(2,.cells [.bool false,.bool false,.bool false,.bool false,.aD,.aD,.aD,.aD,.aD]),(1,.cells (cg aN v)),(0,ba)],6,0,[],[]⟩,List.length v.structs-iw)) ⟨(0,_,(0)),hq4⟩ ?_
    rintro⟨i11,s1_11,ts1_11⟩ hq11
    dsimp only at hq11
    refine z ?_
    refine zd ?_ ?_<;>intro h12
    ·obtain⟨x12,ex12,ed12⟩:=av h12
     rw[ed12,OT] at hq11
     refine z ?_
     refine bx ex12 rfl (z ?_)
     obtain⟨v13,e13,hq11⟩:=aa hq11
     refine ct (SI (Bl ih) e13) (z ?_)
     refine zm ?_ ?_<;>intro h14
     ·rw[TP (nt h14)] at hq11
      cases hq11
      refine a8 (z ?_)
      exact mt
     ·rw[HP h14] at hq11
      refine zr ?_ ?_<;>intro h15
      ·rw[HP h15] at hq11
       obtain⟨hg16,hq11⟩:=aC hq11
       refine z ?_
       refine aM v13.fst rfl (z ?_)
       exact bk ⟨(i11+1,_,(ts1_11+1)),hq11⟩
      ·rw[TP (nt h15)] at hq11
       exact bk ⟨(i11+1,_,ts1_11),hq11⟩
    ·rw[aA h12,OT] at hq11
     unfold cnE at hq11
     refine z ?_
     obtain⟨v17,e17,hq11⟩:=aa hq11
     refine bI (Us (NS BM) Um e17) (z ?_)
     obtain⟨v18,e18,hq11⟩:=aa hq11
     refine bI (Ur (MO BM) Rm e18) (z ?_)
     obtain⟨v19,e19,hq11⟩:=aa hq11
     refine ct (U2 e19) (z ?_)
     refine zr ?_ ?_<;>intro h20
     ·rw[HP h20] at hq11
      cases hq11
      refine a8 (z ?_)
      exact mt
     ·rw[TP (nt h20)] at hq11
      cases hq11
      exact mst
def qe (x:Va):Option (Va×Int):=(mf x).bind fun ok=>if ok then(qF (oz gg) x).bind fun p=>if p.2 then some (p.1,0) else some (JA,11) else some (JA,11)
theorem vr {x:Va} {r:Va×Int} (hm:qe x=some r):bp Tryz.prog 49 [.agg (ec x)] fun s=>s= .dZ [.agg (ec r.1),.int .i64 r.2]:=by
 refine ht ae Tryz.f49 ?_
 unfold qe at hm
 refine z ?_
 obtain⟨v1,e1,hm⟩:=aa hm
 refine ct (yB e1) (z ?_)
 refine zm ?_ ?_<;>intro h2
 rw[TP (nt h2)] at hm
 cases hm
 refine a8 (z ?_)
 exact mt
 rw[HP h2] at hm
 obtain⟨v3,e3,hm⟩:=aa hm
 refine ct ((Bl SJ) e3) (z ?_)
 refine zm ?_ ?_<;>intro h4
 rw[TP (nt h4)] at hm
 cases hm
 refine a8 (z ?_)
 exact mt
 rw[HP h4] at hm
 cases hm
 exact mst
def jN (x:Va):Option Bool:=(qe x).bind fun p=>if p.2=0 then mi p.1 x else some false
theorem qV {x:Va} {r:Bool} (hm:jN x=some r):bp Tryz.prog 27 [.agg (ec x)] fun s=>s= .bool r:=by
 refine ht ae Tryz.f27 ?_
 unfold jN at hm
 refine z ?_
 obtain⟨v1,e1,hm⟩:=aa hm
 refine ct (vr e1) (z ?_)
 refine zd ?_ ?_<;>intro h2
 rw[HP h2] at hm
 replace hm:=aJ hm
 obtain⟨v3,e3,hm⟩:=aa hm
 refine ce (uP e3) (z ?_)
 cases hm
 exact mst
 rw[TP h2] at hm
 cases hm
 exact mst
end Go.Proofs.YtcejopopgcglpaaGreatDoor
