/- For ConcreteOnly and ConcreteBack: functions of the program, walked beside Lean functions that say what they compute. -/
import Derived.Test.YtaagahmkmcnhaaaGreatDoorMd
set_option linter.unusedVariables false
set_option linter.unusedSimpArgs false
set_option linter.unusedSectionVars false
namespace Go.Proofs.YtaagahmkmcnhaaaGreatDoor
open Sv
set_option maxRecDepth 100000
set_option maxHeartbeats 2000000
def R5 (sc:bX):List (aM Va)->Option Bool
 |[]=>iy sc
 |c::r=>(nM c.fields).bind fun ok=>if ok then(Mn c).bind fun ok=>if ok then R5 sc r else some false else some false
def gdL (sc:bX) (ss:List (aM Va)):List (bg Va)->Option Bool
 |[]=>(aN ss).bind fun _=>R5 sc ss
 |c::r=>(aN c.rest).bind fun _=>if(c.rest.length:Int)>1 then some false else gdL sc ss r
def Cu (v:bG Va):Option Bool:=if v.any then(rZ v.sc).bind fun c=>if c then(aN v.lists).bind fun _=>(aN v.structs).bind fun _=>some (decide ((v.lists.length:Int)+v.structs.length=0)) else some false
 else(aN v.lists).bind fun _=>gdL v.sc v.structs v.lists
theorem LI {v:bG Va} {r:Bool} (hm:Cu v=some r):bj Tryz.prog 161 [.agg (cj aL v)] fun s=>s= .bool r:=by
 refine ht ae Tryz.f161 ?_
 unfold Cu at hm
 refine z ?_
 refine zr ?_ ?_<;>intro h1
 rw[Th h1] at hm
 obtain⟨v2,e2,hm⟩:=aa hm
 refine ce (BW e2) (z ?_)
 refine zr ?_ ?_<;>intro h3
 rw[Th h3] at hm
 obtain⟨hg4,hm⟩:=ah hm
 obtain⟨hg5,hm⟩:=ah hm
 refine z ?_
 cases hm
 exact mst
 rw[Ti (nt h3)] at hm
 cases hm
 exact mst
 rw[Ti (nt h1)] at hm
 obtain⟨hg6,hm⟩:=ah hm
 refine lg (α:=Nat) ae (fun iw=>(gdL v.sc v.structs (List.drop iw v.lists)=some r,⟨54,[(25,.int .i64 iw),(24,.int .i64 ↑v.lists.length),(23,.aE false (List.map (aQ aL) v.lists)),(2,.bool false),(1,.ptr 1 0)]⟩,⟨[(1,.cells (cj aL v)),(0,aX)],2,0,[],[]⟩,List.length v.lists-iw)) ⟨(0),hm⟩ ?_
 intro i7 hq7
 dsimp only at hq7
 refine z ?_
 refine zd ?_ ?_<;>intro h8
 obtain⟨x8,ex8,ed8⟩:=an h8
 rw[ed8,gdL] at hq7
 refine z ?_
 obtain⟨hg9,hq7⟩:=ah hq7
 refine bq ex8 rfl (z ?_)
 refine zd ?_ ?_<;>intro h10
 rw[Th h10] at hq7
 cases hq7
 exact mst
 rw[Ti h10] at hq7
 exact bk ⟨i7+1,hq7⟩
 rw[aq h8,gdL] at hq7
 obtain⟨hg11,hq7⟩:=ah hq7
 refine aY rfl rfl ?_
 refine lg (α:=Nat) ae (fun iw=>(R5 v.sc (List.drop iw v.structs)=some r,⟨54,[(37,.int .i64 iw),(36,.int .i64 ↑v.structs.length),(35,.aE false (List.map (aC aL) v.structs)),(2,.bool false),(1,.ptr 1 0)]⟩,⟨[(1,.cells (cj aL v)),(0,aX)],2,0,[],[]⟩,List.length v.structs-iw)) ⟨(0),hq7⟩ ?_
 intro i12 hq12
 dsimp only at hq12
 refine z ?_
 refine zd ?_ ?_<;>intro h13
 obtain⟨x13,ex13,ed13⟩:=an h13
 rw[ed13,R5] at hq12
 refine z ?_
 refine bq ex13 rfl (z ?_)
 obtain⟨v14,e14,hq12⟩:=aa hq12
 refine ce (EK e14) (z ?_)
 refine zm ?_ ?_<;>intro h15
 rw[Ti (nt h15)] at hq12
 cases hq12
 exact mst
 rw[Th h15] at hq12
 obtain⟨v16,e16,hq12⟩:=aa hq12
 refine ct (PL e16) (z ?_)
 refine zm ?_ ?_<;>intro h17
 rw[Ti (nt h17)] at hq12
 cases hq12
 exact mst
 rw[Th h17] at hq12
 exact bk ⟨i12+1,hq12⟩
 rw[aq h13,R5] at hq12
 replace hq12:=aB hq12
 obtain⟨v18,e18,hq12⟩:=aa hq12
 refine ct (mT e18) (z ?_)
 cases hq12
 exact mst
structure Wk where
 dQ:Int
 deep:Int
 bad:Bool
def Sk (w:Wk):List SVal:=[.int .i64 w.dQ,.int .i64 w.deep,.bool w.bad]
instance :Cl Sk:=⟨fun _=>rfl⟩
def vn (w:Wk) (level:Int):Option Wk:=(dV (w.dQ+1)).bind fun _=>some ⟨w.dQ+1,mx w.deep level,w.bad⟩
theorem LY {w r:Wk} {level:Int} (hm:vn w level=some r):lY Tryz.prog 160 (.cells (Sk w)) [.ptr 1 0,.int .i64 level] fun s o=>s= .dT []/\o= .cells (Sk r):=by
 refine dM ae (fn:=Tryz.f160) rfl rfl rfl ?_
 unfold vn at hm
 refine z ?_
 obtain⟨hg1,hm⟩:=ah hm
 refine z ?_
 cases hm
 exact mso
def qK (rec:Wk->bG Va->Int->Option Wk) (level:Int):List Va->Wk->Option Wk
 |[],w=>some w
 |x::r,w=>(dV (level+1)).bind fun _=>(rec w x.v (level+1)).bind fun w=>(rec w x.d (level+1)).bind fun w=>qK rec level r w
def wu:Nat->Wk->bG Va->Int->Option Wk
 |0,_,_,_=>none
 |n+1,w,v,level=>(vn w level).bind fun w=>if level>16 then some ⟨w.dQ,w.deep,true⟩ else(Cu v).bind fun ok=>if ok then
   (kh v).bind fun l=>(aN l).bind fun _=>qK (wu n) level l w else some ⟨w.dQ,w.deep,true⟩
theorem HC:∀{n:Nat} {w r:Wk} {v:bG Va} {level:Int} (hm:wu n w v level=some r),lY Tryz.prog 128 (.cells (Sk w)) [.ptr 1 0,.agg (cj aL v),.int .i64 level] fun s o=>s= .dT []/\o= .cells (Sk r):=by
 intro n
 induction n with
 |zero=>intro w r v level hm;cases hm
 |succ n ih=>
  intro w r v level hm
  refine dM ae (fn:=Tryz.f128) rfl rfl (by simp only[nb,cY,c7,Tq];rfl) ?_
  unfold wu at hm
  refine z ?_
  obtain⟨v1,e1,hm⟩:=aa hm
  refine dj 1 (LY e1) rfl rfl rfl rfl (z ?_)
  refine zd ?_ ?_<;>intro h2
  ·rw[Th h2] at hm
   cases hm
   exact mso
  ·rw[Ti h2] at hm
   obtain⟨v3,e3,hm⟩:=aa hm
   refine ct (LI e3) (z ?_)
   refine zm ?_ ?_<;>intro h4
   ·rw[Ti (nt h4)] at hm
    cases hm
    exact mso
   ·rw[Th h4] at hm
    obtain⟨v5,e5,hm⟩:=aa hm
    refine ce (I0 e5) (z ?_)
    obtain⟨hg6,hm⟩:=ah hm
    refine lg (α:=Nat×Wk) ae (fun(iw,s1)=>(qK (wu n) level (List.drop iw v5) s1=some r,⟨43,[(26,.int .i64 iw),(25,.int .i64 ↑v5.length),(24,.aE false (List.map aL v5)),(0,.ptr 1 0),(2,.int .i64 level)]⟩,⟨[(2,.cells (cj aL v)),(0,aX),(1,.cells (Sk s1))],3,0,[],[]⟩,List.length v5-iw)) ⟨(0,_),hm⟩ ?_
    rintro⟨i7,s1_7⟩ hq7
    dsimp only at hq7
    refine z ?_
    refine zd ?_ ?_<;>intro h8
    ·obtain⟨x8,ex8,ed8⟩:=an h8
     rw[ed8,qK] at hq7
     refine z ?_
     obtain⟨hg9,hq7⟩:=ah hq7
     refine bC (cP _) ex8 rfl (z ?_)
     obtain⟨v10,e10,hq7⟩:=aa hq7
     refine dj 1 (ih e10) (by simp only[cx,bR,bQ];rfl) rfl rfl rfl (z ?_)
     obtain⟨v11,e11,hq7⟩:=aa hq7
     refine dj 1 (ih e11) (by simp only[cx,bR,bQ];rfl) rfl rfl rfl (z ?_)
     exact bk ⟨(i7+1,_),hq7⟩
    ·rw[aq h8,qK] at hq7
     cases hq7
     exact mso
def FE (v:bG Va):Option Wk:=wu 18 ⟨0,0,false⟩ v 1
theorem JR {v:bG Va} {r:Wk} (hm:FE v=some r):bj Tryz.prog 98 [.agg (cj aL v)] fun s=>s= .bN (Sk r) 0:=by
 refine ht ae Tryz.f98 ?_
 unfold FE at hm
 refine z ?_
 replace hm:=aB hm
 obtain⟨v1,e1,hm⟩:=aa hm
 refine dj 2 (HC e1) (by simp only[cx,bR,bQ];rfl) rfl rfl rfl (z ?_)
 cases hm
 refine aV (z ?_)
 exact mt
def iA (v:bG Va):Option Bool:=(FE v).bind fun w=>some (!w.bad)
theorem mV {v:bG Va} {r:Bool} (hm:iA v=some r):bj Tryz.prog 66 [.agg (cj aL v)] fun s=>s= .bool r:=by
 refine ht ae Tryz.f66 ?_
 unfold iA at hm
 refine z ?_
 obtain⟨v1,e1,hm⟩:=aa hm
 refine ct (JR e1) (z ?_)
 cases hm
 exact mst
def eQ (x:Va):Option Bool:=(iA x.v).bind fun a=>if a then iA x.d else some false
theorem xo {x:Va} {r:Bool} (hm:eQ x=some r):bj Tryz.prog 40 [.agg (eo x)] fun s=>s= .bool r:=by
 refine ht ae Tryz.f40 ?_
 unfold eQ at hm
 refine z ?_
 obtain⟨v1,e1,hm⟩:=aa hm
 refine ct (mV e1) (z ?_)
 refine zr ?_ ?_<;>intro h2
 rw[Th h2] at hm
 replace hm:=aB hm
 obtain⟨v3,e3,hm⟩:=aa hm
 refine ct (mV e3) (z ?_)
 cases hm
 exact mst
 rw[Ti (nt h2)] at hm
 cases hm
 exact mst
def fQ (a b:bX):Option Bool:=if a.null==b.null then if a.py==b.py then if a.px==b.px then(gW a.ints b.ints).bind fun c=>if c then(gW a.bz b.bz).bind fun c=>if c then rO a.strs b.strs else some false else some false else some false else some false else some false
theorem Ku {a b:bX} {r:Bool} (hm:fQ a b=some r):Has Tryz.prog 139 [.agg (cr a),.agg (cr b)] fun s=>s= .bool r:=by
 refine hs ae Tryz.f139 ?_
 unfold fQ at hm
 refine z ?_
 refine zr ?_ ?_<;>intro h1
 rw[Th h1] at hm
 refine zr ?_ ?_<;>intro h2
 rw[Th h2] at hm
 refine zr ?_ ?_<;>intro h3
 rw[Th h3] at hm
 obtain⟨v4,e4,hm⟩:=aa hm
 refine ce (lh e4) (z ?_)
 refine zr ?_ ?_<;>intro h5
 rw[Th h5] at hm
 obtain⟨v6,e6,hm⟩:=aa hm
 refine ce (lh e6) (z ?_)
 refine zr ?_ ?_<;>intro h7
 rw[Th h7] at hm
 replace hm:=aB hm
 obtain⟨v8,e8,hm⟩:=aa hm
 refine ce (zw e8) (z ?_)
 cases hm
 exact fc
 rw[Ti (nt h7)] at hm
 cases hm
 exact fc
 rw[Ti (nt h5)] at hm
 cases hm
 exact fc
 rw[Ti (nt h3)] at hm
 cases hm
 exact fc
 rw[Ti (nt h2)] at hm
 cases hm
 exact fc
 rw[Ti (nt h1)] at hm
 cases hm
 exact fc
theorem Pg {fn:FuncId} {g:Va->Va->Option Bool} (hg:∀{x y r},g x y=some r->Has Tryz.prog fn [.agg (eo x),.agg (eo y)] fun s=>s= .bool r) {a b:List Va} {r:Bool} (hm:kH g a b=some r):Has Tryz.prog 140 [.aE false (a.map aL),.aE false (b.map aL),.func (.func fn) [] []] fun s=>s= .bool r:=by
 refine hs ae Tryz.f140 ?_
 unfold kH at hm
 refine z ?_
 refine zn ?_ ?_<;>intro h1
 rw[Ti h1] at hm
 cases hm
 exact fc
 rw[Th h1] at hm
 obtain⟨hg2,hm⟩:=ah hm
 refine lg (α:=Nat) ae (fun iw=>(jE g b (List.drop iw a) (iw:Int)=some r,⟨32,[(17,.int .i64 iw),(16,.int .i64 ↑a.length),(15,.aE false (List.map aL a)),(6,.bool false),(1,.aE false (List.map aL b)),(2,.func (.func fn) [] [])]⟩,⟨[],0,0,[],[]⟩,List.length a-iw)) ⟨(0),hm⟩ ?_
 intro i3 hq3
 dsimp only at hq3
 refine z ?_
 refine zd ?_ ?_<;>intro h4
 obtain⟨x4,ex4,ed4⟩:=an h4
 rw[ed4,jE] at hq3
 refine z ?_
 refine bC (cP _) ex4 rfl (z ?_)
 obtain⟨j5,x5,en5,ex5,hq3⟩:=av hq3
 refine bI (cP _) en5 ex5 rfl (z ?_)
 obtain⟨v6,e6,hq3⟩:=aa hq3
 refine ce (hg e6) (z ?_)
 refine zm ?_ ?_<;>intro h7
 rw[Ti (nt h7)] at hq3
 cases hq3
 exact fc
 rw[Th h7] at hq3
 exact bk ⟨i3+1,hq3⟩
 rw[aq h4,jE] at hq3
 cases hq3
 exact fc
theorem LV {fn:FuncId} {g:dO Va->dO Va->Option Bool} (hg:∀{x y r},g x y=some r->Has Tryz.prog fn [.agg (lK x),.agg (lK y)] fun s=>s= .bool r) {a b:List (dO Va)} {r:Bool} (hm:kH g a b=some r):Has Tryz.prog 183 [.aE false (a.map (di aL)),.aE false (b.map (di aL)),.func (.func fn) [] []] fun s=>s= .bool r:=by
 refine hs ae Tryz.f183 ?_
 unfold kH at hm
 refine z ?_
 refine zn ?_ ?_<;>intro h1
 rw[Ti h1] at hm
 cases hm
 exact fc
 rw[Th h1] at hm
 obtain⟨hg2,hm⟩:=ah hm
 refine lg (α:=Nat) ae (fun iw=>(jE g b (List.drop iw a) (iw:Int)=some r,⟨32,[(17,.int .i64 iw),(16,.int .i64 ↑a.length),(15,.aE false (List.map (di aL) a)),(6,.bool false),(1,.aE false (List.map (di aL) b)),(2,.func (.func fn) [] [])]⟩,⟨[],0,0,[],[]⟩,List.length a-iw)) ⟨(0),hm⟩ ?_
 intro i3 hq3
 dsimp only at hq3
 refine z ?_
 refine zd ?_ ?_<;>intro h4
 obtain⟨x4,ex4,ed4⟩:=an h4
 rw[ed4,jE] at hq3
 refine z ?_
 refine bC (cW _) ex4 rfl (z ?_)
 obtain⟨j5,x5,en5,ex5,hq3⟩:=av hq3
 refine bI (cW _) en5 ex5 rfl (z ?_)
 obtain⟨v6,e6,hq3⟩:=aa hq3
 refine ce (hg e6) (z ?_)
 refine zm ?_ ?_<;>intro h7
 rw[Ti (nt h7)] at hq3
 cases hq3
 exact fc
 rw[Th h7] at hq3
 exact bk ⟨i3+1,hq3⟩
 rw[aq h4,jE] at hq3
 cases hq3
 exact fc
theorem LW {fn:FuncId} {g:dH Va->dH Va->Option Bool} (hg:∀{x y r},g x y=some r->Has Tryz.prog fn [.agg (fA x),.agg (fA y)] fun s=>s= .bool r) {a b:List (dH Va)} {r:Bool} (hm:kH g a b=some r):Has Tryz.prog 185 [.aE false (a.map (dN aL)),.aE false (b.map (dN aL)),.func (.func fn) [] []] fun s=>s= .bool r:=by
 refine hs ae Tryz.f185 ?_
 unfold kH at hm
 refine z ?_
 refine zn ?_ ?_<;>intro h1
 rw[Ti h1] at hm
 cases hm
 exact fc
 rw[Th h1] at hm
 obtain⟨hg2,hm⟩:=ah hm
 refine lg (α:=Nat) ae (fun iw=>(jE g b (List.drop iw a) (iw:Int)=some r,⟨32,[(17,.int .i64 iw),(16,.int .i64 ↑a.length),(15,.aE false (List.map (dN aL) a)),(6,.bool false),(1,.aE false (List.map (dN aL) b)),(2,.func (.func fn) [] [])]⟩,⟨[],0,0,[],[]⟩,List.length a-iw)) ⟨(0),hm⟩ ?_
 intro i3 hq3
 dsimp only at hq3
 refine z ?_
 refine zd ?_ ?_<;>intro h4
 obtain⟨x4,ex4,ed4⟩:=an h4
 rw[ed4,jE] at hq3
 refine z ?_
 refine bC (cF _) ex4 rfl (z ?_)
 obtain⟨j5,x5,en5,ex5,hq3⟩:=av hq3
 refine bI (cF _) en5 ex5 rfl (z ?_)
 obtain⟨v6,e6,hq3⟩:=aa hq3
 refine ce (hg e6) (z ?_)
 refine zm ?_ ?_<;>intro h7
 rw[Ti (nt h7)] at hq3
 cases hq3
 exact fc
 rw[Th h7] at hq3
 exact bk ⟨i3+1,hq3⟩
 rw[aq h4,jE] at hq3
 cases hq3
 exact fc
abbrev M1 (rec:bG Va->bG Va->Option Bool):Prop:=∀{a b r},rec a b=some r->Has Tryz.prog 104 [.agg (cj aL a),.agg (cj aL b)] fun s=>s= .bool r
def lE (rec:bG Va->bG Va->Option Bool) (x y:Va):Option Bool:=(rec x.v y.v).bind fun c=>if c then rec x.d y.d else some false
theorem pO {rec:bG Va->bG Va->Option Bool} (h:M1 rec) {x y:Va} {r:Bool} (hm:lE rec x y=some r):Has Tryz.prog 73 [.agg (eo x),.agg (eo y)] fun s=>s= .bool r:=by
 refine hs ae Tryz.f73 ?_
 unfold lE at hm
 refine z ?_
 obtain⟨v1,e1,hm⟩:=aa hm
 refine ce (h e1) (z ?_)
 refine zr ?_ ?_<;>intro h2
 rw[Th h2] at hm
 replace hm:=aB hm
 obtain⟨v3,e3,hm⟩:=aa hm
 refine ce (h e3) (z ?_)
 cases hm
 exact fc
 rw[Ti (nt h2)] at hm
 cases hm
 exact fc
def BC (rec:bG Va->bG Va->Option Bool) (x y:dO Va):Option Bool:=if x.label=y.label then if x.fj=y.fj then lE rec x.val y.val else some false else some false
theorem Kv {rec:bG Va->bG Va->Option Bool} (h:M1 rec) {x y:dO Va} {r:Bool} (hm:BC rec x y=some r):Has Tryz.prog 184 [.agg (lK x),.agg (lK y)] fun s=>s= .bool r:=by
 refine hs ae Tryz.f184 ?_
 unfold BC at hm
 refine z ?_
 refine zd ?_ ?_<;>intro h1
 rw[Th h1] at hm
 refine zd ?_ ?_<;>intro h2
 rw[Th h2] at hm
 replace hm:=aB hm
 obtain⟨v3,e3,hm⟩:=aa hm
 refine ce (pO h e3) (z ?_)
 cases hm
 exact fc
 rw[Ti h2] at hm
 cases hm
 exact fc
 rw[Ti h1] at hm
 cases hm
 exact fc
def BD (rec:bG Va->bG Va->Option Bool) (x y:dH Va):Option Bool:=(rO x.set y.set).bind fun c=>if c then lE rec x.val y.val else some false
theorem Kw {rec:bG Va->bG Va->Option Bool} (h:M1 rec) {x y:dH Va} {r:Bool} (hm:BD rec x y=some r):Has Tryz.prog 186 [.agg (fA x),.agg (fA y)] fun s=>s= .bool r:=by
 refine hs ae Tryz.f186 ?_
 unfold BD at hm
 refine z ?_
 obtain⟨v1,e1,hm⟩:=aa hm
 refine ce (zw e1) (z ?_)
 refine zr ?_ ?_<;>intro h2
 rw[Th h2] at hm
 replace hm:=aB hm
 obtain⟨v3,e3,hm⟩:=aa hm
 refine ce (pO h e3) (z ?_)
 cases hm
 exact fc
 rw[Ti (nt h2)] at hm
 cases hm
 exact fc
def BB (rec:bG Va->bG Va->Option Bool) (x y:aM Va):Option Bool:=(kH (BC rec) x.fields y.fields).bind fun c=>if c then kH (BD rec) x.az y.az else some false
theorem Kt {rec:bG Va->bG Va->Option Bool} (h:M1 rec) {x y:aM Va} {r:Bool} (hm:BB rec x y=some r):Has Tryz.prog 142 [.agg (aC aL x),.agg (aC aL y)] fun s=>s= .bool r:=by
 refine hs ae Tryz.f142 ?_
 unfold BB at hm
 refine z ?_
 obtain⟨v1,e1,hm⟩:=aa hm
 refine ce (LV (Kv h) e1) (z ?_)
 refine zr ?_ ?_<;>intro h2
 rw[Th h2] at hm
 replace hm:=aB hm
 obtain⟨v3,e3,hm⟩:=aa hm
 refine ce (LW (Kw h) e3) (z ?_)
 cases hm
 exact fc
 rw[Ti (nt h2)] at hm
 cases hm
 exact fc
def zx (rec:bG Va->bG Va->Option Bool) (b:List (aM Va)):List (aM Va)->Int->Option Bool
 |[],_=>some true
 |x::r,i=>(cN b i).bind fun y=>(BB rec x y).bind fun c=>if c then zx rec b r (i+1) else some false
def wN (rec:bG Va->bG Va->Option Bool) (sa sb:List (aM Va)) (b:List (bg Va)):List (bg Va)->Int->Option Bool
 |[],_=>(aN sa).bind fun _=>zx rec sb sa 0
 |x::r,i=>(cN b i).bind fun y=>(aN x.items).bind fun _=>(aN y.items).bind fun _=>if(x.items.length:Int)=y.items.length then
   (fU x).bind fun p=>(fU y).bind fun q=>(kH (lE rec) p q).bind fun c=>if c then wN rec sa sb b r (i+1) else some false
  else some false
def ep:Nat->bG Va->bG Va->Option Bool
 |0,_,_=>none
 |n+1,a,b=>if a.any==b.any then(fQ a.sc b.sc).bind fun c=>if c then(aN a.lists).bind fun _=>(aN b.lists).bind fun _=>if(a.lists.length:Int)=b.lists.length then
   (aN a.structs).bind fun _=>(aN b.structs).bind fun _=>if(a.structs.length:Int)=b.structs.length then(aN a.lists).bind fun _=>wN (ep n) a.structs b.structs b.lists a.lists 0 else some false else some false else some false else some false
theorem Oh:∀{n:Nat},M1 (ep n):=by
 intro n
 induction n with
 |zero=>intro a b r hm;cases hm
 |succ n ih=>
  intro a b r hm
  refine hs ae Tryz.f104 ?_
  unfold ep at hm
  refine z ?_
  refine zm ?_ ?_<;>intro h1
  ·rw[Ti (nt h1)] at hm
   cases hm
   exact fc
  ·rw[Th h1] at hm
   obtain⟨v2,e2,hm⟩:=aa hm
   refine ce (Ku e2) (z ?_)
   refine zm ?_ ?_<;>intro h3
   ·rw[Ti (nt h3)] at hm
    cases hm
    exact fc
   ·rw[Th h3] at hm
    obtain⟨hg4,hm⟩:=ah hm
    obtain⟨hg5,hm⟩:=ah hm
    refine zn ?_ ?_<;>intro h6
    ·rw[Ti h6] at hm
     cases hm
     exact fc
    ·rw[Th h6] at hm
     obtain⟨hg7,hm⟩:=ah hm
     obtain⟨hg8,hm⟩:=ah hm
     refine zn ?_ ?_<;>intro h9
     ·rw[Ti h9] at hm
      cases hm
      exact fc
     ·rw[Th h9] at hm
      obtain⟨hg10,hm⟩:=ah hm
      refine lg (α:=Nat) ae (fun iw=>(wN (ep n) a.structs b.structs b.lists (List.drop iw a.lists) (iw:Int)=some r,⟨91,[(43,.int .i64 iw),(42,.int .i64 ↑a.lists.length),(4,.bool false),(3,.ptr 1 0),(2,.ptr 0 0)]⟩,⟨[(1,.cells (cj aL b)),(0,.cells (cj aL a))],2,0,[],[]⟩,List.length a.lists-iw)) ⟨(0),hm⟩ ?_
      intro i11 hq11
      dsimp only at hq11
      refine z ?_
      refine zd ?_ ?_<;>intro h12
      ·obtain⟨x12,ex12,ed12⟩:=an h12
       rw[ed12,wN] at hq11
       refine z ?_
       refine dg ae [0,1,0,7,15,0,32,0,224,480,0,0,3103,8191] [⟨13,0,0,[3]⟩,⟨12,0,0,[2]⟩] (z ?_)
       refine bq ex12 rfl (z ?_)
       obtain⟨j14,x14,en14,ex14,hq11⟩:=av hq11
       refine bF en14 ex14 rfl (z ?_)
       refine dg ae [0,1,3,0,8,24,63,127,255,511,255,2047,4095,8191,16383] [] (z ?_)
       obtain⟨hg15,hq11⟩:=ah hq11
       obtain⟨hg16,hq11⟩:=ah hq11
       refine zn ?_ ?_<;>intro h17
       ·rw[Ti h17] at hq11
        cases hq11
        exact fc
       ·rw[Th h17] at hq11
        obtain⟨v18,e18,hq11⟩:=aa hq11
        refine ce (hU e18) (z ?_)
        obtain⟨v19,e19,hq11⟩:=aa hq11
        refine ce (hU e19) (z ?_)
        obtain⟨v20,e20,hq11⟩:=aa hq11
        refine ce (Pg (pO ih) e20) (z ?_)
        refine zm ?_ ?_<;>intro h21
        ·rw[Ti (nt h21)] at hq11
         cases hq11
         exact fc
        ·rw[Th h21] at hq11
         exact bk ⟨i11+1,hq11⟩
      ·rw[aq h12,wN] at hq11
       obtain⟨hg22,hq11⟩:=ah hq11
       refine aY rfl rfl ?_
       refine lg (α:=Nat) ae (fun iw=>(zx (ep n) b.structs (List.drop iw a.structs) (iw:Int)=some r,⟨91,[(75,.int .i64 iw),(74,.int .i64 ↑a.structs.length),(4,.bool false),(3,.ptr 1 0),(2,.ptr 0 0)]⟩,⟨[(1,.cells (cj aL b)),(0,.cells (cj aL a))],2,0,[],[]⟩,List.length a.structs-iw)) ⟨(0),hq11⟩ ?_
       intro i23 hq23
       dsimp only at hq23
       refine z ?_
       refine zd ?_ ?_<;>intro h24
       ·obtain⟨x24,ex24,ed24⟩:=an h24
        rw[ed24,zx] at hq23
        refine z ?_
        refine dg ae [0,1,0,7,15,0,32,0,224,480,1023,2047] [] (z ?_)
        refine bq ex24 rfl (z ?_)
        obtain⟨j25,x25,en25,ex25,hq23⟩:=av hq23
        refine bF en25 ex25 rfl (z ?_)
        obtain⟨v26,e26,hq23⟩:=aa hq23
        refine ce (Kt ih e26) (z ?_)
        refine zm ?_ ?_<;>intro h27
        ·rw[Ti (nt h27)] at hq23
         cases hq23
         exact fc
        ·rw[Th h27] at hq23
         exact bk ⟨i23+1,hq23⟩
       ·rw[aq h24,zx] at hq23
        cases hq23
        exact fc
def hY:Nat:=64
def xt (x y:Va):Option Bool:=lE (ep hY) x y
theorem tU {x y:Va} {r:Bool} (hm:xt x y=some r):Has Tryz.prog 44 [.agg (eo x),.agg (eo y)] fun s=>s= .bool r:=by
 refine hs ae Tryz.f44 ?_
 unfold xt at hm
 refine z ?_
 replace hm:=aB hm
 obtain⟨v1,e1,hm⟩:=aa hm
 refine ce (pO Oh e1) (z ?_)
 cases hm
 exact fc
def wj (c k:Option Int):Option Int:=c.bind fun c=>if c=0 then k else some c
def Ba (a b:Bool):Option Int:=if a==b then some 0 else if a then some (-1) else some 1
theorem A9 {a b:Bool} {r:Int} (hm:Ba a b=some r):Has Tryz.prog 256 [.bool a,.bool b] fun s=>s= .int .i64 r:=by
 refine hs ae Tryz.f256 ?_
 unfold Ba at hm
 refine z ?_
 refine zr ?_ ?_<;>intro h1
 rw[Th h1] at hm
 cases hm
 exact fc
 rw[Ti (nt h1)] at hm
 refine zr ?_ ?_<;>intro h2
 rw[Th h2] at hm
 cases hm
 exact fc
 rw[Ti (nt h2)] at hm
 cases hm
 exact fc
section
variable {α:Type}
def ij (g:α->α->Option Int) (b:List α) (n:Nat):List α->Int->Option Int
 |[],_=>(aN b).bind fun _=>if(n:Int)<b.length then some (-1) else some 0
 |x::r,i=>(aN b).bind fun _=>if i>=(b.length:Int) then some 1 else(cN b i).bind fun y=>(g x y).bind fun c=>if c=0 then ij g b n r (i+1) else some c
def gm (g:α->α->Option Int) (a b:List α):Option Int:=(aN a).bind fun _=>ij g b a.length a 0
end
theorem SL {fn:FuncId} {g:(bg Va)->(bg Va)->Option Int} (hg:∀{x y r},g x y=some r->bj Tryz.prog fn [.agg (aQ aL x),.agg (aQ aL y)] fun s=>s= .int .i64 r) {a b:List (bg Va)} {r:Int} (hm:gm g a b=some r):bj Tryz.prog 259 [.aE false (a.map (aQ aL)),.aE false (b.map (aQ aL)),.func (.func fn) [] []] fun s=>s= .int .i64 r:=by
 refine ht ae Tryz.f259 ?_
 unfold gm at hm
 refine z ?_
 obtain⟨hg1,hm⟩:=ah hm
 refine lg (α:=Nat) ae (fun iw=>(ij g b a.length (List.drop iw a) (iw:Int)=some r,⟨39,[(13,.int .i64 iw),(12,.int .i64 ↑a.length),(11,.aE false (List.map (aQ aL) a)),(6,.int .i64 0),(0,.aE false (List.map (aQ aL) a)),(1,.aE false (List.map (aQ aL) b)),(2,.func (.func fn) [] [])]⟩,⟨[(0,aX)],1,0,[],[]⟩,List.length a-iw)) ⟨(0),hm⟩ ?_
 intro i2 hq2
 dsimp only at hq2
 refine z ?_
 refine zd ?_ ?_<;>intro h3
 obtain⟨x3,ex3,ed3⟩:=an h3
 rw[ed3,ij] at hq2
 refine z ?_
 obtain⟨hg4,hq2⟩:=ah hq2
 refine bq ex3 rfl (z ?_)
 refine zd ?_ ?_<;>intro h5
 rw[Th h5] at hq2
 cases hq2
 exact mst
 rw[Ti h5] at hq2
 obtain⟨j6,x6,en6,ex6,hq2⟩:=av hq2
 refine bF en6 ex6 rfl (z ?_)
 obtain⟨v7,e7,hq2⟩:=aa hq2
 refine ct (hg e7) (z ?_)
 refine zn ?_ ?_<;>intro h8
 rw[Ti h8] at hq2
 cases hq2
 exact mst
 rw[Th h8] at hq2
 exact bk ⟨i2+1,hq2⟩
 rw[aq h3,ij] at hq2
 obtain⟨hg9,hq2⟩:=ah hq2
 refine zd ?_ ?_<;>intro h10
 rw[Th h10] at hq2
 cases hq2
 exact mst
 rw[Ti h10] at hq2
 cases hq2
 exact mst
theorem SK {fn:FuncId} {g:(aM Va)->(aM Va)->Option Int} (hg:∀{x y r},g x y=some r->bj Tryz.prog fn [.agg (aC aL x),.agg (aC aL y)] fun s=>s= .int .i64 r) {a b:List (aM Va)} {r:Int} (hm:gm g a b=some r):bj Tryz.prog 262 [.aE false (a.map (aC aL)),.aE false (b.map (aC aL)),.func (.func fn) [] []] fun s=>s= .int .i64 r:=by
 refine ht ae Tryz.f262 ?_
 unfold gm at hm
 refine z ?_
 obtain⟨hg1,hm⟩:=ah hm
 refine lg (α:=Nat) ae (fun iw=>(ij g b a.length (List.drop iw a) (iw:Int)=some r,⟨39,[(13,.int .i64 iw),(12,.int .i64 ↑a.length),(11,.aE false (List.map (aC aL) a)),(6,.int .i64 0),(0,.aE false (List.map (aC aL) a)),(1,.aE false (List.map (aC aL) b)),(2,.func (.func fn) [] [])]⟩,⟨[(0,aX)],1,0,[],[]⟩,List.length a-iw)) ⟨(0),hm⟩ ?_
 intro i2 hq2
 dsimp only at hq2
 refine z ?_
 refine zd ?_ ?_<;>intro h3
 obtain⟨x3,ex3,ed3⟩:=an h3
 rw[ed3,ij] at hq2
 refine z ?_
 obtain⟨hg4,hq2⟩:=ah hq2
 refine bq ex3 rfl (z ?_)
 refine zd ?_ ?_<;>intro h5
 rw[Th h5] at hq2
 cases hq2
 exact mst
 rw[Ti h5] at hq2
 obtain⟨j6,x6,en6,ex6,hq2⟩:=av hq2
 refine bF en6 ex6 rfl (z ?_)
 obtain⟨v7,e7,hq2⟩:=aa hq2
 refine ct (hg e7) (z ?_)
 refine zn ?_ ?_<;>intro h8
 rw[Ti h8] at hq2
 cases hq2
 exact mst
 rw[Th h8] at hq2
 exact bk ⟨i2+1,hq2⟩
 rw[aq h3,ij] at hq2
 obtain⟨hg9,hq2⟩:=ah hq2
 refine zd ?_ ?_<;>intro h10
 rw[Th h10] at hq2
 cases hq2
 exact mst
 rw[Ti h10] at hq2
 cases hq2
 exact mst
theorem SJ {fn:FuncId} {g:Va->Va->Option Int} (hg:∀{x y r},g x y=some r->bj Tryz.prog fn [.agg (eo x),.agg (eo y)] fun s=>s= .int .i64 r) {a b:List (Va)} {r:Int} (hm:gm g a b=some r):bj Tryz.prog 297 [.aE false (a.map (aL)),.aE false (b.map (aL)),.func (.func fn) [] []] fun s=>s= .int .i64 r:=by
 refine ht ae Tryz.f297 ?_
 unfold gm at hm
 refine z ?_
 obtain⟨hg1,hm⟩:=ah hm
 refine lg (α:=Nat) ae (fun iw=>(ij g b a.length (List.drop iw a) (iw:Int)=some r,⟨39,[(13,.int .i64 iw),(12,.int .i64 ↑a.length),(11,.aE false (List.map aL a)),(6,.int .i64 0),(0,.aE false (List.map aL a)),(1,.aE false (List.map aL b)),(2,.func (.func fn) [] [])]⟩,⟨[(0,aX)],1,0,[],[]⟩,List.length a-iw)) ⟨(0),hm⟩ ?_
 intro i2 hq2
 dsimp only at hq2
 refine z ?_
 refine zd ?_ ?_<;>intro h3
 obtain⟨x3,ex3,ed3⟩:=an h3
 rw[ed3,ij] at hq2
 refine z ?_
 obtain⟨hg4,hq2⟩:=ah hq2
 refine bC (cP _) ex3 rfl (z ?_)
 refine zd ?_ ?_<;>intro h5
 rw[Th h5] at hq2
 cases hq2
 exact mst
 rw[Ti h5] at hq2
 obtain⟨j6,x6,en6,ex6,hq2⟩:=av hq2
 refine bI (cP _) en6 ex6 rfl (z ?_)
 obtain⟨v7,e7,hq2⟩:=aa hq2
 refine ct (hg e7) (z ?_)
 refine zn ?_ ?_<;>intro h8
 rw[Ti h8] at hq2
 cases hq2
 exact mst
 rw[Th h8] at hq2
 exact bk ⟨i2+1,hq2⟩
 rw[aq h3,ij] at hq2
 obtain⟨hg9,hq2⟩:=ah hq2
 refine zd ?_ ?_<;>intro h10
 rw[Th h10] at hq2
 cases hq2
 exact mst
 rw[Ti h10] at hq2
 cases hq2
 exact mst
theorem SM {fn:FuncId} {g:(dO Va)->(dO Va)->Option Int} (hg:∀{x y r},g x y=some r->bj Tryz.prog fn [.agg (lK x),.agg (lK y)] fun s=>s= .int .i64 r) {a b:List (dO Va)} {r:Int} (hm:gm g a b=some r):bj Tryz.prog 300 [.aE false (a.map (di aL)),.aE false (b.map (di aL)),.func (.func fn) [] []] fun s=>s= .int .i64 r:=by
 refine ht ae Tryz.f300 ?_
 unfold gm at hm
 refine z ?_
 obtain⟨hg1,hm⟩:=ah hm
 refine lg (α:=Nat) ae (fun iw=>(ij g b a.length (List.drop iw a) (iw:Int)=some r,⟨39,[(13,.int .i64 iw),(12,.int .i64 ↑a.length),(11,.aE false (List.map (di aL) a)),(6,.int .i64 0),(0,.aE false (List.map (di aL) a)),(1,.aE false (List.map (di aL) b)),(2,.func (.func fn) [] [])]⟩,⟨[(0,aX)],1,0,[],[]⟩,List.length a-iw)) ⟨(0),hm⟩ ?_
 intro i2 hq2
 dsimp only at hq2
 refine z ?_
 refine zd ?_ ?_<;>intro h3
 obtain⟨x3,ex3,ed3⟩:=an h3
 rw[ed3,ij] at hq2
 refine z ?_
 obtain⟨hg4,hq2⟩:=ah hq2
 refine bC (cW _) ex3 rfl (z ?_)
 refine zd ?_ ?_<;>intro h5
 rw[Th h5] at hq2
 cases hq2
 exact mst
 rw[Ti h5] at hq2
 obtain⟨j6,x6,en6,ex6,hq2⟩:=av hq2
 refine bI (cW _) en6 ex6 rfl (z ?_)
 obtain⟨v7,e7,hq2⟩:=aa hq2
 refine ct (hg e7) (z ?_)
 refine zn ?_ ?_<;>intro h8
 rw[Ti h8] at hq2
 cases hq2
 exact mst
 rw[Th h8] at hq2
 exact bk ⟨i2+1,hq2⟩
 rw[aq h3,ij] at hq2
 obtain⟨hg9,hq2⟩:=ah hq2
 refine zd ?_ ?_<;>intro h10
 rw[Th h10] at hq2
 cases hq2
 exact mst
 rw[Ti h10] at hq2
 cases hq2
 exact mst
theorem SN {fn:FuncId} {g:(dH Va)->(dH Va)->Option Int} (hg:∀{x y r},g x y=some r->bj Tryz.prog fn [.agg (fA x),.agg (fA y)] fun s=>s= .int .i64 r) {a b:List (dH Va)} {r:Int} (hm:gm g a b=some r):bj Tryz.prog 306 [.aE false (a.map (dN aL)),.aE false (b.map (dN aL)),.func (.func fn) [] []] fun s=>s= .int .i64 r:=by
 refine ht ae Tryz.f306 ?_
 unfold gm at hm
 refine z ?_
 obtain⟨hg1,hm⟩:=ah hm
 refine lg (α:=Nat) ae (fun iw=>(ij g b a.length (List.drop iw a) (iw:Int)=some r,⟨39,[(13,.int .i64 iw),(12,.int .i64 ↑a.length),(11,.aE false (List.map (dN aL) a)),(6,.int .i64 0),(0,.aE false (List.map (dN aL) a)),(1,.aE false (List.map (dN aL) b)),(2,.func (.func fn) [] [])]⟩,⟨[(0,aX)],1,0,[],[]⟩,List.length a-iw)) ⟨(0),hm⟩ ?_
 intro i2 hq2
 dsimp only at hq2
 refine z ?_
 refine zd ?_ ?_<;>intro h3
 obtain⟨x3,ex3,ed3⟩:=an h3
 rw[ed3,ij] at hq2
 refine z ?_
 obtain⟨hg4,hq2⟩:=ah hq2
 refine bC (cF _) ex3 rfl (z ?_)
 refine zd ?_ ?_<;>intro h5
 rw[Th h5] at hq2
 cases hq2
 exact mst
 rw[Ti h5] at hq2
 obtain⟨j6,x6,en6,ex6,hq2⟩:=av hq2
 refine bI (cF _) en6 ex6 rfl (z ?_)
 obtain⟨v7,e7,hq2⟩:=aa hq2
 refine ct (hg e7) (z ?_)
 refine zn ?_ ?_<;>intro h8
 rw[Ti h8] at hq2
 cases hq2
 exact mst
 rw[Th h8] at hq2
 exact bk ⟨i2+1,hq2⟩
 rw[aq h3,ij] at hq2
 obtain⟨hg9,hq2⟩:=ah hq2
 refine zd ?_ ?_<;>intro h10
 rw[Th h10] at hq2
 cases hq2
 exact mst
 rw[Ti h10] at hq2
 cases hq2
 exact mst
abbrev pq (rec:bG Va->bG Va->Option Int):Prop:=∀{a b r},rec a b=some r->bj Tryz.prog 214 [.agg (cj aL a),.agg (cj aL b)] fun s=>s= .int .i64 r
theorem JV {rec:bG Va->bG Va->Option Int} (h:pq rec) {x y:Va} {r:Int} (hm:rec x.v y.v=some r):bj Tryz.prog 322 [.bN (eo x) 0,.bN (eo y) 0] fun s=>s= .int .i64 r:=by
 refine ht ae Tryz.f322 (z ?_)
 replace hm:=aB hm
 obtain⟨v1,e1,hm⟩:=aa hm
 refine ct (h e1) (z ?_)
 cases hm
 exact mst
theorem JU {rec:bG Va->bG Va->Option Int} (h:pq rec) {x y:Va} {r:Int} (hm:rec x.d y.d=some r):bj Tryz.prog 323 [.bN (eo x) 0,.bN (eo y) 0] fun s=>s= .int .i64 r:=by
 refine ht ae Tryz.f323 (z ?_)
 replace hm:=aB hm
 obtain⟨v1,e1,hm⟩:=aa hm
 refine ct (h e1) (z ?_)
 cases hm
 exact mst
def DT (rec:bG Va->bG Va->Option Int) (x y:Va):Option Int:=wj (rec x.v y.v) (wj (rec x.d y.d) (some 0))
theorem y7 {rec:bG Va->bG Va->Option Int} (h:pq rec) {x y:Va} {r:Int} (hm:DT rec x y=some r):bj Tryz.prog 298 [.agg (eo x),.agg (eo y)] fun s=>s= .int .i64 r:=by
 refine ht ae Tryz.f298 ?_
 unfold DT at hm
 unfold wj at hm
 refine z ?_
 refine ci ae Tryz.f254 (z ?_)
 refine gL (z ?_)
 refine bA ae ?_
 refine z ?_
 refine cA (j:=0) rfl (by decide) (z ?_)
 refine⟨_,rfl,?_⟩
 refine z ?_
 obtain⟨v1,e1,hm⟩:=aa hm
 refine bH (JV h e1) (z ?_)
 refine zn ?_ ?_<;>intro h2
 rw[Ti h2] at hm
 refine ei (z ?_)
 cases hm
 exact mst
 rw[Th h2] at hm
 refine bA ae ?_
 refine z ?_
 refine cA (j:=1) rfl (by decide) (z ?_)
 refine⟨_,rfl,?_⟩
 refine z ?_
 obtain⟨v3,e3,hm⟩:=aa hm
 refine bH (JU h e3) (z ?_)
 refine zn ?_ ?_<;>intro h4
 rw[Ti h4] at hm
 refine ei (z ?_)
 cases hm
 exact mst
 rw[Th h4] at hm
 refine bA ae ?_
 refine z ?_
 refine ei (z ?_)
 cases hm
 exact mst
def Q1 (x y:bg Va):Option Int:=(aN x.items).bind fun _=>(aN y.items).bind fun _=>An x.items.length y.items.length
theorem NQ {x y:bg Va} {r:Int} (hm:Q1 x y=some r):Has Tryz.prog 294 [.bN (aQ aL x) 0,.bN (aQ aL y) 0] fun s=>s= .int .i64 r:=by
 refine hs ae Tryz.f294 ?_
 unfold Q1 at hm
 refine z ?_
 obtain⟨hg1,hm⟩:=ah hm
 obtain⟨hg2,hm⟩:=ah hm
 replace hm:=aB hm
 obtain⟨v3,e3,hm⟩:=aa hm
 refine ce (Am e3) (z ?_)
 cases hm
 exact fc
def Q0 (x y:bg Va):Option Int:=(aN x.rest).bind fun _=>(aN y.rest).bind fun _=>Ba (decide ((x.rest.length:Int)>0)) (decide ((y.rest.length:Int)>0))
theorem NP {x y:bg Va} {r:Int} (hm:Q0 x y=some r):Has Tryz.prog 295 [.bN (aQ aL x) 0,.bN (aQ aL y) 0] fun s=>s= .int .i64 r:=by
 refine hs ae Tryz.f295 ?_
 unfold Q0 at hm
 refine z ?_
 obtain⟨hg1,hm⟩:=ah hm
 obtain⟨hg2,hm⟩:=ah hm
 replace hm:=aB hm
 obtain⟨v3,e3,hm⟩:=aa hm
 refine ce (A9 e3) (z ?_)
 cases hm
 exact fc
def QZ (rec:bG Va->bG Va->Option Int) (x y:bg Va):Option Int:=(fU x).bind fun p=>(fU y).bind fun q=>gm (DT rec) p q
theorem NO {rec:bG Va->bG Va->Option Int} (h:pq rec) {x y:bg Va} {r:Int} (hm:QZ rec x y=some r):bj Tryz.prog 296 [.bN (aQ aL x) 0,.bN (aQ aL y) 0] fun s=>s= .int .i64 r:=by
 refine ht ae Tryz.f296 ?_
 unfold QZ at hm
 refine z ?_
 refine dg ae [0,1,0,7,15,31] [] (z ?_)
 obtain⟨v1,e1,hm⟩:=aa hm
 refine ce (hU e1) (z ?_)
 obtain⟨v2,e2,hm⟩:=aa hm
 refine ce (hU e2) (z ?_)
 replace hm:=aB hm
 obtain⟨v3,e3,hm⟩:=aa hm
 refine ct (SJ (y7 h) e3) (z ?_)
 cases hm
 exact mst
def NN (rec:bG Va->bG Va->Option Int) (x y:bg Va):Option Int:=wj (Q1 x y) (wj (Q0 x y) (wj (QZ rec x y) (some 0)))
theorem NL {rec:bG Va->bG Va->Option Int} (h:pq rec) {x y:bg Va} {r:Int} (hm:NN rec x y=some r):bj Tryz.prog 260 [.agg (aQ aL x),.agg (aQ aL y)] fun s=>s= .int .i64 r:=by
 refine ht ae Tryz.f260 ?_
 unfold NN at hm
 unfold wj at hm
 refine z ?_
 refine ci ae Tryz.f254 (z ?_)
 refine gL (z ?_)
 refine bA ae ?_
 refine z ?_
 refine cA (j:=0) rfl (by decide) (z ?_)
 refine⟨_,rfl,?_⟩
 refine z ?_
 obtain⟨v1,e1,hm⟩:=aa hm
 refine cm (NQ e1) rfl (z ?_)
 refine zn ?_ ?_<;>intro h2
 rw[Ti h2] at hm
 refine ei (z ?_)
 cases hm
 exact mst
 rw[Th h2] at hm
 refine bA ae ?_
 refine z ?_
 refine cA (j:=1) rfl (by decide) (z ?_)
 refine⟨_,rfl,?_⟩
 refine z ?_
 obtain⟨v3,e3,hm⟩:=aa hm
 refine cm (NP e3) rfl (z ?_)
 refine zn ?_ ?_<;>intro h4
 rw[Ti h4] at hm
 refine ei (z ?_)
 cases hm
 exact mst
 rw[Th h4] at hm
 refine bA ae ?_
 refine z ?_
 refine cA (j:=2) rfl (by decide) (z ?_)
 refine⟨_,rfl,?_⟩
 refine z ?_
 obtain⟨v5,e5,hm⟩:=aa hm
 refine bH (NO h e5) (z ?_)
 refine zn ?_ ?_<;>intro h6
 rw[Ti h6] at hm
 refine ei (z ?_)
 cases hm
 exact mst
 rw[Th h6] at hm
 refine bA ae ?_
 refine z ?_
 refine ei (z ?_)
 cases hm
 exact mst
theorem NT {x y:dO Va} {r:Int} (hm:Ak x.label y.label=some r):Has Tryz.prog 302 [.bN (lK x) 0,.bN (lK y) 0] fun s=>s= .int .i64 r:=by
 refine hs ae Tryz.f302 (z ?_)
 replace hm:=aB hm
 obtain⟨v1,e1,hm⟩:=aa hm
 refine ce (G0 e1) (z ?_)
 cases hm
 exact fc
theorem NS {x y:dO Va} {r:Int} (hm:An x.fj y.fj=some r):Has Tryz.prog 303 [.bN (lK x) 0,.bN (lK y) 0] fun s=>s= .int .i64 r:=by
 refine hs ae Tryz.f303 (z ?_)
 replace hm:=aB hm
 obtain⟨v1,e1,hm⟩:=aa hm
 refine ce (Am e1) (z ?_)
 cases hm
 exact fc
theorem NR {rec:bG Va->bG Va->Option Int} (h:pq rec) {x y:dO Va} {r:Int} (hm:DT rec x.val y.val=some r):bj Tryz.prog 304 [.bN (lK x) 0,.bN (lK y) 0] fun s=>s= .int .i64 r:=by
 refine ht ae Tryz.f304 (z ?_)
 replace hm:=aB hm
 obtain⟨v1,e1,hm⟩:=aa hm
 refine ct (y7 h e1) (z ?_)
 cases hm
 exact mst
def vcF (rec:bG Va->bG Va->Option Int) (x y:dO Va):Option Int:=wj (Ak x.label y.label) (wj (An x.fj y.fj) (wj (DT rec x.val y.val) (some 0)))
theorem Q2 {rec:bG Va->bG Va->Option Int} (h:pq rec) {x y:dO Va} {r:Int} (hm:vcF rec x y=some r):bj Tryz.prog 301 [.agg (lK x),.agg (lK y)] fun s=>s= .int .i64 r:=by
 refine ht ae Tryz.f301 ?_
 unfold vcF at hm
 unfold wj at hm
 refine z ?_
 refine ci ae Tryz.f254 (z ?_)
 refine gL (z ?_)
 refine bA ae ?_
 refine z ?_
 refine cA (j:=0) rfl (by decide) (z ?_)
 refine⟨_,rfl,?_⟩
 refine z ?_
 obtain⟨v1,e1,hm⟩:=aa hm
 refine cm (NT e1) rfl (z ?_)
 refine zn ?_ ?_<;>intro h2
 rw[Ti h2] at hm
 refine ei (z ?_)
 cases hm
 exact mst
 rw[Th h2] at hm
 refine bA ae ?_
 refine z ?_
 refine cA (j:=1) rfl (by decide) (z ?_)
 refine⟨_,rfl,?_⟩
 refine z ?_
 obtain⟨v3,e3,hm⟩:=aa hm
 refine cm (NS e3) rfl (z ?_)
 refine zn ?_ ?_<;>intro h4
 rw[Ti h4] at hm
 refine ei (z ?_)
 cases hm
 exact mst
 rw[Th h4] at hm
 refine bA ae ?_
 refine z ?_
 refine cA (j:=2) rfl (by decide) (z ?_)
 refine⟨_,rfl,?_⟩
 refine z ?_
 obtain⟨v5,e5,hm⟩:=aa hm
 refine bH (NR h e5) (z ?_)
 refine zn ?_ ?_<;>intro h6
 rw[Ti h6] at hm
 refine ei (z ?_)
 cases hm
 exact mst
 rw[Th h6] at hm
 refine bA ae ?_
 refine z ?_
 refine ei (z ?_)
 cases hm
 exact mst
theorem NV {x y:dH Va} {r:Int} (hm:IY x.set y.set=some r):bj Tryz.prog 308 [.bN (fA x) 0,.bN (fA y) 0] fun s=>s= .int .i64 r:=by
 refine ht ae Tryz.f308 (z ?_)
 replace hm:=aB hm
 obtain⟨v1,e1,hm⟩:=aa hm
 refine ct (Al e1) (z ?_)
 cases hm
 exact mst
theorem NU {rec:bG Va->bG Va->Option Int} (h:pq rec) {x y:dH Va} {r:Int} (hm:DT rec x.val y.val=some r):bj Tryz.prog 309 [.bN (fA x) 0,.bN (fA y) 0] fun s=>s= .int .i64 r:=by
 refine ht ae Tryz.f309 (z ?_)
 replace hm:=aB hm
 obtain⟨v1,e1,hm⟩:=aa hm
 refine ct (y7 h e1) (z ?_)
 cases hm
 exact mst
def vcC (rec:bG Va->bG Va->Option Int) (x y:dH Va):Option Int:=wj (IY x.set y.set) (wj (DT rec x.val y.val) (some 0))
theorem Q3 {rec:bG Va->bG Va->Option Int} (h:pq rec) {x y:dH Va} {r:Int} (hm:vcC rec x y=some r):bj Tryz.prog 307 [.agg (fA x),.agg (fA y)] fun s=>s= .int .i64 r:=by
 refine ht ae Tryz.f307 ?_
 unfold vcC at hm
 unfold wj at hm
 refine z ?_
 refine ci ae Tryz.f254 (z ?_)
 refine gL (z ?_)
 refine bA ae ?_
 refine z ?_
 refine cA (j:=0) rfl (by decide) (z ?_)
 refine⟨_,rfl,?_⟩
 refine z ?_
 obtain⟨v1,e1,hm⟩:=aa hm
 refine bH (NV e1) (z ?_)
 refine zn ?_ ?_<;>intro h2
 rw[Ti h2] at hm
 refine ei (z ?_)
 cases hm
 exact mst
 rw[Th h2] at hm
 refine bA ae ?_
 refine z ?_
 refine cA (j:=1) rfl (by decide) (z ?_)
 refine⟨_,rfl,?_⟩
 refine z ?_
 obtain⟨v3,e3,hm⟩:=aa hm
 refine bH (NU h e3) (z ?_)
 refine zn ?_ ?_<;>intro h4
 rw[Ti h4] at hm
 refine ei (z ?_)
 cases hm
 exact mst
 rw[Th h4] at hm
 refine bA ae ?_
 refine z ?_
 refine ei (z ?_)
 cases hm
 exact mst
theorem NK {rec:bG Va->bG Va->Option Int} (h:pq rec) {x y:aM Va} {r:Int} (hm:gm (vcF rec) x.fields y.fields=some r):bj Tryz.prog 299 [.bN (aC aL x) 0,.bN (aC aL y) 0] fun s=>s= .int .i64 r:=by
 refine ht ae Tryz.f299 (z ?_)
 replace hm:=aB hm
 obtain⟨v1,e1,hm⟩:=aa hm
 refine ct (SM (Q2 h) e1) (z ?_)
 cases hm
 exact mst
theorem NJ {rec:bG Va->bG Va->Option Int} (h:pq rec) {x y:aM Va} {r:Int} (hm:gm (vcC rec) x.az y.az=some r):bj Tryz.prog 305 [.bN (aC aL x) 0,.bN (aC aL y) 0] fun s=>s= .int .i64 r:=by
 refine ht ae Tryz.f305 (z ?_)
 replace hm:=aB hm
 obtain⟨v1,e1,hm⟩:=aa hm
 refine ct (SN (Q3 h) e1) (z ?_)
 cases hm
 exact mst
def NH (rec:bG Va->bG Va->Option Int) (x y:aM Va):Option Int:=wj (gm (vcF rec) x.fields y.fields) (wj (gm (vcC rec) x.az y.az) (some 0))
theorem NG {rec:bG Va->bG Va->Option Int} (h:pq rec) {x y:aM Va} {r:Int} (hm:NH rec x y=some r):bj Tryz.prog 263 [.agg (aC aL x),.agg (aC aL y)] fun s=>s= .int .i64 r:=by
 refine ht ae Tryz.f263 ?_
 unfold NH at hm
 unfold wj at hm
 refine z ?_
 refine ci ae Tryz.f254 (z ?_)
 refine gL (z ?_)
 refine bA ae ?_
 refine z ?_
 refine cA (j:=0) rfl (by decide) (z ?_)
 refine⟨_,rfl,?_⟩
 refine z ?_
 obtain⟨v1,e1,hm⟩:=aa hm
 refine bH (NK h e1) (z ?_)
 refine zn ?_ ?_<;>intro h2
 rw[Ti h2] at hm
 refine ei (z ?_)
 cases hm
 exact mst
 rw[Th h2] at hm
 refine bA ae ?_
 refine z ?_
 refine cA (j:=1) rfl (by decide) (z ?_)
 refine⟨_,rfl,?_⟩
 refine z ?_
 obtain⟨v3,e3,hm⟩:=aa hm
 refine bH (NJ h e3) (z ?_)
 refine zn ?_ ?_<;>intro h4
 rw[Ti h4] at hm
 refine ei (z ?_)
 cases hm
 exact mst
 rw[Th h4] at hm
 refine bA ae ?_
 refine z ?_
 refine ei (z ?_)
 cases hm
 exact mst
theorem Q7 {a b:bG Va} {r:Int} (hm:Ba a.any b.any=some r):Has Tryz.prog 255 [.bN (cj aL a) 0,.bN (cj aL b) 0] fun s=>s= .int .i64 r:=by
 refine hs ae Tryz.f255 (z ?_)
 replace hm:=aB hm
 obtain⟨v1,e1,hm⟩:=aa hm
 refine ce (A9 e1) (z ?_)
 cases hm
 exact fc
theorem Q6 {a b:bG Va} {r:Int} (hm:CY a.sc b.sc=some r):bj Tryz.prog 257 [.bN (cj aL a) 0,.bN (cj aL b) 0] fun s=>s= .int .i64 r:=by
 refine ht ae Tryz.f257 (z ?_)
 replace hm:=aB hm
 obtain⟨v1,e1,hm⟩:=aa hm
 refine ct (CX e1) (z ?_)
 cases hm
 exact mst
theorem Q5 {rec:bG Va->bG Va->Option Int} (h:pq rec) {a b:bG Va} {r:Int} (hm:gm (NN rec) a.lists b.lists=some r):bj Tryz.prog 258 [.bN (cj aL a) 0,.bN (cj aL b) 0] fun s=>s= .int .i64 r:=by
 refine ht ae Tryz.f258 (z ?_)
 replace hm:=aB hm
 obtain⟨v1,e1,hm⟩:=aa hm
 refine ct (SL (NL h) e1) (z ?_)
 cases hm
 exact mst
theorem Q4 {rec:bG Va->bG Va->Option Int} (h:pq rec) {a b:bG Va} {r:Int} (hm:gm (NH rec) a.structs b.structs=some r):bj Tryz.prog 261 [.bN (cj aL a) 0,.bN (cj aL b) 0] fun s=>s= .int .i64 r:=by
 refine ht ae Tryz.f261 (z ?_)
 replace hm:=aB hm
 obtain⟨v1,e1,hm⟩:=aa hm
 refine ct (SK (NG h) e1) (z ?_)
 cases hm
 exact mst
def JT:Nat->bG Va->bG Va->Option Int
 |0,_,_=>none
 |n+1,a,b=>wj (Ba a.any b.any) (wj (CY a.sc b.sc) (wj (gm (NN (JT n)) a.lists b.lists) (wj (gm (NH (JT n)) a.structs b.structs) (some 0))))
theorem NF:∀{n:Nat},pq (JT n):=by
 intro n
 induction n with
 |zero=>intro a b r hm;cases hm
 |succ n ih=>
  intro a b r hm
  refine ht ae Tryz.f214 ?_
  unfold JT at hm
  unfold wj at hm
  refine z ?_
  refine ci ae Tryz.f254 (z ?_)
  refine gL (z ?_)
  refine bA ae ?_
  refine z ?_
  refine cA (j:=0) rfl (by decide) (z ?_)
  refine⟨_,rfl,?_⟩
  refine z ?_
  obtain⟨v1,e1,hm⟩:=aa hm
  refine cm (Q7 e1) rfl (z ?_)
  refine zn ?_ ?_<;>intro h2
  ·rw[Ti h2] at hm
   refine ei (z ?_)
   cases hm
   exact mst
  ·rw[Th h2] at hm
   refine bA ae ?_
   refine z ?_
   refine cA (j:=1) rfl (by decide) (z ?_)
   refine⟨_,rfl,?_⟩
   refine z ?_
   obtain⟨v3,e3,hm⟩:=aa hm
   refine bH (Q6 e3) (z ?_)
   refine zn ?_ ?_<;>intro h4
   ·rw[Ti h4] at hm
    refine ei (z ?_)
    cases hm
    exact mst
   ·rw[Th h4] at hm
    refine bA ae ?_
    refine z ?_
    refine cA (j:=2) rfl (by decide) (z ?_)
    refine⟨_,rfl,?_⟩
    refine z ?_
    obtain⟨v5,e5,hm⟩:=aa hm
    refine bH (Q5 ih e5) (z ?_)
    refine zn ?_ ?_<;>intro h6
    ·rw[Ti h6] at hm
     refine ei (z ?_)
     cases hm
     exact mst
    ·rw[Th h6] at hm
     refine bA ae ?_
     refine z ?_
     refine cA (j:=3) rfl (by decide) (z ?_)
     refine⟨_,rfl,?_⟩
     refine z ?_
     obtain⟨v7,e7,hm⟩:=aa hm
     refine bH (Q4 ih e7) (z ?_)
     refine zn ?_ ?_<;>intro h8
     ·rw[Ti h8] at hm
      refine ei (z ?_)
      cases hm
      exact mst
     ·rw[Th h8] at hm
      refine bA ae ?_
      refine z ?_
      refine ei (z ?_)
      cases hm
      exact mst
def ET (a b:bG Va):Option Int:=(iA a).bind fun x=>if x then(iA b).bind fun y=>if y then JT hY a b else some 0 else some 0
theorem yD {a b:bG Va} {r:Int} (hm:ET a b=some r):bj Tryz.prog 170 [.agg (cj aL a),.agg (cj aL b)] fun s=>s= .int .i64 r:=by
 refine ht ae Tryz.f170 ?_
 unfold ET at hm
 refine z ?_
 obtain⟨v1,e1,hm⟩:=aa hm
 refine ct (mV e1) (z ?_)
 refine zm ?_ ?_<;>intro h2
 rw[Ti (nt h2)] at hm
 cases hm
 exact mst
 rw[Th h2] at hm
 obtain⟨v3,e3,hm⟩:=aa hm
 refine ct (mV e3) (z ?_)
 refine zm ?_ ?_<;>intro h4
 rw[Ti (nt h4)] at hm
 cases hm
 exact mst
 rw[Th h4] at hm
 replace hm:=aB hm
 obtain⟨v5,e5,hm⟩:=aa hm
 refine ct (NF e5) (z ?_)
 cases hm
 exact mst
section
variable {α:Type}
def fg (g:α->Option Bool):List α->Int->Option Int
 |[],_=>some (-1)
 |x::r,i=>(g x).bind fun c=>if c then some i else fg g r (i+1)
def oV (g:α->Option Bool) (l:List α):Option Int:=(aN l).bind fun _=>fg g l 0
def lT (g:α->Option Bool) (l:List α):Option Bool:=(oV g l).bind fun i=>some (decide (i>=0))
def Af (is:α->α->Option Bool) (b:List α):List α->Option Bool
 |[]=>some true
 |x::r=>(lT (is x) b).bind fun c=>if c then Af is b r else some false
def vw (is:α->α->Option Bool) (a b:List α):Option Bool:=(aN a).bind fun _=>Af is b a
end
theorem RW {fn:FuncId} {cap:List SVal} (hc:aw cap=true) (hw:cG cap=cap) {g:bg Va->Option Bool} (hg:∀{x r},g x=some r->bj Tryz.prog fn (.agg (aQ aL x)::cap) fun s=>s= .bool r) {l:List (bg Va)} {r:Int} (hm:oV g l=some r):bj Tryz.prog 81 [.aE false (l.map (aQ aL)),.func (.func fn) [] cap] fun s=>s= .int .i64 r:=by
 refine ht ae Tryz.f81 ?_
 unfold oV at hm
 refine z ?_
 obtain⟨hg1,hm⟩:=ah hm
 refine lg (α:=Nat) ae (fun iw=>(fg g (List.drop iw l) (iw:Int)=some r,⟨19,[(8,.int .i64 iw),(7,.int .i64 ↑l.length),(4,.int .i64 0),(0,.aE false (List.map (aQ aL) l)),(1,.func (.func fn) [] cap)]⟩,⟨[(0,aX)],1,0,[],[]⟩,List.length l-iw)) ⟨(0),hm⟩ ?_
 intro i2 hq2
 dsimp only at hq2
 refine z ?_
 refine zd ?_ ?_<;>intro h3
 obtain⟨x3,ex3,ed3⟩:=an h3
 rw[ed3,fg] at hq2
 refine z ?_
 refine bq ex3 rfl (z ?_)
 obtain⟨v4,e4,hq2⟩:=aa hq2
 refine jd (hg e4) (by(simp only[cG,kp,hw];try rfl)) rfl (z ?_)
 refine zr ?_ ?_<;>intro h5
 rw[Th h5] at hq2
 cases hq2
 exact mst
 rw[Ti (nt h5)] at hq2
 exact bk ⟨i2+1,hq2⟩
 rw[aq h3,fg] at hq2
 cases hq2
 exact mst
theorem Mc {fn:FuncId} {cap:List SVal} (hc:aw cap=true) (hw:cG cap=cap) {g:bg Va->Option Bool} (hg:∀{x r},g x=some r->bj Tryz.prog fn (.agg (aQ aL x)::cap) fun s=>s= .bool r) {l:List (bg Va)} {r:Bool} (hm:lT g l=some r):bj Tryz.prog 48 [.aE false (l.map (aQ aL)),.func (.func fn) [] cap] fun s=>s= .bool r:=by
 refine ht ae Tryz.f48 ?_
 unfold lT at hm
 refine z ?_
 obtain⟨v1,e1,hm⟩:=aa hm
 refine ct (RW hc hw hg e1) (z ?_)
 cases hm
 exact mst
theorem PF {fn:FuncId} {is:bg Va->bg Va->Option Bool} (hg:∀{x y r},is x y=some r->bj Tryz.prog fn [.agg (aQ aL x),.agg (aQ aL y)] fun s=>s= .bool r) {x y:bg Va} {r:Bool} (hm:is x y=some r):bj Tryz.prog 106 [.agg (aQ aL y),.bN [.func (.func fn) [] []] 0,.bN (aQ aL x) 0] fun s=>s= .bool r:=by
 refine ht ae Tryz.f106 (z ?_)
 replace hm:=aB hm
 obtain⟨v1,e1,hm⟩:=aa hm
 refine ct (hg e1) (z ?_)
 cases hm
 exact mst
theorem Sy {fn:FuncId} {is:bg Va->bg Va->Option Bool} (hg:∀{x y r},is x y=some r->bj Tryz.prog fn [.agg (aQ aL x),.agg (aQ aL y)] fun s=>s= .bool r) {a b:List (bg Va)} {r:Bool} (hm:vw is a b=some r):bj Tryz.prog 75 [.aE false (a.map (aQ aL)),.aE false (b.map (aQ aL)),.func (.func fn) [] []] fun s=>s= .bool r:=by
 refine ht ae Tryz.f75 ?_
 unfold vw at hm
 refine z ?_
 obtain⟨hg1,hm⟩:=ah hm
 refine r6 1 rfl rfl ?_
 refine lg (α:=Nat) ae (fun iw=>(Af is b (List.drop iw a)=some r,⟨20,[(11,.int .i64 iw),(10,.int .i64 ↑a.length),(9,.aE false (List.map (aQ aL) a)),(6,.bool false),(5,.ptr 1 0),(1,.aE false (List.map (aQ aL) b))]⟩,⟨[(1,.still [.func (.func fn) [] []]),(0,aX)],2,0,[],[]⟩,List.length a-iw)) ⟨(0),hm⟩ ?_
 intro i2 hq2
 dsimp only at hq2
 refine z ?_
 refine zd ?_ ?_<;>intro h3
 obtain⟨x3,ex3,ed3⟩:=an h3
 rw[ed3,Af] at hq2
 refine z ?_
 refine bq ex3 rfl (z ?_)
 obtain⟨v4,e4,hq2⟩:=aa hq2
 refine bH (Mc (by simp only[aw,closed,aG,cM,bK,b6,eC,cl,dx,Tq]) rfl (PF hg) e4) (z ?_)
 refine zm ?_ ?_<;>intro h5
 rw[Ti (nt h5)] at hq2
 cases hq2
 exact mst
 rw[Th h5] at hq2
 exact bk ⟨i2+1,hq2⟩
 rw[aq h3,Af] at hq2
 cases hq2
 exact mst
theorem RU {fn:FuncId} {cap:List SVal} (hc:aw cap=true) (hw:cG cap=cap) {g:aM Va->Option Bool} (hg:∀{x r},g x=some r->bj Tryz.prog fn (.agg (aC aL x)::cap) fun s=>s= .bool r) {l:List (aM Va)} {r:Int} (hm:oV g l=some r):bj Tryz.prog 83 [.aE false (l.map (aC aL)),.func (.func fn) [] cap] fun s=>s= .int .i64 r:=by
 refine ht ae Tryz.f83 ?_
 unfold oV at hm
 refine z ?_
 obtain⟨hg1,hm⟩:=ah hm
 refine lg (α:=Nat) ae (fun iw=>(fg g (List.drop iw l) (iw:Int)=some r,⟨19,[(8,.int .i64 iw),(7,.int .i64 ↑l.length),(4,.int .i64 0),(0,.aE false (List.map (aC aL) l)),(1,.func (.func fn) [] cap)]⟩,⟨[(0,aX)],1,0,[],[]⟩,List.length l-iw)) ⟨(0),hm⟩ ?_
 intro i2 hq2
 dsimp only at hq2
 refine z ?_
 refine zd ?_ ?_<;>intro h3
 obtain⟨x3,ex3,ed3⟩:=an h3
 rw[ed3,fg] at hq2
 refine z ?_
 refine bq ex3 rfl (z ?_)
 obtain⟨v4,e4,hq2⟩:=aa hq2
 refine jd (hg e4) (by(simp only[cG,kp,hw];try rfl)) rfl (z ?_)
 refine zr ?_ ?_<;>intro h5
 rw[Th h5] at hq2
 cases hq2
 exact mst
 rw[Ti (nt h5)] at hq2
 exact bk ⟨i2+1,hq2⟩
 rw[aq h3,fg] at hq2
 cases hq2
 exact mst
theorem Mb {fn:FuncId} {cap:List SVal} (hc:aw cap=true) (hw:cG cap=cap) {g:aM Va->Option Bool} (hg:∀{x r},g x=some r->bj Tryz.prog fn (.agg (aC aL x)::cap) fun s=>s= .bool r) {l:List (aM Va)} {r:Bool} (hm:lT g l=some r):bj Tryz.prog 52 [.aE false (l.map (aC aL)),.func (.func fn) [] cap] fun s=>s= .bool r:=by
 refine ht ae Tryz.f52 ?_
 unfold lT at hm
 refine z ?_
 obtain⟨v1,e1,hm⟩:=aa hm
 refine ct (RU hc hw hg e1) (z ?_)
 cases hm
 exact mst
theorem PE {fn:FuncId} {is:aM Va->aM Va->Option Bool} (hg:∀{x y r},is x y=some r->bj Tryz.prog fn [.agg (aC aL x),.agg (aC aL y)] fun s=>s= .bool r) {x y:aM Va} {r:Bool} (hm:is x y=some r):bj Tryz.prog 107 [.agg (aC aL y),.bN [.func (.func fn) [] []] 0,.bN (aC aL x) 0] fun s=>s= .bool r:=by
 refine ht ae Tryz.f107 (z ?_)
 replace hm:=aB hm
 obtain⟨v1,e1,hm⟩:=aa hm
 refine ct (hg e1) (z ?_)
 cases hm
 exact mst
theorem Sx {fn:FuncId} {is:aM Va->aM Va->Option Bool} (hg:∀{x y r},is x y=some r->bj Tryz.prog fn [.agg (aC aL x),.agg (aC aL y)] fun s=>s= .bool r) {a b:List (aM Va)} {r:Bool} (hm:vw is a b=some r):bj Tryz.prog 77 [.aE false (a.map (aC aL)),.aE false (b.map (aC aL)),.func (.func fn) [] []] fun s=>s= .bool r:=by
 refine ht ae Tryz.f77 ?_
 unfold vw at hm
 refine z ?_
 obtain⟨hg1,hm⟩:=ah hm
 refine r6 1 rfl rfl ?_
 refine lg (α:=Nat) ae (fun iw=>(Af is b (List.drop iw a)=some r,⟨20,[(11,.int .i64 iw),(10,.int .i64 ↑a.length),(9,.aE false (List.map (aC aL) a)),(6,.bool false),(5,.ptr 1 0),(1,.aE false (List.map (aC aL) b))]⟩,⟨[(1,.still [.func (.func fn) [] []]),(0,aX)],2,0,[],[]⟩,List.length a-iw)) ⟨(0),hm⟩ ?_
 intro i2 hq2
 dsimp only at hq2
 refine z ?_
 refine zd ?_ ?_<;>intro h3
 obtain⟨x3,ex3,ed3⟩:=an h3
 rw[ed3,Af] at hq2
 refine z ?_
 refine bq ex3 rfl (z ?_)
 obtain⟨v4,e4,hq2⟩:=aa hq2
 refine bH (Mb (by simp only[aw,closed,aG,cM,bK,b6,eC,cl,dx,Tq]) rfl (PE hg) e4) (z ?_)
 refine zm ?_ ?_<;>intro h5
 rw[Ti (nt h5)] at hq2
 cases hq2
 exact mst
 rw[Th h5] at hq2
 exact bk ⟨i2+1,hq2⟩
 rw[aq h3,Af] at hq2
 cases hq2
 exact mst
theorem RX {fn:FuncId} {cap:List SVal} (hc:aw cap=true) (hw:cG cap=cap) {g:dH Va->Option Bool} (hg:∀{x r},g x=some r->Has Tryz.prog fn (.agg (fA x)::cap) fun s=>s= .bool r) {l:List (dH Va)} {r:Int} (hm:oV g l=some r):Has Tryz.prog 163 [.aE false (l.map (dN aL)),.func (.func fn) [] cap] fun s=>s= .int .i64 r:=by
 refine hs ae Tryz.f163 ?_
 unfold oV at hm
 refine z ?_
 obtain⟨hg1,hm⟩:=ah hm
 refine lg (α:=Nat) ae (fun iw=>(fg g (List.drop iw l) (iw:Int)=some r,⟨19,[(8,.int .i64 iw),(7,.int .i64 ↑l.length),(4,.int .i64 0),(0,.aE false (List.map (dN aL) l)),(1,.func (.func fn) [] cap)]⟩,⟨[],0,0,[],[]⟩,List.length l-iw)) ⟨(0),hm⟩ ?_
 intro i2 hq2
 dsimp only at hq2
 refine z ?_
 refine zd ?_ ?_<;>intro h3
 obtain⟨x3,ex3,ed3⟩:=an h3
 rw[ed3,fg] at hq2
 refine z ?_
 refine bC (cF _) ex3 rfl (z ?_)
 obtain⟨v4,e4,hq2⟩:=aa hq2
 refine kK (hg e4) (by(simp only[cG,kp,hw];try rfl)) (z ?_)
 refine zr ?_ ?_<;>intro h5
 rw[Th h5] at hq2
 cases hq2
 exact fc
 rw[Ti (nt h5)] at hq2
 exact bk ⟨i2+1,hq2⟩
 rw[aq h3,fg] at hq2
 cases hq2
 exact fc
abbrev Qm (rec:bG Va->bG Va->Option Bool):Prop:=∀{a b r},rec a b=some r->bj Tryz.prog 45 [.agg (cj aL a),.agg (cj aL b)] fun s=>s= .bool r
def p6 (rec:bG Va->bG Va->Option Bool) (x y:Va):Option Bool:=(rec x.v y.v).bind fun c=>if c then rec x.d y.d else some false
theorem la {rec:bG Va->bG Va->Option Bool} (h:Qm rec) {x y:Va} {r:Bool} (hm:p6 rec x y=some r):bj Tryz.prog 30 [.agg (eo x),.agg (eo y)] fun s=>s= .bool r:=by
 refine ht ae Tryz.f30 ?_
 unfold p6 at hm
 refine z ?_
 obtain⟨v1,e1,hm⟩:=aa hm
 refine ct (h e1) (z ?_)
 refine zr ?_ ?_<;>intro h2
 rw[Th h2] at hm
 replace hm:=aB hm
 obtain⟨v3,e3,hm⟩:=aa hm
 refine ct (h e3) (z ?_)
 cases hm
 exact mst
 rw[Ti (nt h2)] at hm
 cases hm
 exact mst
def lbE (rec:bG Va->bG Va->Option Bool) (a b:bg Va):Option Bool:=(aN a.rest).bind fun _=>if(a.rest.length:Int)=0 then some true else(cN a.rest 0).bind fun x=>(cN b.rest 0).bind fun y=>p6 rec x y
def Jx (rec:bG Va->bG Va->Option Bool) (a b:bg Va):List Va->Int->Option Bool
 |[],_=>lbE rec a b
 |x::r,i=>(item b i).bind fun p=>(p6 rec x p.1).bind fun c=>if c then Jx rec a b r (i+1) else some false
def ON (rec:bG Va->bG Va->Option Bool) (a b:bg Va):Option Bool:=(aN b.rest).bind fun _=>(aN a.items).bind fun _=>(aN b.items).bind fun _=>
 if(a.items.length:Int)<b.items.length then some false else if(b.rest.length:Int)>0 then Jx rec a b a.items 0
 else if(a.items.length:Int)>b.items.length then some false else(aN a.rest).bind fun _=>if(a.rest.length:Int)>0 then some false else Jx rec a b a.items 0
theorem Lh {rec:bG Va->bG Va->Option Bool} (h:Qm rec) {x y:bg Va} {r:Bool} (hm:ON rec x y=some r):bj Tryz.prog 76 [.agg (aQ aL x),.agg (aQ aL y)] fun s=>s= .bool r:=by
 refine ht ae Tryz.f76 ?_
 unfold ON at hm
 refine z ?_
 obtain⟨hg1,hm⟩:=ah hm
 obtain⟨hg2,hm⟩:=ah hm
 obtain⟨hg3,hm⟩:=ah hm
 refine zd ?_ ?_<;>intro h4
 rw[Th h4] at hm
 cases hm
 exact mst
 rw[Ti h4] at hm
 refine zn ?_ ?_<;>intro h5
 rw[Ti h5] at hm
 refine zd ?_ ?_<;>intro h6
 rw[Th h6] at hm
 cases hm
 exact mst
 rw[Ti h6] at hm
 obtain⟨hg7,hm⟩:=ah hm
 refine zd ?_ ?_<;>intro h8
 rw[Th h8] at hm
 cases hm
 exact mst
 rw[Ti h8] at hm
 refine lg (α:=Nat) ae (fun iw=>(Jx rec x y (List.drop iw x.items) (iw:Int)=some r,⟨74,[(43,.int .i64 iw),(42,.int .i64 ↑x.items.length),(41,.aE false (List.map aL x.items)),(4,.bool false),(3,.ptr 2 0),(2,.ptr 1 0)]⟩,⟨[(2,.cells (aQ aL y)),(1,.cells (aQ aL x)),(0,aX)],3,0,[],[]⟩,List.length x.items-iw)) ⟨(0),hm⟩ ?_
 intro i9 hq9
 dsimp only at hq9
 refine z ?_
 refine zd ?_ ?_<;>intro h10
 obtain⟨x10,ex10,ed10⟩:=an h10
 rw[ed10,Jx] at hq9
 refine z ?_
 refine bC (cP _) ex10 rfl (z ?_)
 obtain⟨v11,e11,hq9⟩:=aa hq9
 refine ce (zY e11) (z ?_)
 obtain⟨v12,e12,hq9⟩:=aa hq9
 refine ct (la h e12) (z ?_)
 refine zm ?_ ?_<;>intro h13
 rw[Ti (nt h13)] at hq9
 cases hq9
 exact mst
 rw[Th h13] at hq9
 exact bk ⟨i9+1,hq9⟩
 rw[aq h10,Jx] at hq9
 unfold lbE at hq9
 refine z ?_
 refine dg ae [0,1,3,7,15,31,63,127,255,31,543,1567,3615,8191,16383,32767] [] (z ?_)
 obtain⟨hg14,hq9⟩:=ah hq9
 have h15:((↑x.rest.length:Int)=0):=by omega
 refine Jk h15 (z ?_)
 rw[Th h15] at hq9
 cases hq9
 exact mst
 rw[Th h5] at hm
 refine lg (α:=Nat) ae (fun iw=>(Jx rec x y (List.drop iw x.items) (iw:Int)=some r,⟨74,[(43,.int .i64 iw),(42,.int .i64 ↑x.items.length),(41,.aE false (List.map aL x.items)),(4,.bool false),(3,.ptr 2 0),(2,.ptr 1 0)]⟩,⟨[(2,.cells (aQ aL y)),(1,.cells (aQ aL x)),(0,aX)],3,0,[],[]⟩,List.length x.items-iw)) ⟨(0),hm⟩ ?_
 intro i16 hq16
 dsimp only at hq16
 refine z ?_
 refine zd ?_ ?_<;>intro h17
 obtain⟨x17,ex17,ed17⟩:=an h17
 rw[ed17,Jx] at hq16
 refine z ?_
 refine bC (cP _) ex17 rfl (z ?_)
 obtain⟨v18,e18,hq16⟩:=aa hq16
 refine ce (zY e18) (z ?_)
 obtain⟨v19,e19,hq16⟩:=aa hq16
 refine ct (la h e19) (z ?_)
 refine zm ?_ ?_<;>intro h20
 rw[Ti (nt h20)] at hq16
 cases hq16
 exact mst
 rw[Th h20] at hq16
 exact bk ⟨i16+1,hq16⟩
 rw[aq h17,Jx] at hq16
 unfold lbE at hq16
 refine z ?_
 refine dg ae [0,1,3,7,15,31,63,127,255,31,543,1567,3615,8191,16383,32767] [] (z ?_)
 obtain⟨hg21,hq16⟩:=ah hq16
 refine zd ?_ ?_<;>intro h22
 rw[Th h22] at hq16
 cases hq16
 exact mst
 rw[Ti h22] at hq16
 obtain⟨j23,x23,en23,ex23,hq16⟩:=av hq16
 refine bI (cP _) en23 ex23 rfl (z ?_)
 obtain⟨j24,x24,en24,ex24,hq16⟩:=av hq16
 refine bI (cP _) en24 ex24 rfl (z ?_)
 replace hq16:=aB hq16
 obtain⟨v25,e25,hq16⟩:=aa hq16
 refine ct (la h e25) (z ?_)
 cases hq16
 exact mst
def Nh (rec:bG Va->bG Va->Option Bool) (a b:aM Va) (f:dO Va):Option Bool:=(view a f.label).bind fun x=>(view b f.label).bind fun y=>if x.2>y.2 then some false else p6 rec x.1 y.1
def Ee (rec:bG Va->bG Va->Option Bool) (x:dH Va):List (dH Va)->Option Bool
 |[]=>some true
 |y::r=>(p6 rec x.val y.val).bind fun c=>if c then Ee rec x r else(MT x.set y.set).bind fun l=>(aN l).bind fun _=>if(l.length:Int)>0 then some false else Ee rec x r
def Qs (rec:bG Va->bG Va->Option Bool) (kb:List (dH Va)):List (dH Va)->Option Bool
 |[]=>some true
 |x::r=>(aN kb).bind fun _=>(Ee rec x kb).bind fun c=>if c then Qs rec kb r else some false
def zu (rec:bG Va->bG Va->Option Bool) (a b:aM Va):List (dO Va)->Option Bool
 |[]=>(aN a.az).bind fun _=>Qs rec b.az a.az
 |f::r=>(Nh rec a b f).bind fun c=>if c then zu rec a b r else some false
def Bw (rec:bG Va->bG Va->Option Bool) (a b:aM Va):List (dO Va)->Option Bool
 |[]=>(aN b.fields).bind fun _=>zu rec a b b.fields
 |f::r=>(Nh rec a b f).bind fun c=>if c then Bw rec a b r else some false
def sbM (rec:bG Va->bG Va->Option Bool) (a b:aM Va):Option Bool:=(aN a.fields).bind fun _=>Bw rec a b a.fields
theorem Kp {rec:bG Va->bG Va->Option Bool} (h:Qm rec) {x y:aM Va} {r:Bool} (hm:sbM rec x y=some r):bj Tryz.prog 78 [.agg (aC aL x),.agg (aC aL y)] fun s=>s= .bool r:=by
 refine ht ae Tryz.f78 ?_
 unfold sbM at hm
 refine z ?_
 refine dg ae [0,1,0,4,12,0,32,96,255,0,512,2047,4095,0] [] (z ?_)
 obtain⟨hg1,hm⟩:=ah hm
 refine⟨0,_,rfl,rfl,rfl,TC _,by simp only[Tr];omega,?_⟩
 refine z ?_
 refine Fi (z ?_)
 refine gL (z ?_)
 refine bA ae ?_
 refine z ?_
 refine cA (j:=0) rfl (by simp) (z ?_)
 refine⟨_,rfl,?_⟩
 refine z ?_
 refine lg (α:=Nat) ae (fun iw=>(Bw rec x y (List.drop iw x.fields)=some r,⟨97,[(36,.int .i64 iw),(35,SVal.int IntKind.i64 ↑x.fields.length),(34,SVal.aE false (List.map (di aL) x.fields)),(6,SVal.aE false (List.map (di aL) x.fields)),(33,SVal.aE false (List.map (di aL) x.fields)),(32,SVal.fq 3 0 0 0),(30,SVal.int IntKind.i64 0),(29,SVal.int IntKind.i64 ↑[[SVal.aE false (List.map (di aL) x.fields)],[SVal.aE false (List.map (di aL) y.fields)]].length),(28,SVal.own 3 0),(4,SVal.bool false),(3,SVal.ptr 2 0),(2,SVal.ptr 1 0)]⟩,⟨[(3,bm.row 1 [[SVal.aE false (List.map (di aL) x.fields)],[SVal.aE false (List.map (di aL) y.fields)]] 0 false),(2,bm.cells (aC aL y)),(1,bm.cells (aC aL x)),(0,aX)],4,0,[],[]⟩,List.length x.fields-iw)) ⟨(0),hm⟩ ?_
 intro i2 hq2
 dsimp only at hq2
 refine z ?_
 refine zd ?_ ?_<;>intro h3
 obtain⟨x3,ex3,ed3⟩:=an h3
 rw[ed3,Bw] at hq2
 unfold Nh at hq2
 rw[Tl] at hq2
 refine z ?_
 refine bC (cW _) ex3 rfl (z ?_)
 obtain⟨v4,e4,hq2⟩:=aa hq2
 refine ce (pD e4) ?_
 rw[Tl] at hq2
 refine z ?_
 obtain⟨v5,e5,hq2⟩:=aa hq2
 refine ce (pD e5) (z ?_)
 refine zd ?_ ?_<;>intro h6
 rw[Th h6] at hq2
 dsimp only[Option.bind_some] at hq2
 rw[Ti TL] at hq2
 cases hq2
 exact mst
 rw[Ti h6] at hq2
 obtain⟨v7,e7,hq2⟩:=aa hq2
 refine ct (la h e7) (z ?_)
 refine zm ?_ ?_<;>intro h8
 rw[Ti (nt h8)] at hq2
 cases hq2
 exact mst
 rw[Th h8] at hq2
 exact bk ⟨i2+1,hq2⟩
 rw[aq h3,Bw] at hq2
 refine bA ae ?_
 refine z ?_
 obtain⟨hg9,hq2⟩:=ah hq2
 refine cA (j:=1) rfl (by simp) (z ?_)
 refine⟨_,rfl,?_⟩
 refine z ?_
 refine aY rfl rfl ?_
 refine lg (α:=Nat) ae (fun iw=>(zu rec x y (List.drop iw y.fields)=some r,⟨97,[(36,.int .i64 iw),(35,SVal.int IntKind.i64 ↑y.fields.length),(34,SVal.aE false (List.map (di aL) y.fields)),(6,SVal.aE false (List.map (di aL) y.fields)),(33,SVal.aE false (List.map (di aL) y.fields)),(32,SVal.fq 3 0 1 0),(30,SVal.int IntKind.i64 (0+1)),(64,SVal.int IntKind.i64 (0+1)),(29,SVal.int IntKind.i64 ↑[[SVal.aE false (List.map (di aL) x.fields)],[SVal.aE false (List.map (di aL) y.fields)]].length),(28,SVal.own 3 0),(4,SVal.bool false),(3,SVal.ptr 2 0),(2,SVal.ptr 1 0)]⟩,⟨[(3,bm.row 1 [[SVal.aE false (List.map (di aL) x.fields)],[SVal.aE false (List.map (di aL) y.fields)]] 0 false),(2,bm.cells (aC aL y)),(1,bm.cells (aC aL x)),(0,aX)],4,0,[],[]⟩,List.length y.fields-iw)) ⟨(0),hq2⟩ ?_
 intro i10 hq10
 dsimp only at hq10
 refine z ?_
 refine zd ?_ ?_<;>intro h11
 obtain⟨x11,ex11,ed11⟩:=an h11
 rw[ed11,zu] at hq10
 unfold Nh at hq10
 rw[Tl] at hq10
 refine z ?_
 refine bC (cW _) ex11 rfl (z ?_)
 obtain⟨v12,e12,hq10⟩:=aa hq10
 refine ce (pD e12) ?_
 rw[Tl] at hq10
 refine z ?_
 obtain⟨v13,e13,hq10⟩:=aa hq10
 refine ce (pD e13) (z ?_)
 refine zd ?_ ?_<;>intro h14
 rw[Th h14] at hq10
 dsimp only[Option.bind_some] at hq10
 rw[Ti TL] at hq10
 cases hq10
 exact mst
 rw[Ti h14] at hq10
 obtain⟨v15,e15,hq10⟩:=aa hq10
 refine ct (la h e15) (z ?_)
 refine zm ?_ ?_<;>intro h16
 rw[Ti (nt h16)] at hq10
 cases hq10
 exact mst
 rw[Th h16] at hq10
 exact bk ⟨i10+1,hq10⟩
 rw[aq h11,zu] at hq10
 refine bA ae ?_
 refine z ?_
 obtain⟨hg17,hq10⟩:=ah hq10
 refine aY rfl rfl ?_
 refine lg (α:=Nat) ae (fun iw=>(Qs rec y.az (List.drop iw x.az)=some r,⟨97,[(68,.int .i64 iw),(67,SVal.int IntKind.i64 ↑x.az.length),(66,SVal.aE false (List.map (dN aL) x.az)),(4,SVal.bool false),(3,SVal.ptr 2 0)]⟩,⟨[(3,bm.row 1 [[SVal.aE false (List.map (di aL) x.fields)],[SVal.aE false (List.map (di aL) y.fields)]] 0 false),(2,bm.cells (aC aL y)),(1,bm.cells (aC aL x)),(0,aX)],4,0,[],[]⟩,List.length x.az-iw)) ⟨(0),hq10⟩ ?_
 intro i18 hq18
 dsimp only at hq18
 refine z ?_
 refine zd ?_ ?_<;>intro h19
 obtain⟨x19,ka,ed19⟩:=an h19
 rw[ed19,Qs] at hq18
 refine z ?_
 obtain⟨hg20,hq18⟩:=ah hq18
 refine bC (cF _) ka rfl (z ?_)
 obtain⟨v21,hv21,hq18⟩:=aa hq18
 refine lg (α:=Nat) ae (fun iw=>(Ee rec x19 (List.drop iw y.az)=some v21,⟨97,[(75,.int .i64 iw),(74,SVal.int IntKind.i64 ↑y.az.length),(73,SVal.aE false (List.map (dN aL) y.az)),(14,SVal.ptr 4 0),(68,SVal.int IntKind.i64 ↑i18),(67,SVal.int IntKind.i64 ↑x.az.length),(66,SVal.aE false (List.map (dN aL) x.az)),(4,SVal.bool false),(3,SVal.ptr 2 0)]⟩,⟨[(4,bm.cells (fA x19)),(3,bm.row 1 [[SVal.aE false (List.map (di aL) x.fields)],[SVal.aE false (List.map (di aL) y.fields)]] 0 false),(2,bm.cells (aC aL y)),(1,bm.cells (aC aL x)),(0,aX)],5,0,[],[]⟩,List.length y.az-iw)) ⟨(0),hv21⟩ ?_
 intro i21 hq21
 dsimp only at hq21
 refine z ?_
 refine zd ?_ ?_<;>intro h22
 obtain⟨x22,ex22,ed22⟩:=an h22
 rw[ed22,Ee] at hq21
 refine z ?_
 refine bC (cF _) ex22 rfl (z ?_)
 obtain⟨v23,e23,hq21⟩:=aa hq21
 refine ct (la h e23) (z ?_)
 refine zm ?_ ?_<;>intro h24
 rw[Ti (nt h24)] at hq21
 obtain⟨v25,e25,hq21⟩:=aa hq21
 refine ct (P7 e25) (z ?_)
 obtain⟨hg26,hq21⟩:=ah hq21
 refine zd ?_ ?_<;>intro h27
 rw[Th h27] at hq21
 cases hq21
 rw[Ti TL] at hq18
 cases hq18
 exact mst
 rw[Ti h27] at hq21
 exact bk ⟨i21+1,hq21⟩
 rw[Th h24] at hq21
 exact bk ⟨i21+1,hq21⟩
 rw[aq h22,Ee] at hq21
 cases hq21
 rw[Th rfl] at hq18
 exact bk ⟨i18+1,hq18⟩
 rw[aq h19,Qs] at hq18
 cases hq18
 exact mst
def iG:Nat->bG Va->bG Va->Option Bool
 |0,_,_=>none
 |n+1,a,b=>if a.any then some b.any else if b.any then some b.any else(xt (.mk a zV) (.mk b zV)).bind fun c=>if c then some true else(dA a.sc b.sc).bind fun c=>if c then
   (vw (ON (iG n)) a.lists b.lists).bind fun c=>if c then vw (sbM (iG n)) a.structs b.structs else some false else some false
theorem th:∀{n:Nat},Qm (iG n):=by
 intro n
 induction n with
 |zero=>intro a b r hm;cases hm
 |succ n ih=>
  intro a b r hm
  refine ht ae Tryz.f45 ?_
  unfold iG at hm
  refine z ?_
  refine zr ?_ ?_<;>intro h1
  ·rw[Th h1] at hm
   cases hm
   exact mst
  ·rw[Ti (nt h1)] at hm
   refine zr ?_ ?_<;>intro h2
   ·rw[Th h2] at hm
    cases hm
    exact mst
   ·rw[Ti (nt h2)] at hm
    obtain⟨v3,e3,hm⟩:=aa hm
    refine ce (tU e3) (z ?_)
    refine zr ?_ ?_<;>intro h4
    ·rw[Th h4] at hm
     cases hm
     exact mst
    ·rw[Ti (nt h4)] at hm
     obtain⟨v5,e5,hm⟩:=aa hm
     refine ct (oH e5) (z ?_)
     refine zm ?_ ?_<;>intro h6
     ·rw[Ti (nt h6)] at hm
      cases hm
      exact mst
     ·rw[Th h6] at hm
      obtain⟨v7,e7,hm⟩:=aa hm
      refine ct (Sy (Lh ih) e7) (z ?_)
      refine zr ?_ ?_<;>intro h8
      ·rw[Th h8] at hm
       replace hm:=aB hm
       obtain⟨v9,e9,hm⟩:=aa hm
       refine ct (Sx (Kp ih) e9) (z ?_)
       cases hm
       exact mst
      ·rw[Ti (nt h8)] at hm
       cases hm
       exact mst
/-! list cases -/
abbrev Td (cv:Va->Option (Va×Bool)):Prop:=∀{x r},cv x=some r->bj Tryz.prog 67 [.agg (eo x)] fun s=>s= .dT [.agg (eo r.1),.bool r.2]
def yF (cv:Va->Option (Va×Bool)) (is:Bool) (items:List Va):List Va->List Va->Option (bg Va×Bool×Bool)
 |[],out=>some (⟨items,out⟩,is,true)
 |x::r,out=>(cv x).bind fun p=>if p.2 then(iL p.1.v).bind fun b=>if b then yF cv is items r out else(push out p.1).bind fun out=>yF cv is items r out else some (⟨[],[]⟩,false,false)
def PM (cv:Va->Option (Va×Bool)) (rest:List Va):List Va->Bool->List Va->Option (bg Va×Bool×Bool)
 |[],is,out=>(aN rest).bind fun _=>yF cv is out rest []
 |x::r,is,out=>(cv x).bind fun p=>if p.2 then if is then(iL p.1.v).bind fun b=>(push out p.1).bind fun out=>PM cv rest r (!b) out else(push out p.1).bind fun out=>PM cv rest r false out
  else some (⟨[],[]⟩,false,false)
def My (cv:Va->Option (Va×Bool)) (c:bg Va):Option (bg Va×Bool×Bool):=(aN c.items).bind fun _=>PM cv c.rest c.items true []
theorem PR {cv:Va->Option (Va×Bool)} (h:Td cv) {c:bg Va} {r:bg Va×Bool×Bool} (hm:My cv c=some r):bj Tryz.prog 130 [.agg (aQ aL c)] fun s=>s= .dT [.agg (aQ aL r.1),.bool r.2.1,.bool r.2.2]:=by
 refine ht ae Tryz.f130 ?_
 unfold My at hm
 refine z ?_
 obtain⟨hg1,hm⟩:=ah hm
 refine bJ 3 0 18 rfl rfl ?_
 refine lg (α:=Nat×Bool×List Va×Nat) ae (fun(iw,s1,s2,ts2)=>(PM cv c.rest (List.drop iw c.items) s1 s2=some r,⟨72,[(18,.int .i64 iw),(17,.int .i64 ↑c.items.length),(16,.aE false (List.map aL c.items)),(6,.bool s1),(5,.ptr 3 0),(4,.bool false),(3,.bool false),(2,.ptr 2 0),(1,.ptr 1 0)]⟩,⟨[(4,.row 18 (s2.map aL) ts2 false),(3,.cells [.own 4 ts2,.ax]),(2,.cells [.ax,.ax]),(1,.cells (aQ aL c)),(0,aX)],5,0,[],[]⟩,List.length c.items-iw)) ⟨(0,_,_,(0)),hm⟩ ?_
 rintro⟨i2,s1_2,s2_2,ts2_2⟩ hq2
 dsimp only at hq2
 refine z ?_
 refine zd ?_ ?_<;>intro h3
 obtain⟨x3,ex3,ed3⟩:=an h3
 rw[ed3,PM] at hq2
 refine z ?_
 refine bC (cP _) ex3 rfl (z ?_)
 obtain⟨v4,e4,hq2⟩:=aa hq2
 refine ct (h e4) (z ?_)
 refine zm ?_ ?_<;>intro h5
 rw[Ti (nt h5)] at hq2
 cases hq2
 refine aV (z ?_)
 exact mt
 rw[Th h5] at hq2
 refine zr ?_ ?_<;>intro h6
 rw[Th h6] at hq2
 obtain⟨v7,e7,hq2⟩:=aa hq2
 refine ct (kE e7) (z ?_)
 obtain⟨hg8,hq2⟩:=ay hq2
 refine z ?_
 refine aH v4.fst (cP _) (z ?_)
 exact bk ⟨(i2+1,_,_,(ts2_2+1)),hq2⟩
 rw[Ti (nt h6)] at hq2
 obtain⟨hg9,hq2⟩:=ay hq2
 refine z ?_
 refine aH v4.fst (cP _) (z ?_)
 exact bk ⟨(i2+1,_,_,(ts2_2+1)),hq2⟩
 rw[aq h3,PM] at hq2
 obtain⟨hg10,hq2⟩:=ah hq2
 refine aY rfl rfl ?_
 refine bJ 3 1 18 rfl rfl ?_
 refine lg (α:=Nat×List Va×Nat) ae (fun(iw,s1,ts1)=>(yF cv s1_2 s2_2 (List.drop iw c.rest) s1=some r,⟨72,[(47,.int .i64 iw),(46,.int .i64 ↑c.rest.length),(45,.aE false (List.map aL c.rest)),(6,.bool s1_2),(5,.ptr 3 0),(4,.bool false),(3,.bool false),(2,.ptr 2 0)]⟩,⟨[(5,.row 18 (s1.map aL) ts1 false),(4,.row 18 (List.map aL s2_2) ts2_2 false),(3,.cells [.own 4 ts2_2,.own 5 ts1]),(2,.cells [.ax,.ax]),(1,.cells (aQ aL c)),(0,aX)],6,0,[],[]⟩,List.length c.rest-iw)) ⟨(0,_,(0)),hq2⟩ ?_
 rintro⟨i11,s1_11,ts1_11⟩ hq11
 dsimp only at hq11
 refine z ?_
 refine zd ?_ ?_<;>intro h12
 obtain⟨x12,ex12,ed12⟩:=an h12
 rw[ed12,yF] at hq11
 refine z ?_
 refine bC (cP _) ex12 rfl (z ?_)
 obtain⟨v13,e13,hq11⟩:=aa hq11
 refine ct (h e13) (z ?_)
 refine zm ?_ ?_<;>intro h14
 rw[Ti (nt h14)] at hq11
 cases hq11
 refine aV (z ?_)
 exact mt
 rw[Th h14] at hq11
 obtain⟨v15,e15,hq11⟩:=aa hq11
 refine ct (kE e15) (z ?_)
 refine zm ?_ ?_<;>intro h16
 rw[Ti (nt h16)] at hq11
 obtain⟨hg17,hq11⟩:=ay hq11
 refine z ?_
 refine aH v13.fst (cP _) (z ?_)
 exact bk ⟨(i11+1,_,(ts1_11+1)),hq11⟩
 rw[Th h16] at hq11
 exact bk ⟨(i11+1,_,ts1_11),hq11⟩
 rw[aq h12,yF] at hq11
 cases hq11
 refine aV (z ?_)
 exact mt
theorem Sw {x:dH Va} {v:Va} {r:Bool} (hm:xt x.val v=some r):Has Tryz.prog 164 [.agg (fA x),.bN (eo v) 0] fun s=>s= .bool r:=by
 refine hs ae Tryz.f164 (z ?_)
 replace hm:=aB hm
 obtain⟨v1,e1,hm⟩:=aa hm
 refine ce (tU e1) (z ?_)
 cases hm
 exact fc
def Mm (x y:dH Va):Option Int:=IY x.set y.set
theorem Su {x y:dH Va} {r:Int} (hm:Mm x y=some r):bj Tryz.prog 166 [.agg (fA x),.agg (fA y)] fun s=>s= .int .i64 r:=by
 refine ht ae Tryz.f166 ?_
 unfold Mm at hm
 refine z ?_
 replace hm:=aB hm
 obtain⟨v1,e1,hm⟩:=aa hm
 refine ct (Al e1) (z ?_)
 cases hm
 exact mst
def PA (cv:Va->Option (Va×Bool)) (is:Bool) (fs:List (dO Va)):List (dH Va)->List (dH Va)->Option (aM Va×Bool×Bool)
 |[],out=>(iJ Mm out).bind fun out=>some (⟨fs,out⟩,is,true)
 |k::r,out=>(cv k.val).bind fun p=>if p.2 then(oV (fun x=>xt x.val p.1) out).bind fun i=>if i<0 then
    (Im k.set []).bind fun l=>(push out ⟨l,p.1⟩).bind fun out=>PA cv is fs r out
   else(cN out i).bind fun y=>(Im y.set k.set).bind fun l=>(nV out i fun z=>⟨l,z.val⟩).bind fun out=>PA cv is fs r out
  else some (⟨[],[]⟩,false,false)
def Me (cv:Va->Option (Va×Bool)) (ks:List (dH Va)):List (dO Va)->Bool->List (dO Va)->Option (aM Va×Bool×Bool)
 |[],is,out=>(aN ks).bind fun _=>PA cv is out ks []
 |f::r,is,out=>(cv f.val).bind fun p=>if p.2 then if is then(iL p.1.v).bind fun b=>(push out ⟨f.label,f.fj,p.1⟩).bind fun out=>Me cv ks r (!b) out else(push out ⟨f.label,f.fj,p.1⟩).bind fun out=>Me cv ks r false out
  else some (⟨[],[]⟩,false,false)
def Mw (cv:Va->Option (Va×Bool)) (c:aM Va):Option (aM Va×Bool×Bool):=(aN c.fields).bind fun _=>Me cv c.az c.fields true []
theorem PO {cv:Va->Option (Va×Bool)} (h:Td cv) {c:aM Va} {r:aM Va×Bool×Bool} (hm:Mw cv c=some r):bj Tryz.prog 131 [.agg (aC aL c)] fun s=>s= .dT [.agg (aC aL r.1),.bool r.2.1,.bool r.2.2]:=by
 refine ht ae Tryz.f131 ?_
 unfold Mw at hm
 refine z ?_
 obtain⟨hg1,hm⟩:=ah hm
 refine bJ 3 0 20 rfl rfl ?_
 refine lg (α:=Nat×Bool×List (dO Va)×Nat) ae (fun(iw,s1,s2,ts2)=>(Me cv c.az (List.drop iw c.fields) s1 s2=some r,⟨101,[(19,.int .i64 iw),(18,.int .i64 ↑c.fields.length),(17,.aE false (List.map (di aL) c.fields)),(6,.bool s1),(5,.ptr 3 0),(4,.bool false),(3,.bool false),(2,.ptr 2 0),(1,.ptr 1 0)]⟩,⟨[(4,.row 20 (s2.map (di aL)) ts2 false),(3,.cells [.own 4 ts2,.ax]),(2,.cells [.ax,.ax]),(1,.cells (aC aL c)),(0,aX)],5,0,[],[]⟩,List.length c.fields-iw)) ⟨(0,_,_,(0)),hm⟩ ?_
 rintro⟨i2,s1_2,s2_2,ts2_2⟩ hq2
 dsimp only at hq2
 refine z ?_
 refine zd ?_ ?_<;>intro h3
 obtain⟨x3,ex3,ed3⟩:=an h3
 rw[ed3,Me] at hq2
 refine z ?_
 refine bC (cW _) ex3 rfl (z ?_)
 obtain⟨v4,e4,hq2⟩:=aa hq2
 refine ct (h e4) (z ?_)
 refine zm ?_ ?_<;>intro h5
 rw[Ti (nt h5)] at hq2
 cases hq2
 refine aV (z ?_)
 exact mt
 rw[Th h5] at hq2
 refine zr ?_ ?_<;>intro h6
 rw[Th h6] at hq2
 obtain⟨v7,e7,hq2⟩:=aa hq2
 refine ct (kE e7) (z ?_)
 obtain⟨hg8,hq2⟩:=ay hq2
 refine z ?_
 refine aH ({label:=x3.label,fj:=x3.fj,val:=v4.fst}) (cW _) (z ?_)
 exact bk ⟨(i2+1,_,_,(ts2_2+1)),hq2⟩
 rw[Ti (nt h6)] at hq2
 obtain⟨hg9,hq2⟩:=ay hq2
 refine z ?_
 refine aH ({label:=x3.label,fj:=x3.fj,val:=v4.fst}) (cW _) (z ?_)
 exact bk ⟨(i2+1,_,_,(ts2_2+1)),hq2⟩
 rw[aq h3,Me] at hq2
 obtain⟨hg10,hq2⟩:=ah hq2
 refine aY rfl rfl ?_
 refine bJ 3 1 19 rfl rfl ?_
 refine lg (α:=Nat×List (dH Va)×Nat) ae (fun(iw,s1,ts1)=>(PA cv s1_2 s2_2 (List.drop iw c.az) s1=some r,⟨101,[(51,.int .i64 iw),(50,.int .i64 ↑c.az.length),(49,.aE false (List.map (dN aL) c.az)),(6,.bool s1_2),(5,.ptr 3 0),(4,.bool false),(3,.bool false),(2,.ptr 2 0)]⟩,⟨[(5,.row 19 (s1.map (dN aL)) ts1 false),(4,.row 20 (List.map (di aL) s2_2) ts2_2 false),(3,.cells [.own 4 ts2_2,.own 5 ts1]),(2,.cells [.ax,.ax]),(1,.cells (aC aL c)),(0,aX)],6,0,[],[]⟩,List.length c.az-iw)) ⟨(0,_,(0)),hq2⟩ ?_
 rintro⟨i11,s1_11,ts1_11⟩ hq11
 dsimp only at hq11
 refine z ?_
 refine zd ?_ ?_<;>intro h12
 obtain⟨x12,ex12,ed12⟩:=an h12
 rw[ed12,PA] at hq11
 refine z ?_
 refine bC (cF _) ex12 rfl (z ?_)
 obtain⟨v13,e13,hq11⟩:=aa hq11
 refine ct (h e13) (z ?_)
 refine zm ?_ ?_<;>intro h14
 rw[Ti (nt h14)] at hq11
 cases hq11
 refine aV (z ?_)
 exact mt
 rw[Th h14] at hq11
 obtain⟨v15,e15,hq11⟩:=aa hq11
 refine cm (RX (by simp only[aw,closed,aG,cM,bK,b6,eC,cl,dx,Tq]) rfl Sw e15) rfl (z ?_)
 refine zd ?_ ?_<;>intro h16
 rw[Th h16] at hq11
 refine dg ae [0,1,0,4,0,28,0,124,252,511,1023,2047] [] (z ?_)
 obtain⟨v17,e17,hq11⟩:=aa hq11
 refine ct (zG e17) (z ?_)
 obtain⟨hg18,hq11⟩:=ay hq11
 refine z ?_
 refine aH ({set:=v17,val:=v13.fst}) (cF _) (z ?_)
 exact bk ⟨(i11+1,_,(ts1_11+1)),hq11⟩
 rw[Ti h16] at hq11
 refine dg ae [0,1,0,0,8,0,56,120,248,0,512,2040,4095,8191,16383] [] (z ?_)
 obtain⟨j19,x19,en19,ka,hq11⟩:=av hq11
 refine aK en19 ka (z ?_)
 refine pP (cF _) ka (z ?_)
 obtain⟨v20,e20,hq11⟩:=aa hq11
 refine ct (zG e20) (z ?_)
 obtain⟨j21,x21,en21,ex21,hq11⟩:=bV hq11
 refine aK en21 ex21 (z ?_)
 refine DO _ ({set:=v20,val:=x21.val}) (cF _) (cF _) ex21 rfl (z ?_)
 exact bk ⟨(i11+1,_,ts1_11),hq11⟩
 rw[aq h12,PA] at hq11
 obtain⟨v22,e22,hq11⟩:=aa hq11
 refine dj 5 (D5 rfl rfl Su e22) rfl rfl rfl rfl (z ?_)
 cases hq11
 refine aV (z ?_)
 exact mt
def ofL (c:bg Va):Option (bG Va):=some ⟨false,bw,[c],[]⟩
theorem RH {c:bg Va} {r:bG Va} (hm:ofL c=some r):Has Tryz.prog 133 [.agg (aQ aL c)] fun s=>s= .agg (cj aL r):=by
 refine hs ae Tryz.f133 ?_
 unfold ofL at hm
 refine z ?_
 cases hm
 refine dy (z ?_)
 first|exact e2|exact rfl
def RG (c:aM Va):Option (bG Va):=some ⟨false,bw,[],[c]⟩
theorem Ov {c:aM Va} {r:bG Va} (hm:RG c=some r):Has Tryz.prog 135 [.agg (aC aL c)] fun s=>s= .agg (cj aL r):=by
 refine hs ae Tryz.f135 ?_
 unfold RG at hm
 refine z ?_
 cases hm
 refine dy (z ?_)
 first|exact e2|exact rfl
section
variable {α:Type}
def Nn (is:α->α->Option Bool) (x:α) (i:Int):List α->Int->Option Bool
 |[],_=>some false
 |y::r,k=>if i=k then Nn is x i r (k+1) else(is x y).bind fun c=>if c then if k<i then some true else(is y x).bind fun d=>if d then Nn is x i r (k+1) else some true else Nn is x i r (k+1)
def Nl (is:α->α->Option Bool) (l:List α):List α->Int->List α->Option (List α)
 |[],_,out=>some out
 |x::r,i,out=>(aN l).bind fun _=>(Nn is x i l 0).bind fun d=>if d then Nl is l r (i+1) out else(push out x).bind fun out=>Nl is l r (i+1) out
def C0 (of:α->Option (bG Va)) (x y:α):Option Int:=(of x).bind fun a=>(of y).bind fun b=>ET a b
def zS (is:α->α->Option Bool) (of:α->Option (bG Va)) (l:List α):Option (List α):=(aN l).bind fun _=>(Nl is l l 0 []).bind fun out=>iJ (C0 of) out
end
theorem OE {fo:FuncId} {of:bg Va->Option (bG Va)} (ho:∀{x r},of x=some r->Has Tryz.prog fo [.agg (aQ aL x)] fun s=>s= .agg (cj aL r)) {x y:bg Va} {r:Int} (hm:C0 of x y=some r):bj Tryz.prog 169 [.agg (aQ aL x),.agg (aQ aL y),.bN [.func (.func fo) [] []] 0] fun s=>s= .int .i64 r:=by
 refine ht ae Tryz.f169 ?_
 unfold C0 at hm
 refine z ?_
 refine dg ae [0,0,3,0,0,31,63,127] [] (z ?_)
 obtain⟨v1,e1,hm⟩:=aa hm
 refine ce (ho e1) (z ?_)
 obtain⟨v2,e2,hm⟩:=aa hm
 refine ce (ho e2) (z ?_)
 replace hm:=aB hm
 obtain⟨v3,e3,hm⟩:=aa hm
 refine ct (yD e3) (z ?_)
 cases hm
 exact mst
theorem RM {fi fo:FuncId} {is:bg Va->bg Va->Option Bool} {of:bg Va->Option (bG Va)} (hi:∀{x y r},is x y=some r->bj Tryz.prog fi [.agg (aQ aL x),.agg (aQ aL y)] fun s=>s= .bool r) (ho:∀{x r},of x=some r->Has Tryz.prog fo [.agg (aQ aL x)] fun s=>s= .agg (cj aL r)) {l r:List (bg Va)} (hm:zS is of l=some r):bj Tryz.prog 132 [.aE false (l.map (aQ aL)),.func (.func fi) [] [],.func (.func fo) [] []] fun s=>s= .aE false (r.map (aQ aL)):=by
 refine ht ae Tryz.f132 ?_
 unfold zS at hm
 refine z ?_
 obtain⟨hg1,hm⟩:=ah hm
 obtain⟨v2,hv2,hm⟩:=aa hm
 refine cy 7 2 rfl ?_
 refine lg (α:=Nat×List (bg Va)×Nat) ae (fun(iw,s1,ts1)=>(Nl is l (List.drop iw l) (iw:Int) s1=some v2,⟨57,[(7,.own 2 ts1),(14,.int .i64 iw),(13,.int .i64 ↑l.length),(12,.aE false (List.map (aQ aL) l)),(6,.ax),(5,.ptr 1 0),(0,.aE false (List.map (aQ aL) l)),(1,.func (.func fi) [] [])]⟩,⟨[(2,.row 2 (s1.map (aQ aL)) ts1 false),(1,.cells [.func (.func fo) [] []]),(0,aX)],3,0,[],[]⟩,List.length l-iw)) ⟨(0,_,(0)),hv2⟩ ?_
 rintro⟨i2,s1_2,ts1_2⟩ hq2
 dsimp only at hq2
 refine z ?_
 refine zd ?_ ?_<;>intro h3
 obtain⟨x3,ex3,ed3⟩:=an h3
 rw[ed3,Nl] at hq2
 refine z ?_
 obtain⟨hg4,hq2⟩:=ah hq2
 refine bq ex3 rfl (z ?_)
 obtain⟨v5,hv5,hq2⟩:=aa hq2
 refine lg (α:=Nat) ae (fun iw=>(Nn is x3 (↑i2) (List.drop iw l) (iw:Int)=some v5,⟨57,[(21,.int .i64 iw),(20,.int .i64 ↑l.length),(19,.aE false (List.map (aQ aL) l)),(8,.int .i64 ↑i2),(9,.ptr 3 0),(7,.own 2 ts1_2),(14,.int .i64 ↑i2),(13,.int .i64 ↑l.length),(12,.aE false (List.map (aQ aL) l)),(6,.ax),(5,.ptr 1 0),(0,.aE false (List.map (aQ aL) l)),(1,.func (.func fi) [] [])]⟩,⟨[(3,.cells [.aE false (List.map aL x3.items),.aE false (List.map aL x3.rest)]),(2,.row 2 (List.map (aQ aL) s1_2) ts1_2 false),(1,.cells [.func (.func fo) [] []]),(0,aX)],4,0,[],[]⟩,List.length l-iw)) ⟨(0),hv5⟩ ?_
 intro i5 hq5
 dsimp only at hq5
 refine z ?_
 refine zd ?_ ?_<;>intro h6
 obtain⟨x6,ex6,ed6⟩:=an h6
 rw[ed6,Nn] at hq5
 refine z ?_
 refine bq ex6 rfl (z ?_)
 refine zn ?_ ?_<;>intro h7
 rw[Ti h7] at hq5
 obtain⟨v8,e8,hq5⟩:=aa hq5
 refine ct (hi e8) (z ?_)
 refine zr ?_ ?_<;>intro h9
 rw[Th h9] at hq5
 refine zd ?_ ?_<;>intro h10
 rw[Th h10] at hq5
 cases hq5
 rw[Th rfl] at hq2
 exact bk ⟨(i2+1,_,ts1_2),hq2⟩
 rw[Ti h10] at hq5
 obtain⟨v11,e11,hq5⟩:=aa hq5
 refine ct (hi e11) (z ?_)
 refine zm ?_ ?_<;>intro h12
 rw[Ti (nt h12)] at hq5
 cases hq5
 rw[Th rfl] at hq2
 exact bk ⟨(i2+1,_,ts1_2),hq2⟩
 rw[Th h12] at hq5
 exact bk ⟨i5+1,hq5⟩
 rw[Ti (nt h9)] at hq5
 exact bk ⟨i5+1,hq5⟩
 rw[Th h7] at hq5
 exact bk ⟨i5+1,hq5⟩
 rw[aq h6,Nn] at hq5
 cases hq5
 rw[Ti TL] at hq2
 obtain⟨hg13,hq2⟩:=ay hq2
 refine z ?_
 refine aH x3 rfl (z ?_)
 exact bk ⟨(i2+1,_,(ts1_2+1)),hq2⟩
 rw[aq h3,Nl] at hq2
 cases hq2
 refine z ?_
 replace hm:=aB hm
 obtain⟨v14,e14,hm⟩:=aa hm
 refine vI 2 (HR rfl rfl (OE ho) e14) rfl rfl (z ?_)
 cases hm
 refine aV (z ?_)
 exact mt
theorem OD {fo:FuncId} {of:aM Va->Option (bG Va)} (ho:∀{x r},of x=some r->Has Tryz.prog fo [.agg (aC aL x)] fun s=>s= .agg (cj aL r)) {x y:aM Va} {r:Int} (hm:C0 of x y=some r):bj Tryz.prog 172 [.agg (aC aL x),.agg (aC aL y),.bN [.func (.func fo) [] []] 0] fun s=>s= .int .i64 r:=by
 refine ht ae Tryz.f172 ?_
 unfold C0 at hm
 refine z ?_
 refine dg ae [0,0,3,0,0,31,63,127] [] (z ?_)
 obtain⟨v1,e1,hm⟩:=aa hm
 refine ce (ho e1) (z ?_)
 obtain⟨v2,e2,hm⟩:=aa hm
 refine ce (ho e2) (z ?_)
 replace hm:=aB hm
 obtain⟨v3,e3,hm⟩:=aa hm
 refine ct (yD e3) (z ?_)
 cases hm
 exact mst
theorem RL {fi fo:FuncId} {is:aM Va->aM Va->Option Bool} {of:aM Va->Option (bG Va)} (hi:∀{x y r},is x y=some r->bj Tryz.prog fi [.agg (aC aL x),.agg (aC aL y)] fun s=>s= .bool r) (ho:∀{x r},of x=some r->Has Tryz.prog fo [.agg (aC aL x)] fun s=>s= .agg (cj aL r)) {l r:List (aM Va)} (hm:zS is of l=some r):bj Tryz.prog 134 [.aE false (l.map (aC aL)),.func (.func fi) [] [],.func (.func fo) [] []] fun s=>s= .aE false (r.map (aC aL)):=by
 refine ht ae Tryz.f134 ?_
 unfold zS at hm
 refine z ?_
 obtain⟨hg1,hm⟩:=ah hm
 obtain⟨v2,hv2,hm⟩:=aa hm
 refine cy 7 2 rfl ?_
 refine lg (α:=Nat×List (aM Va)×Nat) ae (fun(iw,s1,ts1)=>(Nl is l (List.drop iw l) (iw:Int) s1=some v2,⟨57,[(7,.own 2 ts1),(14,.int .i64 iw),(13,.int .i64 ↑l.length),(12,.aE false (List.map (aC aL) l)),(6,.ax),(5,.ptr 1 0),(0,.aE false (List.map (aC aL) l)),(1,.func (.func fi) [] [])]⟩,⟨[(2,.row 2 (s1.map (aC aL)) ts1 false),(1,.cells [.func (.func fo) [] []]),(0,aX)],3,0,[],[]⟩,List.length l-iw)) ⟨(0,_,(0)),hv2⟩ ?_
 rintro⟨i2,s1_2,ts1_2⟩ hq2
 dsimp only at hq2
 refine z ?_
 refine zd ?_ ?_<;>intro h3
 obtain⟨x3,ex3,ed3⟩:=an h3
 rw[ed3,Nl] at hq2
 refine z ?_
 obtain⟨hg4,hq2⟩:=ah hq2
 refine bq ex3 rfl (z ?_)
 obtain⟨v5,hv5,hq2⟩:=aa hq2
 refine lg (α:=Nat) ae (fun iw=>(Nn is x3 (↑i2) (List.drop iw l) (iw:Int)=some v5,⟨57,[(21,.int .i64 iw),(20,.int .i64 ↑l.length),(19,.aE false (List.map (aC aL) l)),(8,.int .i64 ↑i2),(9,.ptr 3 0),(7,.own 2 ts1_2),(14,.int .i64 ↑i2),(13,.int .i64 ↑l.length),(12,.aE false (List.map (aC aL) l)),(6,.ax),(5,.ptr 1 0),(0,.aE false (List.map (aC aL) l)),(1,.func (.func fi) [] [])]⟩,⟨[(3,.cells [.aE false (List.map (di aL) x3.fields),.aE false (List.map (dN aL) x3.az)]),(2,.row 2 (List.map (aC aL) s1_2) ts1_2 false),(1,.cells [.func (.func fo) [] []]),(0,aX)],4,0,[],[]⟩,List.length l-iw)) ⟨(0),hv5⟩ ?_
 intro i5 hq5
 dsimp only at hq5
 refine z ?_
 refine zd ?_ ?_<;>intro h6
 obtain⟨x6,ex6,ed6⟩:=an h6
 rw[ed6,Nn] at hq5
 refine z ?_
 refine bq ex6 rfl (z ?_)
 refine zn ?_ ?_<;>intro h7
 rw[Ti h7] at hq5
 obtain⟨v8,e8,hq5⟩:=aa hq5
 refine ct (hi e8) (z ?_)
 refine zr ?_ ?_<;>intro h9
 rw[Th h9] at hq5
 refine zd ?_ ?_<;>intro h10
 rw[Th h10] at hq5
 cases hq5
 rw[Th rfl] at hq2
 exact bk ⟨(i2+1,_,ts1_2),hq2⟩
 rw[Ti h10] at hq5
 obtain⟨v11,e11,hq5⟩:=aa hq5
 refine ct (hi e11) (z ?_)
 refine zm ?_ ?_<;>intro h12
 rw[Ti (nt h12)] at hq5
 cases hq5
 rw[Th rfl] at hq2
 exact bk ⟨(i2+1,_,ts1_2),hq2⟩
 rw[Th h12] at hq5
 exact bk ⟨i5+1,hq5⟩
 rw[Ti (nt h9)] at hq5
 exact bk ⟨i5+1,hq5⟩
 rw[Th h7] at hq5
 exact bk ⟨i5+1,hq5⟩
 rw[aq h6,Nn] at hq5
 cases hq5
 rw[Ti TL] at hq2
 obtain⟨hg13,hq2⟩:=ay hq2
 refine z ?_
 refine aH x3 rfl (z ?_)
 exact bk ⟨(i2+1,_,(ts1_2+1)),hq2⟩
 rw[aq h3,Nl] at hq2
 cases hq2
 refine z ?_
 replace hm:=aB hm
 obtain⟨v14,e14,hm⟩:=aa hm
 refine vI 2 (HQ rfl rfl (OD ho) e14) rfl rfl (z ?_)
 cases hm
 refine aV (z ?_)
 exact mt
def KU (c:bg Va):Option Bool:=(aN c.items).bind fun _=>if(c.items.length:Int)=0 then(aN c.rest).bind fun _=>if(c.rest.length:Int)=1 then(cN c.rest 0).bind fun x=>Gx x else some false else some false
theorem KT {c:bg Va} {r:Bool} (hm:KU c=some r):Has Tryz.prog 175 [.agg (aQ aL c)] fun s=>s= .bool r:=by
 refine hs ae Tryz.f175 ?_
 unfold KU at hm
 refine z ?_
 obtain⟨hg1,hm⟩:=ah hm
 refine zd ?_ ?_<;>intro h2
 rw[Th h2] at hm
 obtain⟨hg3,hm⟩:=ah hm
 refine zd ?_ ?_<;>intro h4
 rw[Th h4] at hm
 obtain⟨j5,x5,en5,ex5,hm⟩:=av hm
 refine bI (cP _) en5 ex5 rfl (z ?_)
 replace hm:=aB hm
 obtain⟨v6,e6,hm⟩:=aa hm
 refine ce (Ci e6) (z ?_)
 cases hm
 exact fc
 rw[Ti h4] at hm
 cases hm
 exact fc
 rw[Ti h2] at hm
 cases hm
 exact fc
def Ek (c:aM Va):Option Bool:=(aN c.fields).bind fun _=>if(c.fields.length:Int)=0 then(aN c.az).bind fun _=>if(c.az.length:Int)=1 then(cN c.az 0).bind fun k=>Gx k.val else some false else some false
theorem Ip {c:aM Va} {r:Bool} (hm:Ek c=some r):Has Tryz.prog 176 [.agg (aC aL c)] fun s=>s= .bool r:=by
 refine hs ae Tryz.f176 ?_
 unfold Ek at hm
 refine z ?_
 obtain⟨hg1,hm⟩:=ah hm
 refine zd ?_ ?_<;>intro h2
 rw[Th h2] at hm
 obtain⟨hg3,hm⟩:=ah hm
 refine zd ?_ ?_<;>intro h4
 rw[Th h4] at hm
 obtain⟨j5,x5,en5,ex5,hm⟩:=av hm
 refine bI (cF _) en5 ex5 rfl (z ?_)
 replace hm:=aB hm
 obtain⟨v6,e6,hm⟩:=aa hm
 refine ce (Ci e6) (z ?_)
 cases hm
 exact fc
 rw[Ti h4] at hm
 cases hm
 exact fc
 rw[Ti h2] at hm
 cases hm
 exact fc
def evM (v:bG Va):Option Bool:=(aN v.lists).bind fun _=>if(v.lists.length:Int)=1 then(aN v.structs).bind fun _=>if(v.structs.length:Int)=1 then SZ.bind fun s=>(CY v.sc s).bind fun c=>if c=0 then
 (cN v.lists 0).bind fun l=>(KU l).bind fun b=>if b then(cN v.structs 0).bind fun s=>Ek s else some false else some false else some false else some false
theorem Sf {v:bG Va} {r:Bool} (hm:evM v=some r):bj Tryz.prog 136 [.agg (cj aL v)] fun s=>s= .bool r:=by
 refine ht ae Tryz.f136 ?_
 unfold evM at hm
 refine z ?_
 refine dg ae [0,1,3,7,15,31,63,127,255,511,1023,2047,4095,2047,16383,32767,65535,131071,262143,524287,1048575,2097151,4194303,8388607,16777215,33554431,67108863,134217727,268435455,536870911,1073741823,2147483647] [] (z ?_)
 obtain⟨hg1,hm⟩:=ah hm
 refine zd ?_ ?_<;>intro h2
 rw[Th h2] at hm
 obtain⟨hg3,hm⟩:=ah hm
 refine zd ?_ ?_<;>intro h4
 rw[Th h4] at hm
 obtain⟨v5,e5,hm⟩:=aa hm
 refine ct (P9 e5) (z ?_)
 obtain⟨v6,e6,hm⟩:=aa hm
 refine ct (CX e6) (z ?_)
 refine zd ?_ ?_<;>intro h7
 rw[Th h7] at hm
 obtain⟨j8,x8,en8,ex8,hm⟩:=av hm
 refine bF en8 ex8 rfl (z ?_)
 obtain⟨v9,e9,hm⟩:=aa hm
 refine ce (KT e9) (z ?_)
 refine zr ?_ ?_<;>intro h10
 rw[Th h10] at hm
 obtain⟨j11,x11,en11,ex11,hm⟩:=av hm
 refine bF en11 ex11 rfl (z ?_)
 replace hm:=aB hm
 obtain⟨v12,e12,hm⟩:=aa hm
 refine ce (Ip e12) (z ?_)
 cases hm
 exact mst
 rw[Ti (nt h10)] at hm
 cases hm
 exact mst
 rw[Ti h7] at hm
 cases hm
 exact mst
 rw[Ti h4] at hm
 cases hm
 exact mst
 rw[Ti h2] at hm
 cases hm
 exact mst
def wX (s:bX):Option bX:=Rx s bw
theorem PB {s r:bX} (hm:wX s=some r):bj Tryz.prog 129 [.agg (cr s)] fun v=>v= .agg (cr r):=by
 refine ht ae Tryz.f129 ?_
 unfold wX at hm
 refine z ?_
 replace hm:=aB hm
 obtain⟨v1,e1,hm⟩:=aa hm
 refine ct (KP e1) (z ?_)
 cases hm
 exact mst
def jr:Nat:=64
def cnE (sc:bX) (ls:List (bg Va)) (ss:List (aM Va)):Option (bG Va×Bool):=(zS (ON (iG jr)) ofL ls).bind fun ls=>(zS (sbM (iG jr)) RG ss).bind fun ss=>(evM ⟨false,sc,ls,ss⟩).bind fun e=>if e then some (⟨true,bw,[],[]⟩,true) else some (⟨false,sc,ls,ss⟩,true)
def QH (cv:Va->Option (Va×Bool)) (sc:bX) (ls:List (bg Va)):List (aM Va)->List (aM Va)->Option (bG Va×Bool)
 |[],out=>cnE sc ls out
 |c::r,out=>(Mw cv c).bind fun p=>if p.2.2 then if p.2.1 then(push out p.1).bind fun out=>QH cv sc ls r out else QH cv sc ls r out else some (zV,false)
def QI (cv:Va->Option (Va×Bool)) (sc:bX) (ss:List (aM Va)):List (bg Va)->List (bg Va)->Option (bG Va×Bool)
 |[],out=>(aN ss).bind fun _=>QH cv sc out ss []
 |c::r,out=>(My cv c).bind fun p=>if p.2.2 then if p.2.1 then(push out p.1).bind fun out=>QI cv sc ss r out else QI cv sc ss r out else some (zV,false)
abbrev CanF (cf:bG Va->Option (bG Va×Bool)):Prop:=∀{x r},cf x=some r->bj Tryz.prog 99 [.agg (cj aL x)] fun s=>s= .dT [.agg (cj aL r.1),.bool r.2]
def pa (cf:bG Va->Option (bG Va×Bool)) (x:Va):Option (Va×Bool):=(cf x.v).bind fun a=>(cf x.d).bind fun b=>if a.2 then if b.2 then(iG jr b.1 a.1).bind fun c=>some (.mk a.1 b.1,c) else some (.mk a.1 b.1,false) else some (.mk a.1 b.1,false)
theorem Ae {cf:bG Va->Option (bG Va×Bool)} (h:CanF cf):Td (pa cf):=by
 intro x r hm
 refine ht ae Tryz.f67 ?_
 unfold pa at hm
 refine z ?_
 obtain⟨v1,e1,hm⟩:=aa hm
 refine ct (h e1) (z ?_)
 obtain⟨v2,e2,hm⟩:=aa hm
 refine ct (h e2) (z ?_)
 refine dg ae [0,0,3,0,8,24,56,120,248,248,1016,2040,2047,8191] [⟨12,0,0,[2]⟩] (z ?_)
 refine zr ?_ ?_<;>intro h6
 rw[Th h6] at hm
 refine zr ?_ ?_<;>intro h7
 rw[Th h7] at hm
 obtain⟨v8,e8,hm⟩:=aa hm
 refine ct (th e8) (z ?_)
 cases hm
 exact mst
 rw[Ti (nt h7)] at hm
 cases hm
 exact mst
 rw[Ti (nt h6)] at hm
 cases hm
 exact mst
def jw:Nat->bG Va->Option (bG Va×Bool)
 |0,_=>none
 |n+1,v=>if v.any then some (v,true) else(wX v.sc).bind fun sc=>(aN v.lists).bind fun _=>QI (pa (jw n)) sc v.structs v.lists []
theorem PQ:∀{n:Nat},CanF (jw n):=by
 intro n
 induction n with
 |zero=>intro x r hm;cases hm
 |succ n ih=>
  intro v r hm
  refine ht ae Tryz.f99 ?_
  unfold jw at hm
  refine z ?_
  refine zr ?_ ?_<;>intro h1
  ·rw[Th h1] at hm
   cases hm
   exact mst
  ·rw[Ti (nt h1)] at hm
   obtain⟨v2,e2,hm⟩:=aa hm
   refine ct (PB e2) (z ?_)
   obtain⟨hg3,hm⟩:=ah hm
   refine cy 5 2 rfl ?_
   refine lg (α:=Nat×List (bg Va)×Nat) ae (fun(iw,s1,ts1)=>(QI (pa (jw n)) v2 v.structs (List.drop iw v.lists) s1=some r,⟨78,[(5,.own 4 ts1),(27,.int .i64 iw),(26,.int .i64 ↑v.lists.length),(25,.aE false (List.map (aQ aL) v.lists)),(4,.ptr 3 0),(3,.bool false),(2,.ptr 2 0),(1,.ptr 1 0)]⟩,⟨[(4,.row 2 (s1.map (aQ aL)) ts1 false),(3,.cells [.bool false,.bool v2.null,.bool v2.py,.bool v2.px,aW v2.ints,aW v2.bz,aA v2.strs,.ax,.ax]),(2,.cells [.bool false,.bool false,.bool false,.bool false,.ax,.ax,.ax,.ax,.ax]),(1,.cells (cj aL v)),(0,aX)],5,0,[],[]⟩,List.length v.lists-iw)) ⟨(0,_,(0)),hm⟩ ?_
   rintro⟨i4,s1_4,ts1_4⟩ hq4
   dsimp only at hq4
   refine z ?_
   refine zd ?_ ?_<;>intro h5
   ·obtain⟨x5,ex5,ed5⟩:=an h5
    rw[ed5,QI] at hq4
    refine z ?_
    refine bq ex5 rfl (z ?_)
    obtain⟨v6,e6,hq4⟩:=aa hq4
    refine ct (PR (Ae ih) e6) (z ?_)
    refine zm ?_ ?_<;>intro h7
    ·rw[Ti (nt h7)] at hq4
     cases hq4
     refine aV (z ?_)
     exact mt
    ·rw[Th h7] at hq4
     refine zr ?_ ?_<;>intro h8
     ·rw[Th h8] at hq4
      obtain⟨hg9,hq4⟩:=ay hq4
      refine z ?_
      refine aH v6.fst rfl (z ?_)
      exact bk ⟨(i4+1,_,(ts1_4+1)),hq4⟩
     ·rw[Ti (nt h8)] at hq4
      exact bk ⟨(i4+1,_,ts1_4),hq4⟩
   ·rw[aq h5,QI] at hq4
    obtain⟨hg10,hq4⟩:=ah hq4
    refine aY rfl rfl ?_
    refine cy 11 2 rfl ?_
    refine lg (α:=Nat×List (aM Va)×Nat) ae (fun(iw,s1,ts1)=>(QH (pa (jw n)) v2 s1_4 (List.drop iw v.structs) s1=some r,⟨78,[(11,.own 5 ts1),(49,.int .i64 iw),(48,.int .i64 ↑v.structs.length),(47,.aE false (List.map (aC aL) v.structs)),(5,.own 4 ts1_4),(4,.ptr 3 0),(3,.bool false),(2,.ptr 2 0)]⟩,⟨[(5,.row 2 (s1.map (aC aL)) ts1 false),(4,.row 2 (List.map (aQ aL) s1_4) ts1_4 false),(3,.cells [.bool false,.bool v2.null,.bool v2.py,.bool v2.px,aW v2.ints,aW v2.bz,aA v2.strs,.ax,.ax]),(2,.cells [.bool false,.bool false,.bool false,.bool false,.ax,.ax,.ax,.ax,.ax]),(1,.cells (cj aL v)),(0,aX)],6,0,[],[]⟩,List.length v.structs-iw)) ⟨(0,_,(0)),hq4⟩ ?_
    rintro⟨i11,s1_11,ts1_11⟩ hq11
    dsimp only at hq11
    refine z ?_
    refine zd ?_ ?_<;>intro h12
    ·obtain⟨x12,ex12,ed12⟩:=an h12
     rw[ed12,QH] at hq11
     refine z ?_
     refine bq ex12 rfl (z ?_)
     obtain⟨v13,e13,hq11⟩:=aa hq11
     refine ct (PO (Ae ih) e13) (z ?_)
     refine zm ?_ ?_<;>intro h14
     ·rw[Ti (nt h14)] at hq11
      cases hq11
      refine aV (z ?_)
      exact mt
     ·rw[Th h14] at hq11
      refine zr ?_ ?_<;>intro h15
      ·rw[Th h15] at hq11
       obtain⟨hg16,hq11⟩:=ay hq11
       refine z ?_
       refine aH v13.fst rfl (z ?_)
       exact bk ⟨(i11+1,_,(ts1_11+1)),hq11⟩
      ·rw[Ti (nt h15)] at hq11
       exact bk ⟨(i11+1,_,ts1_11),hq11⟩
    ·rw[aq h12,QH] at hq11
     unfold cnE at hq11
     refine z ?_
     obtain⟨v17,e17,hq11⟩:=aa hq11
     refine bH (RM (Lh th) RH e17) (z ?_)
     obtain⟨v18,e18,hq11⟩:=aa hq11
     refine bH (RL (Kp th) Ov e18) (z ?_)
     obtain⟨v19,e19,hq11⟩:=aa hq11
     refine ct (Sf e19) (z ?_)
     refine zr ?_ ?_<;>intro h20
     ·rw[Th h20] at hq11
      cases hq11
      refine aV (z ?_)
      exact mt
     ·rw[Ti (nt h20)] at hq11
      cases hq11
      exact mst
def mw (x:Va):Option (Va×Int):=(eQ x).bind fun ok=>if ok then(pa (jw jr) x).bind fun p=>if p.2 then some (p.1,0) else some (pv,11) else some (pv,11)
theorem uD {x:Va} {r:Va×Int} (hm:mw x=some r):bj Tryz.prog 41 [.agg (eo x)] fun s=>s= .dT [.agg (eo r.1),.int .i64 r.2]:=by
 refine ht ae Tryz.f41 ?_
 unfold mw at hm
 refine z ?_
 obtain⟨v1,e1,hm⟩:=aa hm
 refine ct (xo e1) (z ?_)
 refine zm ?_ ?_<;>intro h2
 rw[Ti (nt h2)] at hm
 cases hm
 refine aV (z ?_)
 exact mt
 rw[Th h2] at hm
 obtain⟨v3,e3,hm⟩:=aa hm
 refine ct ((Ae PQ) e3) (z ?_)
 refine zm ?_ ?_<;>intro h4
 rw[Ti (nt h4)] at hm
 cases hm
 refine aV (z ?_)
 exact mt
 rw[Th h4] at hm
 cases hm
 exact mst
def jW (x:Va):Option Bool:=(mw x).bind fun p=>if p.2=0 then xt p.1 x else some false
theorem kr {x:Va} {r:Bool} (hm:jW x=some r):bj Tryz.prog 29 [.agg (eo x)] fun s=>s= .bool r:=by
 refine ht ae Tryz.f29 ?_
 unfold jW at hm
 refine z ?_
 obtain⟨v1,e1,hm⟩:=aa hm
 refine ct (uD e1) (z ?_)
 refine zd ?_ ?_<;>intro h2
 rw[Th h2] at hm
 replace hm:=aB hm
 obtain⟨v3,e3,hm⟩:=aa hm
 refine ce (tU e3) (z ?_)
 cases hm
 exact mst
 rw[Ti h2] at hm
 cases hm
 exact mst
end Go.Proofs.YtaagahmkmcnhaaaGreatDoor
