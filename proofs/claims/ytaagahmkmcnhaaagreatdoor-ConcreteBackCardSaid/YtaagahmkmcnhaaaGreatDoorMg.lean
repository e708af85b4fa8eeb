/- For ConcreteOnly and ConcreteBack: functions of the program, walked beside Lean functions that say what they compute. -/
import Derived.Test.YtaagahmkmcnhaaaGreatDoorMf
set_option linter.unusedVariables false
set_option linter.unusedSimpArgs false
set_option linter.unusedSectionVars false
namespace Go.Proofs.YtaagahmkmcnhaaaGreatDoor
open Sv
set_option maxRecDepth 100000
set_option maxHeartbeats 2000000
def Sm (rec:aO->Option Int) (ms:List (Mem aO)):Nat->Int->Int->Option Int
 |0,_,_=>none
 |f+1,i,n=>(aN ms).bind fun _=>if i<(ms.length:Int) then(cN ms i).bind fun m=>(rec m.data).bind fun k=>Sm rec ms f (i+1) (mx n k) else(dV (n+1)).bind fun _=>some (n+1)
def So (rec:aO->Option Int) (l:List aO) (ms:List (Mem aO)):Nat->Int->Int->Option Int
 |0,_,_=>none
 |f+1,i,n=>(aN l).bind fun _=>if i<(l.length:Int) then(cN l i).bind fun d=>(rec d).bind fun k=>So rec l ms f (i+1) (mx n k) else Sm rec ms (ms.length+1) 0 n
def Pl:Nat->aO->Option Int
 |0,_=>none
 |f+1,d=>So (Pl f) d.c.items d.c.members (d.c.items.length+1) 0 0
theorem Sl:∀{f:Nat} {d:aO} {r:Int} (hm:Pl f d=some r),Has Tryz.prog 27 [.agg (cw d)] fun s=>s= .int .i64 r:=by
 intro f
 induction f with
 |zero=>intro d r hm;cases hm
 |succ f ih=>
  intro d r hm
  refine hs ae Tryz.f27 ?_
  unfold Pl at hm
  refine z ?_
  refine lg (α:=Nat×Int×Int) ae (fun(nw,s1,s2)=>(So (Pl f) d.c.items d.c.members nw s1 s2=some r,⟨39,[(4,.int .i64 s1),(3,.int .i64 s2),(2,.int .i64 0),(1,.ptr 0 0)]⟩,⟨[(0,.cells (cw d))],1,0,[],[]⟩,nw)) ⟨(_,_,_),hm⟩ ?_
  rintro⟨n1,s1_1,s2_1⟩ hq1
  dsimp only at hq1
  rcases n1 with _|n1
  ·(unfold So at hq1;cases hq1)
  unfold So at hq1
  refine z ?_
  obtain⟨hg2,hq1⟩:=ah hq1
  refine zd ?_ ?_<;>intro h3
  ·rw[Th h3] at hq1
   obtain⟨j4,x4,en4,ex4,hq1⟩:=av hq1
   refine bI (cK _) en4 ex4 rfl (z ?_)
   obtain⟨v5,e5,hq1⟩:=aa hq1
   refine ce (ih e5) (z ?_)
   exact bk ⟨(n1,_,_),hq1⟩
  ·rw[Ti h3] at hq1
   refine aY rfl rfl ?_
   refine lg (α:=Nat×Int×Int) ae (fun(nw,s1,s2)=>(Sm (Pl f) d.c.members nw s1 s2=some r,⟨39,[(5,.int .i64 s1),(3,.int .i64 s2),(2,.int .i64 0),(1,.ptr 0 0)]⟩,⟨[(0,.cells (cw d))],1,0,[],[]⟩,nw)) ⟨(_,_,_),hq1⟩ ?_
   rintro⟨n6,s1_6,s2_6⟩ hq6
   dsimp only at hq6
   rcases n6 with _|n6
   ·(unfold Sm at hq6;cases hq6)
   unfold Sm at hq6
   refine z ?_
   obtain⟨hg7,hq6⟩:=ah hq6
   refine zd ?_ ?_<;>intro h8
   ·rw[Th h8] at hq6
    obtain⟨j9,x9,en9,ex9,hq6⟩:=av hq6
    refine bI (bB _) en9 ex9 rfl (z ?_)
    obtain⟨v10,e10,hq6⟩:=aa hq6
    refine ce (ih e10) (z ?_)
    exact bk ⟨(n6,_,_),hq6⟩
   ·rw[Ti h8] at hq6
    obtain⟨hg11,hq6⟩:=ah hq6
    refine z ?_
    cases hq6
    exact fc
def NA (d:aO):Option Bool:=(Ic d).bind fun e=>some (decide (e=0))
theorem Nz {d:aO} {r:Bool} (hm:NA d=some r):Has Tryz.prog 26 [.agg (cw d)] fun s=>s= .bool r:=by
 refine hs ae Tryz.f26 ?_
 unfold NA at hm
 refine z ?_
 obtain⟨v1,e1,hm⟩:=aa hm
 refine ce (zD e1) (z ?_)
 cases hm
 exact fc
def L9 (d:aO):Option Int:=(NA d).bind fun ok=>if ok then Pl 20 d else some 0
theorem Pp {d:aO} {r:Int} (hm:L9 d=some r):Has Tryz.prog 10 [.agg (cw d)] fun s=>s= .int .i64 r:=by
 refine hs ae Tryz.f10 ?_
 unfold L9 at hm
 refine z ?_
 obtain⟨v1,e1,hm⟩:=aa hm
 refine ce (Nz e1) (z ?_)
 refine zm ?_ ?_<;>intro h2
 rw[Ti (nt h2)] at hm
 cases hm
 exact fc
 rw[Th h2] at hm
 replace hm:=aB hm
 obtain⟨v3,e3,hm⟩:=aa hm
 refine ce (Sl e3) (z ?_)
 cases hm
 exact fc
def Ld (x y:Va):Option Bool:=(jW x).bind fun a=>if a then(jW y).bind fun b=>if b then p6 (iG jr) x y else some false else some false
theorem OJ {x y:Va} {r:Bool} (hm:Ld x y=some r):bj Tryz.prog 14 [.agg (eo x),.agg (eo y)] fun s=>s= .bool r:=by
 refine ht ae Tryz.f14 ?_
 unfold Ld at hm
 refine z ?_
 obtain⟨v1,e1,hm⟩:=aa hm
 refine ct (kr e1) (z ?_)
 refine zr ?_ ?_<;>intro h2
 rw[Th h2] at hm
 obtain⟨v3,e3,hm⟩:=aa hm
 refine ct (kr e3) (z ?_)
 refine zr ?_ ?_<;>intro h4
 rw[Th h4] at hm
 replace hm:=aB hm
 obtain⟨v5,e5,hm⟩:=aa hm
 refine ct (la th e5) (z ?_)
 cases hm
 exact mst
 rw[Ti (nt h4)] at hm
 cases hm
 exact mst
 rw[Ti (nt h2)] at hm
 cases hm
 exact mst
def Jl (d:aO) (p q:Va×Int):Option Bool:=if p.2=9 then if q.2=9 then(L9 d).bind fun n=>if n=16 then ka else some false else some false else some false
def MI (v w:Va) (g h:Int) (same:Bool):Option Bool:=if g=0 then if h=0 then if same then(isC v).bind fun b=>if b then(isC w).bind fun b=>if b then(Ld v w).bind fun b=>if b then ka else some false else some false else some false else some false else some false else some false
def PZ (d:aO) (v w:Va):Option Bool:=(vt v true).bind fun x=>(vt w true).bind fun y=>(rP x.1 d).bind fun a=>if a then(rP y.1 d).bind fun s=>MI v w x.2 y.2 s else MI v w x.2 y.2 false
def OS (d:aO):Option Bool:=(oK d).bind fun s=>if s then(Ic d).bind fun e=>if e=0 then(PV d).bind fun p=>(rD d).bind fun q=>if p.2=0 then if q.2=0 then PZ d p.1 q.1 else Jl d p q else Jl d p q else ka else ka
theorem OR {d:aO} {r:Bool} (hm:OS d=some r):bj Tryz.prog 3 [.agg (cw d)] fun s=>s= .bool r:=by
 refine ht ae Tryz.f3 ?_
 unfold OS at hm
 refine z ?_
 obtain⟨v1,e1,hm⟩:=aa hm
 refine ce (qQ e1) (z ?_)
 refine zm ?_ ?_<;>intro h2
 rw[Ti (nt h2)] at hm
 replace hm:=aB hm
 obtain⟨v3,e3,hm⟩:=aa hm
 refine ct (iS e3) (z ?_)
 cases hm
 exact mst
 rw[Th h2] at hm
 obtain⟨v4,e4,hm⟩:=aa hm
 refine ce (zD e4) (z ?_)
 refine zn ?_ ?_<;>intro h5
 rw[Ti h5] at hm
 replace hm:=aB hm
 obtain⟨v6,e6,hm⟩:=aa hm
 refine ct (iS e6) (z ?_)
 cases hm
 exact mst
 rw[Th h5] at hm
 obtain⟨v7,e7,hm⟩:=aa hm
 refine ct (Aw e7) (z ?_)
 obtain⟨v8,e8,hm⟩:=aa hm
 refine ct (yK e8) (z ?_)
 refine zn ?_ ?_<;>intro h9
 rw[Ti h9] at hm
 unfold Jl at hm
 refine z ?_
 refine zd ?_ ?_<;>intro h10
 rw[Th h10] at hm
 refine zd ?_ ?_<;>intro h11
 rw[Th h11] at hm
 obtain⟨v12,e12,hm⟩:=aa hm
 refine ce (Pp e12) (z ?_)
 refine zd ?_ ?_<;>intro h13
 rw[Th h13] at hm
 replace hm:=aB hm
 obtain⟨v14,e14,hm⟩:=aa hm
 refine ct (iS e14) (z ?_)
 cases hm
 exact mst
 rw[Ti h13] at hm
 cases hm
 exact mst
 rw[Ti h11] at hm
 cases hm
 exact mst
 rw[Ti h10] at hm
 cases hm
 exact mst
 rw[Th h9] at hm
 refine zn ?_ ?_<;>intro h15
 rw[Ti h15] at hm
 unfold Jl at hm
 refine z ?_
 have h16:¬((v7.snd:Int)=9):=by omega
 refine Ax h16 (z ?_)
 rw[Ti h16] at hm
 cases hm
 exact mst
 rw[Th h15] at hm
 unfold PZ at hm
 refine z ?_
 obtain⟨v17,e17,hm⟩:=aa hm
 refine ct (vr e17) (z ?_)
 obtain⟨v18,e18,hm⟩:=aa hm
 refine ct (vr e18) (z ?_)
 obtain⟨v19,e19,hm⟩:=aa hm
 refine ce (pN e19) (z ?_)
 refine zr ?_ ?_<;>intro h20
 rw[Th h20] at hm
 obtain⟨v21,e21,hm⟩:=aa hm
 refine ce (pN e21) ?_
 unfold MI at hm
 refine z ?_
 refine zd ?_ ?_<;>intro h22
 rw[Th h22] at hm
 refine zd ?_ ?_<;>intro h23
 rw[Th h23] at hm
 refine zr ?_ ?_<;>intro h24
 rw[Th h24] at hm
 obtain⟨v25,e25,hm⟩:=aa hm
 refine ct (Lr e25) (z ?_)
 refine zr ?_ ?_<;>intro h26
 rw[Th h26] at hm
 obtain⟨v27,e27,hm⟩:=aa hm
 refine ct (Lr e27) (z ?_)
 refine zr ?_ ?_<;>intro h28
 rw[Th h28] at hm
 obtain⟨v29,e29,hm⟩:=aa hm
 refine ct (OJ e29) (z ?_)
 refine zr ?_ ?_<;>intro h30
 rw[Th h30] at hm
 replace hm:=aB hm
 obtain⟨v31,e31,hm⟩:=aa hm
 refine ct (iS e31) (z ?_)
 cases hm
 exact mst
 rw[Ti (nt h30)] at hm
 cases hm
 exact mst
 rw[Ti (nt h28)] at hm
 cases hm
 exact mst
 rw[Ti (nt h26)] at hm
 cases hm
 exact mst
 rw[Ti (nt h24)] at hm
 cases hm
 exact mst
 rw[Ti h23] at hm
 cases hm
 exact mst
 rw[Ti h22] at hm
 cases hm
 exact mst
 rw[Ti (nt h20)] at hm
 unfold MI at hm
 refine z ?_
 refine zd ?_ ?_<;>intro h32
 rw[Th h32] at hm
 refine zd ?_ ?_<;>intro h33
 rw[Th h33] at hm
 rw[Ti TL] at hm
 cases hm
 exact mst
 rw[Ti h33] at hm
 cases hm
 exact mst
 rw[Ti h32] at hm
 cases hm
 exact mst
end Go.Proofs.YtaagahmkmcnhaaaGreatDoor
