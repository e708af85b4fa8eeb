/- For ConcreteOnly and ConcreteBack: functions of the program, walked beside Lean functions that say what they compute. -/
import Derived.Test.YtaagahmkmcnhaaaGreatDoorMa
set_option linter.unusedVariables false
set_option linter.unusedSimpArgs false
set_option linter.unusedSectionVars false
namespace Go.Proofs.YtaagahmkmcnhaaaGreatDoor
open Sv
set_option maxRecDepth 100000
abbrev QC {α:Type} (l:List α):Option Unit:=yf (l.length<1000000000)
/-! complete -/
def zA (c i:Int):List Sv.Edge->List Int->Option (List Int)
 |[],row=>some row
 |e::r,row=>(lI e.lo).bind fun _=>if e.lo<=c then(lI e.hi).bind fun _=>if c<=e.hi then(kS row i e.to).bind fun row=>zA c i r row else zA c i r row else zA c i r row
def Ef (aF:List Sv.Edge) (sink:Int):List Int->Int->List Int->Option (List Int)
 |[],_,row=>some row
 |c::r,i,row=>(kS row i sink).bind fun row=>(aN aF).bind fun _=>(zA c i aF row).bind fun row=>Ef aF sink r (i+1) row
def vA (a8:List Int) (sink:Int):List ba->List (List Int)->List Bool->Option (List (List Int)×List Bool)
 |[],next,acc=>some (next,acc)
 |s::r,next,acc=>(QC a8).bind fun _=>(aN a8).bind fun _=>(Ef s.aF sink a8 0 (List.replicate a8.length 0)).bind fun row=>
  (push next row).bind fun next=>(push acc s.acc).bind fun acc=>vA a8 sink r next acc
def uS (sink:Int):Nat->Int->List Int->Option (List Int)
 |0,_,l=>some l
 |n+1,i,l=>(kS l i sink).bind fun l=>uS sink n (i+1) l
def GW (l:List ba):Option (List Int×List (List Int)×List Bool):=
 (Ma l).bind fun a8=>(aN l).bind fun _=>(vA a8 l.length l [] []).bind fun p=>
 (QC a8).bind fun _=>(uS l.length a8.length 0 (List.replicate a8.length 0)).bind fun last=>
 (push p.1 last).bind fun next=>(push p.2 false).bind fun acc=>some (a8,next,acc)
/-! refine -/
def C3:List Bool->Int->List Int->Option (List Int)
 |[],_,c=>some c
 |ok::r,s,c=>if ok then(kS c s 1).bind fun c=>C3 r (s+1) c else C3 r (s+1) c
def zB (cls:List Int) (next:List (List Int)):List (List Int)->Int->List (List UInt8×Int)->List Int->Option (List (List UInt8×Int)×List Int)
 |[],_,seen,nx=>some (seen,nx)
 |row::r,s,seen,nx=>(HU cls next s).bind fun x=>match cH x seen with
  |some k=>(kS nx s k).bind fun nx=>zB cls next r (s+1) seen nx
  |none=>(kS nx s seen.length).bind fun nx=>zB cls next r (s+1) (seen++[(x,(seen.length:Int))]) nx
def zC (next:List (List Int)):Nat->List Int->Int->Option (List Int)
 |0,_,_=>none
 |n+1,cls,many=>(QC next).bind fun _=>(aN next).bind fun _=>(zB cls next next 0 [] (List.replicate next.length 0)).bind fun p=>
  if(p.1.length:Int)=many then some p.2 else zC next n p.2 p.1.length
def Ib (next:List (List Int)) (acc:List Bool):Option (List Int):=
 (QC next).bind fun _=>(aN acc).bind fun _=>(C3 acc 0 (List.replicate next.length 0)).bind fun c=>zC next (next.length+2) c 0
/-! live -/
def jN (cls:List Int) (out:List Bool):List Int->Bool->Option Bool
 |[],ok=>some ok
 |to::r,ok=>if ok then jN cls out r true else(cN cls to).bind fun c=>(cN out c).bind fun b=>jN cls out r b
def oq (acc:List Bool) (cls:List Int):List (List Int)->Int->List Bool->Bool->Option (List Bool×Bool)
 |[],_,out,ag=>some (out,ag)
 |row::r,s,out,ag=>(cN acc s).bind fun ok=>(aN row).bind fun _=>(jN cls out row ok).bind fun ok=>
  if ok then(cN cls s).bind fun c=>(cN out c).bind fun b=>if b then oq acc cls r (s+1) out ag else(cN cls s).bind fun c=>(kS out c true).bind fun out=>oq acc cls r (s+1) out true
  else oq acc cls r (s+1) out ag
def uJ (acc:List Bool) (cls:List Int) (next:List (List Int)):Nat->List Bool->Bool->Option (List Bool)
 |0,_,_=>none
 |n+1,out,again=>if again then(aN next).bind fun _=>(oq acc cls next 0 out false).bind fun p=>uJ acc cls next n p.1 p.2 else some out
def Gt (next:List (List Int)) (acc:List Bool) (cls:List Int):Option (List Bool):=
 (QC next).bind fun _=>uJ acc cls next (next.length+2) (List.replicate next.length false) true
/-! canonical -/
def nX (a8:List Int) (i:Int):Option Int:=
 if i+1<a8.length then(cN a8 (i+1)).bind fun x=>(lI (x-1)).bind fun _=>some (x-1) else some 255
def rC (a8:List Int) (i c:Int) (m:List (Int×Int)) (e:List Sv.Edge):Option (List Sv.Edge):=
 (cN a8 i).bind fun lo=>(lI lo).bind fun _=>(nX a8 i).bind fun h=>match cH c m with
  |none=>none
  |some v=>push e ⟨lo,h,v⟩
def w9 (a8:List Int) (i c:Int) (m:List (Int×Int)) (e:List Sv.Edge):Option (List Sv.Edge):=
 if(e.length:Int)>0 then(cN e (e.length-1)).bind fun p=>match cH c m with
  |none=>none
  |some v=>if p.to=v then(cN e (e.length-1)).bind fun p=>(lI p.hi).bind fun _=>(cN a8 i).bind fun ct=>
    if p.hi+1=ct then(nX a8 i).bind fun h=>nV e (e.length-1) fun p=>⟨p.lo,h,p.to⟩ else rC a8 i c m e
   else rC a8 i c m e
 else rC a8 i c m e
def qw (a8 cls:List Int) (live:List Bool):List Int->Int->List Int->List (Int×Int)->List Sv.Edge->Option (List Int×List (Int×Int)×List Sv.Edge)
 |[],_,o,m,e=>some (o,m,e)
 |to::r,i,o,m,e=>(cN cls to).bind fun c=>(cN live c).bind fun lv=>if lv then
   match cH c m with
   |some _=>(aN e).bind fun _=>(w9 a8 i c m e).bind fun e=>qw a8 cls live r (i+1) o m e
   |none=>(push o to).bind fun o'=>(aN e).bind fun _=>(w9 a8 i c (m++[(c,(o.length:Int))]) e).bind fun e=>qw a8 cls live r (i+1) o' (m++[(c,(o.length:Int))]) e
  else qw a8 cls live r (i+1) o m e
def nZ (a8:List Int) (next:List (List Int)) (acc:List Bool) (cls:List Int) (live:List Bool):Nat->Int->List Int->List (Int×Int)->List ba->Option (List ba)
 |0,_,_,_,_=>none
 |n+1,k,o,m,out=>(aN o).bind fun _=>if k<o.length then(cN o k).bind fun s=>(cN acc s).bind fun a=>(cN o k).bind fun s=>(cN next s).bind fun row=>(aN row).bind fun _=>
   (qw a8 cls live row 0 o m []).bind fun p=>(push out ⟨a,p.2.2⟩).bind fun out=>nZ a8 next acc cls live n (k+1) p.1 p.2.1 out
  else some out
def Mx (a8:List Int) (next:List (List Int)) (acc:List Bool) (cls:List Int):Option (List ba):=
 (Gt next acc cls).bind fun live=>(cN cls 0).bind fun c=>(cN live c).bind fun b=>if b then
  (cN cls 0).bind fun c=>nZ a8 next acc cls live (next.length+1) 0 [0] [(c,0)] []
 else some []
def mu (l:List ba):Option (List ba×Int):=(DR l).bind fun ok=>if ok then
  if(l.length:Int)=0 then some ([],0) else(GW l).bind fun t=>(Ib t.2.1 t.2.2).bind fun cls=>(Mx t.1 t.2.1 t.2.2 cls).bind fun r=>some (r,0)
 else some ([],11)
set_option maxHeartbeats 4000000
theorem uC {l:List ba} {r:List ba×Int} (hm:mu l=some r):bj Tryz.prog 124 [aA l] fun s=>s= .dT [.agg [aA r.1],.int .i64 r.2]:=by
 refine ht ae Tryz.f124 ?_
 unfold mu at hm
 refine z ?_
 obtain⟨v1,e1,hm⟩:=aa hm
 refine ce (oe e1) (z ?_)
 refine zm ?_ ?_<;>intro h2
 rw[Ti (nt h2)] at hm
 cases hm
 refine aV (z ?_)
 exact mt
 rw[Th h2] at hm
 refine zd ?_ ?_<;>intro h3
 rw[Th h3] at hm
 cases hm
 refine aV (z ?_)
 exact mt
 rw[Ti h3] at hm
 unfold GW at hm
 refine ci ae Tryz.f153 (z ?_)
 rw[Tl] at hm
 obtain⟨v4,e4,hm⟩:=aa hm
 refine ce (Sr e4) ?_
 rw[Tl] at hm
 refine z ?_
 obtain⟨hg5,hm⟩:=ah hm
 rw[Tl] at hm
 obtain⟨v6,hv6,hm⟩:=aa hm
 refine bJ 2 1 1 rfl rfl ?_
 refine bJ 2 2 1 rfl rfl ?_
 refine lg (α:=Nat×List (List Int)×List Bool×Nat×Nat) ae (fun(iw,s1,s2,ts1,ts2)=>(vA v4 (↑l.length) (List.drop iw l) s1 s2=some v6,⟨130,[(22,.int .i64 iw),(21,.int .i64 ↑l.length),(20,aA l),(4,.int .i64 ↑l.length),(18,aA l),(3,.ptr 2 0),(17,.ptr 2 0),(15,.aE false (List.map bM v4)),(14,aA l),(2,.nilPtr),(0,aA l)]⟩,⟨[(4,.row 1 (s2.map dd) ts2 false),(3,.row 1 (s1.map gh) ts1 false),(2,.cells [.aE false (List.map bM v4),.own 3 ts1,.own 4 ts2,.ax]),(1,.cells [.ax]),(0,aX)],5,0,[],[]⟩,List.length l-iw)) ⟨(0,_,_,(0),(0)),hv6⟩ ?_
 rintro⟨i6,s1_6,s2_6,ts1_6,ts2_6⟩ hq6
 dsimp only at hq6
 refine z ?_
 refine zd ?_ ?_<;>intro h7
 obtain⟨x7,ex7,ed7⟩:=an h7
 rw[ed7,vA] at hq6
 refine z ?_
 obtain⟨hg8,hq6⟩:=ah hq6
 obtain⟨hg9,hq6⟩:=ah hq6
 refine bq ex7 rfl (z ?_)
 refine⟨_,_,rfl,rfl,Tp _,by omega,?_⟩
 refine z ?_
 refine jV bM v4.length (0) (by first|rfl|simp only[Tr]) rfl (z ?_)
 obtain⟨v10,hv10,hq6⟩:=aa hq6
 refine lg (α:=Nat×List Int×Nat) ae (fun(iw,s1,ts1)=>(Ef x7.aF (↑l.length) (List.drop iw v4) (iw:Int) s1=some v10,⟨130,[(37,.int .i64 iw),(36,.int .i64 ↑v4.length),(35,.aE false (List.map bM v4)),(7,.own 6 ts1),(6,.ptr 5 0),(22,.int .i64 ↑i6),(21,.int .i64 ↑l.length),(20,aA l),(4,.int .i64 ↑l.length),(18,aA l),(3,.ptr 2 0),(17,.ptr 2 0),(15,.aE false (List.map bM v4)),(14,aA l),(2,.nilPtr),(0,aA l)]⟩,⟨[(6,.row 1 (s1.map bM) ts1 false),(5,.cells [.bool x7.acc,.aE false (List.map cS x7.aF)]),(4,.row 1 (List.map dd s2_6) ts2_6 false),(3,.row 1 (List.map gh s1_6) ts1_6 false),(2,.cells [.aE false (List.map bM v4),.own 3 ts1_6,.own 4 ts2_6,.ax]),(1,.cells [.ax]),(0,aX)],7,0,[],[]⟩,List.length v4-iw)) ⟨(0,_,(0)),hv10⟩ ?_
 rintro⟨i10,s1_10,ts1_10⟩ hq10
 dsimp only at hq10
 refine z ?_
 refine zd ?_ ?_<;>intro h11
 obtain⟨x11,ex11,ed11⟩:=an h11
 rw[ed11,Ef] at hq10
 refine z ?_
 refine bq ex11 rfl (z ?_)
 obtain⟨j12,x12,en12,ex12,hq10⟩:=cV hq10
 refine aK en12 ex12 (z ?_)
 refine cq _ (↑l.length) ex12 rfl (z ?_)
 obtain⟨hg13,hq10⟩:=ah hq10
 obtain⟨v14,hv14,hq10⟩:=aa hq10
 refine lg (α:=Nat×List Int×Nat) ae (fun(iw,s1,ts1)=>(zA x11 (↑i10) (List.drop iw x7.aF) s1=some v14,⟨130,[(49,.int .i64 iw),(48,.int .i64 ↑x7.aF.length),(47,.aE false (List.map cS x7.aF)),(9,.int .i64 x11),(8,.int .i64 ↑i10),(37,.int .i64 ↑i10),(36,.int .i64 ↑v4.length),(35,.aE false (List.map bM v4)),(7,.own 6 ts1),(6,.ptr 5 0),(22,.int .i64 ↑i6),(21,.int .i64 ↑l.length),(20,aA l),(4,.int .i64 ↑l.length),(18,aA l),(3,.ptr 2 0),(17,.ptr 2 0),(15,.aE false (List.map bM v4)),(14,aA l),(2,.nilPtr),(0,aA l)]⟩,⟨[(6,.row 1 (s1.map bM) ts1 false),(5,.cells [.bool x7.acc,.aE false (List.map cS x7.aF)]),(4,.row 1 (List.map dd s2_6) ts2_6 false),(3,.row 1 (List.map gh s1_6) ts1_6 false),(2,.cells [.aE false (List.map bM v4),.own 3 ts1_6,.own 4 ts2_6,.ax]),(1,.cells [.ax]),(0,aX)],7,0,[],[]⟩,List.length x7.aF-iw)) ⟨(0,_,ts1_10),hv14⟩ ?_
 rintro⟨i14,s1_14,ts1_14⟩ hq14
 dsimp only at hq14
 refine z ?_
 refine zd ?_ ?_<;>intro h15
 obtain⟨x15,ex15,ed15⟩:=an h15
 rw[ed15,zA] at hq14
 refine z ?_
 obtain⟨hg16,hq14⟩:=ah hq14
 refine bq ex15 rfl (z ?_)
 refine zd ?_ ?_<;>intro h17
 rw[Th h17] at hq14
 obtain⟨hg18,hq14⟩:=ah hq14
 refine z ?_
 refine zd ?_ ?_<;>intro h19
 rw[Th h19] at hq14
 obtain⟨j20,x20,en20,ex20,hq14⟩:=cV hq14
 refine aK en20 ex20 (z ?_)
 refine cq _ x15.to ex20 rfl (z ?_)
 exact bk ⟨(i14+1,_,ts1_14),hq14⟩
 rw[Ti h19] at hq14
 exact bk ⟨(i14+1,_,ts1_14),hq14⟩
 rw[Ti h17] at hq14
 exact bk ⟨(i14+1,_,ts1_14),hq14⟩
 rw[aq h15,zA] at hq14
 cases hq14
 refine z ?_
 exact bk ⟨(i10+1,_,ts1_14),hq10⟩
 rw[aq h11,Ef] at hq10
 cases hq10
 refine z ?_
 obtain⟨hg21,hq6⟩:=ay hq6
 refine z ?_
 refine aH v10 rfl (z ?_)
 refine dg ae [0,0,2,6,14,0,32,96,254,511,1023,2047] [⟨11,0,0,[2]⟩,⟨8,0,0,[4]⟩] (z ?_)
 obtain⟨hg23,hq6⟩:=ay hq6
 refine z ?_
 refine aH x7.acc rfl (z ?_)
 exact bk ⟨(i6+1,_,_,(ts1_6+1),(ts2_6+1)),hq6⟩
 rw[aq h7,vA] at hq6
 cases hq6
 dsimp only at hm
 rw[Tl] at hm
 refine z ?_
 obtain⟨hg24,hm⟩:=ah hm
 rw[Tl] at hm
 refine⟨_,_,rfl,rfl,Tp _,by omega,?_⟩
 refine z ?_
 refine jV bM v4.length (0) (by first|rfl|simp only[Tr]) rfl (z ?_)
 obtain⟨v25,hv25,hm⟩:=aa hm
 refine lg (α:=Nat×List Int×Nat) ae (fun(iw,s1,ts1)=>(uS (↑l.length) (v4.length-iw) (iw:Int) s1=some v25,⟨130,[(102,.int .i64 iw),(101,.int .i64 ↑v4.length),(12,.own 5 ts1),(4,.int .i64 ↑l.length),(18,aA l),(3,.ptr 2 0),(17,.ptr 2 0),(15,.aE false (List.map bM v4)),(14,aA l),(2,.nilPtr),(0,aA l)]⟩,⟨[(5,.row 1 (s1.map bM) ts1 false),(4,.row 1 (List.map dd s2_6) ts2_6 false),(3,.row 1 (List.map gh s1_6) ts1_6 false),(2,.cells [.aE false (List.map bM v4),.own 3 ts1_6,.own 4 ts2_6,.ax]),(1,.cells [.ax]),(0,aX)],6,0,[],[]⟩,v4.length-iw)) ⟨(0,_,(0)),hv25⟩ ?_
 rintro⟨i25,s1_25,ts1_25⟩ hq25
 dsimp only at hq25
 refine z ?_
 refine zd ?_ ?_<;>intro h26
 have h26':(i25:Int)<(((v4.length):Nat):Int):=by(try simp only[Tr,Ty,Tx,Tt] at h26);omega
 rw[c9 h26',uS] at hq25
 refine z ?_
 obtain⟨j27,x27,en27,ex27,hq25⟩:=cV hq25
 refine aK en27 ex27 (z ?_)
 refine cq _ (↑l.length) ex27 rfl (z ?_)
 exact bk ⟨(i25+1,_,ts1_25),hq25⟩
 have h26':¬(i25:Int)<(((v4.length):Nat):Int):=by(try simp only[Tr,Ty,Tx,Tt] at h26);omega
 rw[c8 h26',uS] at hq25
 cases hq25
 rw[Tl] at hm
 refine z ?_
 obtain⟨hg28,hm⟩:=ay hm
 rw[Tl] at hm
 refine z ?_
 refine aH v25 rfl (z ?_)
 obtain⟨hg29,hm⟩:=ay hm
 dsimp only[Option.bind_some] at hm
 refine z ?_
 refine aH false rfl (z ?_)
 refine ei (z ?_)
 unfold Ib at hm
 refine ci ae Tryz.f154 (z ?_)
 rw[Tl] at hm
 obtain⟨hg30,hm⟩:=ah hm
 rw[Tl] at hm
 obtain⟨hg31,hm⟩:=ah hm
 rw[Tl] at hm
 refine⟨_,_,rfl,rfl,Tp _,by omega,?_⟩
 refine z ?_
 refine jV bM ((s1_6++[v25]).length) (0) (by first|rfl|simp only[Tr]) rfl (z ?_)
 obtain⟨v32,hv32,hm⟩:=aa hm
 refine lg (α:=Nat×List Int×Nat) ae (fun(iw,s1,ts1)=>(C3 (List.drop iw (s2_6++[false])) (iw:Int) s1=some v32,⟨87,[(26,.int .i64 iw),(25,.int .i64 ↑(s2_6++[false]).length),(24,.own 4 (ts2_6+1)),(18,.own 8 ts1),(17,.int .i64 ↑(s1_6++[v25]).length),(15,.ptr 2 1),(14,.ptr 2 0),(13,.ptr 2 0),(0,.ptr 2 0)]⟩,⟨[(8,.row 1 (s1.map bM) ts1 false),(7,.row 1 [[.bool false]] 0 false),(6,.row 1 [[.aE false (List.map bM v25)]] 0 false),(5,.row 1 (List.map bM v25) ts1_25 true),(4,.row 1 (List.map dd (s2_6++[false])) (ts2_6+1) false),(3,.row 1 (List.map gh (s1_6++[v25])) (ts1_6+1) false),(2,.cells [.aE false (List.map bM v4),.own 3 (ts1_6+1),.own 4 (ts2_6+1),.own 8 ts1]),(1,.cells [.ax]),(0,aX)],9,0,[],[]⟩,List.length (s2_6++[false])-iw)) ⟨(0,_,(0)),hv32⟩ ?_
 rintro⟨i32,s1_32,ts1_32⟩ hq32
 dsimp only at hq32
 refine z ?_
 refine zd ?_ ?_<;>intro h33
 obtain⟨x33,ex33,ed33⟩:=an h33
 rw[ed33,C3] at hq32
 refine z ?_
 refine aK rfl ex33 (z ?_)
 refine bP ex33 (z ?_)
 refine zr ?_ ?_<;>intro h34
 rw[Th h34] at hq32
 obtain⟨j35,x35,en35,ex35,hq32⟩:=cV hq32
 refine aK en35 ex35 (z ?_)
 refine cq _ (1) ex35 rfl (z ?_)
 exact bk ⟨(i32+1,_,ts1_32),hq32⟩
 rw[Ti (nt h34)] at hq32
 exact bk ⟨(i32+1,_,ts1_32),hq32⟩
 rw[aq h33,C3] at hq32
 cases hq32
 refine z ?_
 refine aY rfl rfl ?_
 obtain⟨v36,hv36,hm⟩:=aa hm
 refine ID 2 3 rfl rfl rfl ?_
 refine lg (α:=Nat×List Int×Int) ae (fun(nw,s1,s2)=>(zC (s1_6++[v25]) nw s1 s2=some v36,⟨87,[(5,.func (.func 196) [.ptr 2 0] []),(4,.int .i64 s2),(18,.own 8 ts1_32),(17,.int .i64 ↑(s1_6++[v25]).length),(15,.ptr 2 1),(14,.ptr 2 0),(13,.ptr 2 0),(0,.ptr 2 0)]⟩,⟨[(8,.row 1 (List.map bM v32) ts1_32 true),(7,.row 1 [[.bool false]] 0 false),(6,.row 1 [[.aE false (List.map bM v25)]] 0 false),(5,.row 1 (List.map bM v25) ts1_25 true),(4,.row 1 (List.map dd (s2_6++[false])) (ts2_6+1) false),(3,.row 1 (List.map gh (s1_6++[v25])) (ts1_6+1) false),(2,.cells [.aE false (List.map bM v4),.own 3 (ts1_6+1),.own 4 (ts2_6+1),.aE false (s1.map bM)]),(1,.cells [.ax]),(0,aX)],9,0,[],[]⟩,nw)) ⟨(_,_,_),hv36⟩ ?_
 rintro⟨n36,s1_36,s2_36⟩ hq36
 dsimp only at hq36
 rcases n36 with _|n36
 (unfold zC at hq36;cases hq36)
 unfold zC at hq36
 refine z ?_
 obtain⟨hg37,hq36⟩:=ah hq36
 obtain⟨hg38,hq36⟩:=ah hq36
 refine⟨_,_,rfl,rfl,Tp _,by omega,?_⟩
 refine z ?_
 refine jV bM ((s1_6++[v25]).length) (0) (by first|rfl|simp only[Tr]) rfl (z ?_)
 obtain⟨v39,hv39,hq36⟩:=aa hq36
 refine lg (α:=Nat×List (List UInt8×Int)×List Int×Nat) ae (fun(iw,s1,s2,ts2)=>(zB s1_36 (s1_6++[v25]) (List.drop iw (s1_6++[v25])) (iw:Int) s1 s2=some v39,⟨87,[(53,.int .i64 iw),(52,.int .i64 ↑(s1_6++[v25]).length),(7,.own 10 ts2),(6,.map 9),(5,.func (.func 196) [.ptr 2 0] []),(4,.int .i64 s2_36),(18,.own 8 ts1_32),(17,.int .i64 ↑(s1_6++[v25]).length),(15,.ptr 2 1),(14,.ptr 2 0),(13,.ptr 2 0),(0,.ptr 2 0)]⟩,⟨[(10,.row 1 (s2.map bM) ts2 false),(9,.map (jD .str (.int .i64) s1)),(8,.row 1 (List.map bM v32) ts1_32 true),(7,.row 1 [[.bool false]] 0 false),(6,.row 1 [[.aE false (List.map bM v25)]] 0 false),(5,.row 1 (List.map bM v25) ts1_25 true),(4,.row 1 (List.map dd (s2_6++[false])) (ts2_6+1) false),(3,.row 1 (List.map gh (s1_6++[v25])) (ts1_6+1) false),(2,.cells [.aE false (List.map bM v4),.own 3 (ts1_6+1),.own 4 (ts2_6+1),.aE false (List.map bM s1_36)]),(1,.cells [.ax]),(0,aX)],11,0,[],[]⟩,List.length (s1_6++[v25])-iw)) ⟨(0,_,_,(0)),hv39⟩ ?_
 rintro⟨i39,s1_39,s2_39,ts2_39⟩ hq39
 dsimp only at hq39
 refine z ?_
 refine zd ?_ ?_<;>intro h40
 obtain⟨x40,ex40,ed40⟩:=an h40
 rw[ed40,zB] at hq39
 refine z ?_
 obtain⟨v41,e41,hq39⟩:=aa hq39
 refine MB e41 rfl (.own rfl) (by first|exact .own rfl|exact .aE) rfl (z ?_)
 refine nL (kf:=SVal.str) (g:=SVal.int IntKind.i64) (fun ef42=> ?_) (fun v42 q42 ef42=> ?_)
 rw[ef42] at hq39
 dsimp only at hq39
 refine z ?_
 refine(DW (kf:=SVal.str) (g:=SVal.int IntKind.i64) (by assumption) ?_).2.2
 refine z ?_
 obtain⟨j43,x43,en43,ex43,hq39⟩:=cV hq39
 refine aK en43 ex43 (z ?_)
 refine cq _ (↑s1_39.length) ex43 rfl (z ?_)
 exact bk ⟨(i39+1,_,_,ts2_39),hq39⟩
 rw[ef42] at hq39
 dsimp only at hq39
 refine z ?_
 obtain⟨j44,x44,en44,ex44,hq39⟩:=cV hq39
 refine aK en44 ex44 (z ?_)
 refine cq _ v42 ex44 rfl (z ?_)
 exact bk ⟨(i39+1,_,_,ts2_39),hq39⟩
 rw[aq h40,zB] at hq39
 cases hq39
 dsimp only at hq36
 refine z ?_
 refine zd ?_ ?_<;>intro h45
 rw[Th h45] at hq36
 cases hq36
 refine z ?_
 refine ei (z ?_)
 unfold Mx at hm
 refine ci ae Tryz.f155 (z ?_)
 rw[Tl] at hm
 unfold Gt at hm
 refine ci ae Tryz.f197 (z ?_)
 rw[Tl] at hm
 obtain⟨hg46,hm⟩:=ah hm
 refine⟨_,_,rfl,rfl,Tp _,by omega,?_⟩
 refine z ?_
 refine jV dd ((s1_6++[v25]).length) false (by first|rfl|simp only[Tr]) rfl (z ?_)
 obtain⟨v47,hv47,hm⟩:=aa hm
 refine lg (α:=Nat×List Bool×Bool×Nat) ae (fun(nw,s1,s2,ts1)=>(uJ (s2_6++[false]) v36 (s1_6++[v25]) nw s1 s2=some v47,⟨82,[(4,.bool s2),(3,.own 12 ts1),(14,.own 12 ts1),(13,.int .i64 ↑(s1_6++[v25]).length),(11,.ptr 2 1),(10,.ptr 2 0),(9,.ptr 2 0),(2,.ax),(0,.ptr 2 0)]⟩,⟨[(12,.row 1 (s1.map dd) ts1 false),(11,.cells [.ax]),(10,.row 1 (List.map bM v36) ts2_39 false),(9,.map (jD .str (.int IntKind.i64) s1_39)),(8,.row 1 (List.map bM v32) ts1_32 true),(7,.row 1 [[.bool false]] 0 false),(6,.row 1 [[.aE false (List.map bM v25)]] 0 false),(5,.row 1 (List.map bM v25) ts1_25 true),(4,.row 1 (List.map dd (s2_6++[false])) (ts2_6+1) false),(3,.row 1 (List.map gh (s1_6++[v25])) (ts1_6+1) false),(2,.cells [.aE false (List.map bM v4),.own 3 (ts1_6+1),.own 4 (ts2_6+1),.own 10 ts2_39]),(1,.cells [.ax]),(0,aX)],13,0,[],[]⟩,nw)) ⟨(_,_,_,(0)),hv47⟩ ?_
 rintro⟨n47,s1_47,s2_47,ts1_47⟩ hq47
 dsimp only at hq47
 rcases n47 with _|n47
 (unfold uJ at hq47;cases hq47)
 unfold uJ at hq47
 refine z ?_
 refine zr ?_ ?_<;>intro h48
 rw[Th h48] at hq47
 obtain⟨hg49,hq47⟩:=ah hq47
 refine aY rfl rfl ?_
 obtain⟨v50,hv50,hq47⟩:=aa hq47
 refine lg (α:=Nat×List Bool×Bool×Nat) ae (fun(iw,s1,s2,ts1)=>(oq (s2_6++[false]) v36 (List.drop iw (s1_6++[v25])) (iw:Int) s1 s2=some v50,⟨82,[(21,.int .i64 iw),(20,.int .i64 ↑(s1_6++[v25]).length),(19,.own 3 (ts1_6+1)),(18,.ptr 2 1),(17,.ptr 2 0),(16,.ptr 2 0),(4,.bool s2),(15,.bool s2_47),(3,.own 12 ts1),(14,.own 12 ts1),(13,.int .i64 ↑(s1_6++[v25]).length),(11,.ptr 2 1),(10,.ptr 2 0),(9,.ptr 2 0),(2,.ax),(0,.ptr 2 0)]⟩,⟨[(12,.row 1 (s1.map dd) ts1 false),(11,.cells [.ax]),(10,.row 1 (List.map bM v36) ts2_39 false),(9,.map (jD .str (.int IntKind.i64) s1_39)),(8,.row 1 (List.map bM v32) ts1_32 true),(7,.row 1 [[.bool false]] 0 false),(6,.row 1 [[.aE false (List.map bM v25)]] 0 false),(5,.row 1 (List.map bM v25) ts1_25 true),(4,.row 1 (List.map dd (s2_6++[false])) (ts2_6+1) false),(3,.row 1 (List.map gh (s1_6++[v25])) (ts1_6+1) false),(2,.cells [.aE false (List.map bM v4),.own 3 (ts1_6+1),.own 4 (ts2_6+1),.own 10 ts2_39]),(1,.cells [.ax]),(0,aX)],13,0,[],[]⟩,List.length (s1_6++[v25])-iw)) ⟨(0,_,_,ts1_47),hv50⟩ ?_
 rintro⟨i50,s1_50,s2_50,ts1_50⟩ hq50
 dsimp only at hq50
 refine z ?_
 refine zd ?_ ?_<;>intro h51
 obtain⟨x51,ex51,ed51⟩:=an h51
 rw[ed51,oq] at hq50
 refine z ?_
 obtain⟨j52,x52,en52,ex52,hq50⟩:=av hq50
 refine aK en52 ex52 (z ?_)
 refine bP ex52 (z ?_)
 obtain⟨hg53,hq50⟩:=ah hq50
 refine aK rfl ex51 (z ?_)
 refine bP ex51 (z ?_)
 refine aY rfl rfl ?_
 obtain⟨v54,hv54,hq50⟩:=aa hq50
 refine lg (α:=Nat×Bool) ae (fun(iw,s1)=>(jN v36 s1_50 (List.drop iw x51) s1=some v54,⟨82,[(39,.int .i64 iw),(38,.int .i64 ↑x51.length),(37,.aE false (List.map bM x51)),(36,.fq 3 (ts1_6+1) i50 0),(35,.int .i64 ↑i50),(34,.own 3 (ts1_6+1)),(33,.ptr 2 1),(32,.ptr 2 0),(31,.ptr 2 0),(6,.bool s1),(30,.bool x52),(29,.fq 4 (ts2_6+1) j52 0),(28,.int .i64 ↑i50),(27,.own 4 (ts2_6+1)),(26,.ptr 2 2),(25,.ptr 2 0),(24,.ptr 2 0),(5,.int .i64 ↑i50),(23,.int .i64 ↑i50),(21,.int .i64 ↑i50),(20,.int .i64 ↑(s1_6++[v25]).length),(19,.own 3 (ts1_6+1)),(18,.ptr 2 1),(17,.ptr 2 0),(16,.ptr 2 0),(4,.bool s2_50),(15,.bool s2_47),(3,.own 12 ts1_50),(14,.own 12 ts1_50),(13,.int .i64 ↑(s1_6++[v25]).length),(11,.ptr 2 1),(10,.ptr 2 0),(9,.ptr 2 0),(2,.ax),(0,.ptr 2 0)]⟩,⟨[(12,.row 1 (List.map dd s1_50) ts1_50 false),(11,.cells [.ax]),(10,.row 1 (List.map bM v36) ts2_39 false),(9,.map (jD .str (.int IntKind.i64) s1_39)),(8,.row 1 (List.map bM v32) ts1_32 true),(7,.row 1 [[.bool false]] 0 false),(6,.row 1 [[.aE false (List.map bM v25)]] 0 false),(5,.row 1 (List.map bM v25) ts1_25 true),(4,.row 1 (List.map dd (s2_6++[false])) (ts2_6+1) false),(3,.row 1 (List.map gh (s1_6++[v25])) (ts1_6+1) false),(2,.cells [.aE false (List.map bM v4),.own 3 (ts1_6+1),.own 4 (ts2_6+1),.own 10 ts2_39]),(1,.cells [.ax]),(0,aX)],13,0,[],[]⟩,List.length x51-iw)) ⟨(0,_),hv54⟩ ?_
 rintro⟨i54,s1_54⟩ hq54
 dsimp only at hq54
 refine z ?_
 refine zd ?_ ?_<;>intro h55
 obtain⟨x55,ex55,ed55⟩:=an h55
 rw[ed55,jN] at hq54
 refine z ?_
 refine bq ex55 rfl (z ?_)
 refine zr ?_ ?_<;>intro h56
 rw[Th h56] at hq54
 exact bk ⟨(i54+1,_),hq54⟩
 rw[Ti (nt h56)] at hq54
 obtain⟨j57,x57,en57,ex57,hq54⟩:=av hq54
 refine aK en57 ex57 (z ?_)
 refine bP ex57 (z ?_)
 obtain⟨j58,x58,en58,ex58,hq54⟩:=av hq54
 refine aK en58 ex58 (z ?_)
 refine bP ex58 (z ?_)
 exact bk ⟨(i54+1,_),hq54⟩
 rw[aq h55,jN] at hq54
 cases hq54
 refine z ?_
 refine zr ?_ ?_<;>intro h59
 rw[Th h59] at hq50
 obtain⟨j60,x60,en60,ex60,hq50⟩:=av hq50
 refine aK en60 ex60 (z ?_)
 refine bP ex60 (z ?_)
 obtain⟨j61,x61,en61,ex61,hq50⟩:=av hq50
 refine aK en61 ex61 (z ?_)
 refine bP ex61 (z ?_)
 refine zm ?_ ?_<;>intro h62
 rw[Ti (nt h62)] at hq50
 obtain⟨j63,x63,en63,ex63,hq50⟩:=av hq50
 refine aK en63 ex63 (z ?_)
 refine bP ex63 (z ?_)
 obtain⟨j64,x64,en64,ex64,hq50⟩:=cV hq50
 refine aK en64 ex64 (z ?_)
 refine cq _ true ex64 rfl (z ?_)
 exact bk ⟨(i50+1,_,_,ts1_50),hq50⟩
 rw[Th h62] at hq50
 exact bk ⟨(i50+1,_,_,ts1_50),hq50⟩
 rw[Ti (nt h59)] at hq50
 exact bk ⟨(i50+1,_,_,ts1_50),hq50⟩
 rw[aq h51,oq] at hq50
 cases hq50
 dsimp only at hq47
 refine z ?_
 exact bk ⟨(n47,_,_,ts1_50),hq47⟩
 rw[Ti (nt h48)] at hq47
 cases hq47
 rw[Tl] at hm
 refine z ?_
 refine ei (z ?_)
 obtain⟨j65,x65,en65,ex65,hm⟩:=av hm
 refine aK en65 ex65 ?_
 rw[Tl] at hm
 refine z ?_
 refine bP ex65 (z ?_)
 obtain⟨j66,x66,en66,ex66,hm⟩:=av hm
 refine aK en66 ex66 (z ?_)
 refine bP ex66 (z ?_)
 refine zm ?_ ?_<;>intro h67
 rw[Ti (nt h67)] at hm
 dsimp only[Option.bind_some] at hm
 refine z ?_
 refine ei (z ?_)
 cases hm
 refine aV (z ?_)
 exact mt
 rw[Th h67] at hm
 rw[Tl] at hm
 refine z ?_
 obtain⟨j68,x68,en68,ex68,hm⟩:=av hm
 refine aK en68 ex68 (z ?_)
 refine bP ex68 (z ?_)
 first|refine⟨(fun p hp=>by cases hp),.nil,?_⟩|refine⟨by first|trivial|rfl,(fun p hp=>by cases hp),.nil,?_⟩
 refine z ?_
 obtain⟨v69,hv69,hm⟩:=aa hm
 refine bJ 15 0 2 rfl rfl ?_
 refine lg (α:=Nat×Int×List Int×List (Int×Int)×List ba×Nat×Nat) ae (fun(nw,s1,s2,s3,s4,ts2,ts4)=>(nZ v4 (s1_6++[v25]) (s2_6++[false]) v36 v47 nw s1 s2 s3 s4=some v69,⟨172,[(7,.int .i64 s1),(6,.ptr 15 0),(5,.map 14),(4,.own 13 ts2),(18,.ptr 2 0),(17,.own 12 ts1_47),(3,.own 12 ts1_47),(16,.own 12 ts1_47),(15,.ptr 2 0),(2,.ptr 11 0),(0,.ptr 2 0)]⟩,⟨[(16,.row 2 (s4.map ic) ts4 false),(15,.cells [.own 16 ts4]),(14,.map (jD (.int .i64) (.int .i64) s3)),(13,.row 1 (s2.map bM) ts2 false),(12,.row 1 (List.map dd v47) ts1_47 false),(11,.cells [.ax]),(10,.row 1 (List.map bM v36) ts2_39 false),(9,.map (jD .str (.int IntKind.i64) s1_39)),(8,.row 1 (List.map bM v32) ts1_32 true),(7,.row 1 [[.bool false]] 0 false),(6,.row 1 [[.aE false (List.map bM v25)]] 0 false),(5,.row 1 (List.map bM v25) ts1_25 true),(4,.row 1 (List.map dd (s2_6++[false])) (ts2_6+1) false),(3,.row 1 (List.map gh (s1_6++[v25])) (ts1_6+1) false),(2,.cells [.aE false (List.map bM v4),.own 3 (ts1_6+1),.own 4 (ts2_6+1),.own 10 ts2_39]),(1,.cells [.ax]),(0,aX)],17,0,[],[]⟩,nw)) ⟨(_,_,_,_,_,(0),(0)),hv69⟩ ?_
 rintro⟨n69,s1_69,s2_69,s3_69,s4_69,ts2_69,ts4_69⟩ hq69
 dsimp only at hq69
 rcases n69 with _|n69
 (unfold nZ at hq69;cases hq69)
 unfold nZ at hq69
 refine z ?_
 obtain⟨hg70,hq69⟩:=ah hq69
 refine zd ?_ ?_<;>intro h71
 rw[Th h71] at hq69
 refine dg ae [0,1,3,7,0,0,48,112,255,511,1023,0,4095] [] (z ?_)
 obtain⟨j72,x72,en72,ex72,hq69⟩:=av hq69
 refine aK en72 ex72 (z ?_)
 refine bP ex72 (z ?_)
 obtain⟨j73,x73,en73,ex73,hq69⟩:=av hq69
 refine aK en73 ex73 (z ?_)
 refine bP ex73 (z ?_)
 refine dg ae [0,1,3,7,0,0,48,112,255,511,1023,0] [] (z ?_)
 obtain⟨j74,x74,en74,ex74,hq69⟩:=av hq69
 refine aK en74 ex74 (z ?_)
 refine bP ex74 (z ?_)
 obtain⟨j75,x75,en75,ex75,hq69⟩:=av hq69
 refine aK en75 ex75 (z ?_)
 refine bP ex75 (z ?_)
 obtain⟨hg76,hq69⟩:=ah hq69
 obtain⟨v77,hv77,hq69⟩:=aa hq69
 refine bJ 17 1 3 rfl rfl ?_
 refine lg (α:=Nat×List Int×List (Int×Int)×List Sv.Edge×Nat×Nat) ae (fun(iw,s1,s2,s3,ts1,ts3)=>(qw v4 v36 v47 (List.drop iw x75) (iw:Int) s1 s2 s3=some v77,⟨172,[(65,.int .i64 iw),(64,.int .i64 ↑x75.length),(63,.aE false (List.map bM x75)),(8,.ptr 17 0),(7,.int .i64 s1_69),(6,.ptr 15 0),(5,.map 14),(4,.own 13 ts1),(18,.ptr 2 0),(17,.own 12 ts1_47),(3,.own 12 ts1_47),(16,.own 12 ts1_47),(15,.ptr 2 0),(2,.ptr 11 0),(0,.ptr 2 0)]⟩,⟨[(18,.row 3 (s3.map cS) ts3 false),(17,.cells [.bool x73,.own 18 ts3]),(16,.row 2 (List.map ic s4_69) ts4_69 false),(15,.cells [.own 16 ts4_69]),(14,.map (jD (.int .i64) (.int .i64) s2)),(13,.row 1 (s1.map bM) ts1 false),(12,.row 1 (List.map dd v47) ts1_47 false),(11,.cells [.ax]),(10,.row 1 (List.map bM v36) ts2_39 false),(9,.map (jD .str (.int IntKind.i64) s1_39)),(8,.row 1 (List.map bM v32) ts1_32 true),(7,.row 1 [[.bool false]] 0 false),(6,.row 1 [[.aE false (List.map bM v25)]] 0 false),(5,.row 1 (List.map bM v25) ts1_25 true),(4,.row 1 (List.map dd (s2_6++[false])) (ts2_6+1) false),(3,.row 1 (List.map gh (s1_6++[v25])) (ts1_6+1) false),(2,.cells [.aE false (List.map bM v4),.own 3 (ts1_6+1),.own 4 (ts2_6+1),.own 10 ts2_39]),(1,.cells [.ax]),(0,aX)],19,0,[],[]⟩,List.length x75-iw)) ⟨(0,_,_,_,ts2_69,(0)),hv77⟩ ?_
 rintro⟨i77,s1_77,s2_77,s3_77,ts1_77,ts3_77⟩ hq77
 dsimp only at hq77
 refine z ?_
 refine zd ?_ ?_<;>intro h78
 obtain⟨x78,ex78,ed78⟩:=an h78
 rw[ed78,qw] at hq77
 refine z ?_
 refine bq ex78 rfl (z ?_)
 obtain⟨j79,x79,en79,ex79,hq77⟩:=av hq77
 refine aK en79 ex79 (z ?_)
 refine bP ex79 (z ?_)
 obtain⟨j80,x80,en80,ex80,hq77⟩:=av hq77
 refine aK en80 ex80 (z ?_)
 refine bP ex80 (z ?_)
 refine zm ?_ ?_<;>intro h81
 rw[Ti (nt h81)] at hq77
 exact bk ⟨(i77+1,_,_,_,ts1_77,ts3_77),hq77⟩
 rw[Th h81] at hq77
 refine nL (kf:=SVal.int IntKind.i64) (g:=SVal.int IntKind.i64) (fun ef82=> ?_) (fun v82 q82 ef82=> ?_)
 rw[ef82] at hq77
 dsimp only at hq77
 refine z ?_
 refine(DW (kf:=SVal.int IntKind.i64) (g:=SVal.int IntKind.i64) (by assumption) ?_).2.2
 refine z ?_
 obtain⟨hg83,hq77⟩:=ay hq77
 refine z ?_
 refine aH x78 rfl (z ?_)
 refine dg ae [0,1,3,7,15,7,39,127,255,511,7,7,3079,8191,16383,32767,65535,131071,65535,327679,1048575,2097151,4194303,8388607,16777215,65535,33619967,100728831,234946559,65535,1040252927,2113994751,4294967295,8589934591] [] (z ?_)
 obtain⟨hg84,hq77⟩:=ah hq77
 unfold w9 at hq77
 refine zd ?_ ?_<;>intro h85
 rw[Th h85] at hq77
 rw[Tl] at hq77
 refine z ?_
 obtain⟨j86,x86,en86,ex86,hq77⟩:=av hq77
 refine aK en86 ex86 (z ?_)
 refine bP ex86 (z ?_)
 refine nL (kf:=SVal.int IntKind.i64) (g:=SVal.int IntKind.i64) (fun ef87=> ?_) (fun v87 q87 ef87=> ?_)
 rw[ef87] at hq77
 dsimp only at hq77
 cases hq77
 rw[ef87] at hq77
 dsimp only at hq77
 refine z ?_
 refine zd ?_ ?_<;>intro h88
 rw[Th h88] at hq77
 rw[Tl] at hq77
 refine z ?_
 obtain⟨j89,x89,en89,ex89,hq77⟩:=av hq77
 refine aK en89 ex89 ?_
 rw[Tl] at hq77
 refine z ?_
 refine bP ex89 (z ?_)
 obtain⟨hg90,hq77⟩:=ah hq77
 rw[Tl] at hq77
 refine z ?_
 obtain⟨j92,x92,en92,ex92,hq77⟩:=av hq77
 refine bF en92 ex92 rfl (z ?_)
 refine zd ?_ ?_<;>intro h93
 rw[Th h93] at hq77
 rw[Tl] at hq77
 refine z ?_
 refine dg ae [0,1,0,4,0,0,48,127,255,511] [] (z ?_)
 unfold nX at hq77
 refine cd ae Tryz.f198 (z ?_)
 refine zd ?_ ?_<;>intro h94
 rw[Th h94] at hq77
 rw[Tl] at hq77
 refine z ?_
 obtain⟨j95,x95,en95,ex95,hq77⟩:=av hq77
 refine bF en95 ex95 rfl ?_
 rw[Tl] at hq77
 refine z ?_
 obtain⟨hg96,hq77⟩:=ah hq77
 dsimp only[Option.bind_some] at hq77
 refine z ?_
 refine ed (z ?_)
 obtain⟨j98,x98,en98,ex98,hq77⟩:=bV hq77
 refine aK en98 ex98 (z ?_)
 refine cq _ ({lo:=x98.lo,hi:=x95-1,to:=x98.to}) ex98 rfl (z ?_)
 exact bk ⟨(i77+1,_,_,_,(ts1_77+1),ts3_77),hq77⟩
 rw[Ti h94] at hq77
 dsimp only[Option.bind_some] at hq77
 refine z ?_
 refine ed (z ?_)
 obtain⟨j99,x99,en99,ex99,hq77⟩:=bV hq77
 refine aK en99 ex99 (z ?_)
 refine cq _ ({lo:=x99.lo,hi:=255,to:=x99.to}) ex99 rfl (z ?_)
 exact bk ⟨(i77+1,_,_,_,(ts1_77+1),ts3_77),hq77⟩
 rw[Ti h93] at hq77
 unfold rC at hq77
 rw[Tl] at hq77
 refine z ?_
 refine dg ae [0,1,0,4,12,28,0,124,252,508,0,0,3072,0,0,24576,65532,131068,262143,524287,1048575] [] (z ?_)
 obtain⟨j100,x100,en100,ex100,hq77⟩:=av hq77
 refine bF en100 ex100 rfl ?_
 rw[Tl] at hq77
 refine z ?_
 obtain⟨hg101,hq77⟩:=ah hq77
 rw[Tl] at hq77
 refine z ?_
 unfold nX at hq77
 refine cd ae Tryz.f198 (z ?_)
 refine zd ?_ ?_<;>intro h103
 rw[Th h103] at hq77
 rw[Tl] at hq77
 refine z ?_
 obtain⟨j104,x104,en104,ex104,hq77⟩:=av hq77
 refine bF en104 ex104 rfl ?_
 rw[Tl] at hq77
 refine z ?_
 obtain⟨hg105,hq77⟩:=ah hq77
 dsimp only[Option.bind_some] at hq77
 rw[ef87] at hq77
 dsimp only at hq77
 obtain⟨hg106,hq77⟩:=ay hq77
 refine z ?_
 refine ed (z ?_)
 refine eU (kf:=SVal.int IntKind.i64) (g:=SVal.int IntKind.i64) ef87 (fun q107=> ?_)
 refine z ?_
 refine aH ({lo:=x100,hi:=x104-1,to:=v87}) rfl (z ?_)
 exact bk ⟨(i77+1,_,_,_,(ts1_77+1),(ts3_77+1)),hq77⟩
 rw[Ti h103] at hq77
 dsimp only[Option.bind_some] at hq77
 rw[ef87] at hq77
 dsimp only at hq77
 refine z ?_
 refine ed (z ?_)
 refine eU (kf:=SVal.int IntKind.i64) (g:=SVal.int IntKind.i64) ef87 (fun q109=> ?_)
 refine z ?_
 obtain⟨hg110,hq77⟩:=ay hq77
 refine z ?_
 refine aH ({lo:=x100,hi:=255,to:=v87}) rfl (z ?_)
 exact bk ⟨(i77+1,_,_,_,(ts1_77+1),(ts3_77+1)),hq77⟩
 rw[Ti h88] at hq77
 unfold rC at hq77
 rw[Tl] at hq77
 refine z ?_
 refine dg ae [0,1,0,4,12,28,0,124,252,508,0,0,3072,0,0,24576,65532,131068,262143,524287,1048575] [] (z ?_)
 obtain⟨j111,x111,en111,ex111,hq77⟩:=av hq77
 refine bF en111 ex111 rfl ?_
 rw[Tl] at hq77
 refine z ?_
 obtain⟨hg112,hq77⟩:=ah hq77
 rw[Tl] at hq77
 refine z ?_
 unfold nX at hq77
 refine cd ae Tryz.f198 (z ?_)
 refine zd ?_ ?_<;>intro h114
 rw[Th h114] at hq77
 rw[Tl] at hq77
 refine z ?_
 obtain⟨j115,x115,en115,ex115,hq77⟩:=av hq77
 refine bF en115 ex115 rfl ?_
 rw[Tl] at hq77
 refine z ?_
 obtain⟨hg116,hq77⟩:=ah hq77
 dsimp only[Option.bind_some] at hq77
 rw[ef87] at hq77
 dsimp only at hq77
 obtain⟨hg117,hq77⟩:=ay hq77
 refine z ?_
 refine ed (z ?_)
 refine eU (kf:=SVal.int IntKind.i64) (g:=SVal.int IntKind.i64) ef87 (fun q118=> ?_)
 refine z ?_
 refine aH ({lo:=x111,hi:=x115-1,to:=v87}) rfl (z ?_)
 exact bk ⟨(i77+1,_,_,_,(ts1_77+1),(ts3_77+1)),hq77⟩
 rw[Ti h114] at hq77
 dsimp only[Option.bind_some] at hq77
 rw[ef87] at hq77
 dsimp only at hq77
 refine z ?_
 refine ed (z ?_)
 refine eU (kf:=SVal.int IntKind.i64) (g:=SVal.int IntKind.i64) ef87 (fun q120=> ?_)
 refine z ?_
 obtain⟨hg121,hq77⟩:=ay hq77
 refine z ?_
 refine aH ({lo:=x111,hi:=255,to:=v87}) rfl (z ?_)
 exact bk ⟨(i77+1,_,_,_,(ts1_77+1),(ts3_77+1)),hq77⟩
 rw[Ti h85] at hq77
 unfold rC at hq77
 rw[Tl] at hq77
 refine z ?_
 refine dg ae [0,1,0,4,12,28,0,124,252,508,0,0,3072,0,0,24576,65532,131068,262143,524287,1048575] [] (z ?_)
 obtain⟨j122,x122,en122,ex122,hq77⟩:=av hq77
 refine bF en122 ex122 rfl ?_
 rw[Tl] at hq77
 refine z ?_
 obtain⟨hg123,hq77⟩:=ah hq77
 rw[Tl] at hq77
 refine z ?_
 unfold nX at hq77
 refine cd ae Tryz.f198 (z ?_)
 refine zd ?_ ?_<;>intro h125
 rw[Th h125] at hq77
 rw[Tl] at hq77
 refine z ?_
 obtain⟨j126,x126,en126,ex126,hq77⟩:=av hq77
 refine bF en126 ex126 rfl ?_
 rw[Tl] at hq77
 refine z ?_
 obtain⟨hg127,hq77⟩:=ah hq77
 dsimp only[Option.bind_some] at hq77
 refine z ?_
 refine ed (z ?_)
 refine nL (kf:=SVal.int IntKind.i64) (g:=SVal.int IntKind.i64) (fun ef129=> ?_) (fun v129 q129 ef129=> ?_)
 rw[ef129] at hq77
 dsimp only at hq77
 cases hq77
 rw[ef129] at hq77
 dsimp only at hq77
 refine z ?_
 obtain⟨hg130,hq77⟩:=ay hq77
 refine z ?_
 refine aH ({lo:=x122,hi:=x126-1,to:=v129}) rfl (z ?_)
 exact bk ⟨(i77+1,_,_,_,(ts1_77+1),(ts3_77+1)),hq77⟩
 rw[Ti h125] at hq77
 dsimp only[Option.bind_some] at hq77
 refine z ?_
 refine ed (z ?_)
 refine nL (kf:=SVal.int IntKind.i64) (g:=SVal.int IntKind.i64) (fun ef131=> ?_) (fun v131 q131 ef131=> ?_)
 rw[ef131] at hq77
 dsimp only at hq77
 cases hq77
 rw[ef131] at hq77
 dsimp only at hq77
 refine z ?_
 obtain⟨hg132,hq77⟩:=ay hq77
 refine z ?_
 refine aH ({lo:=x122,hi:=255,to:=v131}) rfl (z ?_)
 exact bk ⟨(i77+1,_,_,_,(ts1_77+1),(ts3_77+1)),hq77⟩
 rw[ef82] at hq77
 dsimp only at hq77
 refine z ?_
 refine dg ae [0,1,3,7,15,7,39,127,255,511,7,7,3079,8191,16383,32767,65535,131071,65535,327679,1048575,2097151,4194303,8388607,16777215,65535,33619967,100728831,234946559,65535,1040252927,2113994751,4294967295,8589934591] [] (z ?_)
 obtain⟨hg133,hq77⟩:=ah hq77
 unfold w9 at hq77
 refine zd ?_ ?_<;>intro h134
 rw[Th h134] at hq77
 rw[Tl] at hq77
 refine z ?_
 obtain⟨j135,x135,en135,ex135,hq77⟩:=av hq77
 refine aK en135 ex135 ?_
 rw[ef82] at hq77
 dsimp only at hq77
 refine z ?_
 refine bP ex135 (z ?_)
 refine eU (kf:=SVal.int IntKind.i64) (g:=SVal.int IntKind.i64) ef82 (fun q136=> ?_)
 refine z ?_
 refine zd ?_ ?_<;>intro h137
 rw[Th h137] at hq77
 rw[Tl] at hq77
 refine z ?_
 obtain⟨j138,x138,en138,ex138,hq77⟩:=av hq77
 refine aK en138 ex138 ?_
 rw[Tl] at hq77
 refine z ?_
 refine bP ex138 (z ?_)
 obtain⟨hg139,hq77⟩:=ah hq77
 rw[Tl] at hq77
 refine z ?_
 obtain⟨j141,x141,en141,ex141,hq77⟩:=av hq77
 refine bF en141 ex141 rfl (z ?_)
 refine zd ?_ ?_<;>intro h142
 rw[Th h142] at hq77
 rw[Tl] at hq77
 refine z ?_
 refine dg ae [0,1,0,4,0,0,48,127,255,511] [] (z ?_)
 unfold nX at hq77
 refine cd ae Tryz.f198 (z ?_)
 refine zd ?_ ?_<;>intro h143
 rw[Th h143] at hq77
 rw[Tl] at hq77
 refine z ?_
 obtain⟨j144,x144,en144,ex144,hq77⟩:=av hq77
 refine bF en144 ex144 rfl ?_
 rw[Tl] at hq77
 refine z ?_
 obtain⟨hg145,hq77⟩:=ah hq77
 dsimp only[Option.bind_some] at hq77
 refine z ?_
 refine ed (z ?_)
 obtain⟨j147,x147,en147,ex147,hq77⟩:=bV hq77
 refine aK en147 ex147 (z ?_)
 refine cq _ ({lo:=x147.lo,hi:=x144-1,to:=x147.to}) ex147 rfl (z ?_)
 exact bk ⟨(i77+1,_,_,_,ts1_77,ts3_77),hq77⟩
 rw[Ti h143] at hq77
 dsimp only[Option.bind_some] at hq77
 refine z ?_
 refine ed (z ?_)
 obtain⟨j148,x148,en148,ex148,hq77⟩:=bV hq77
 refine aK en148 ex148 (z ?_)
 refine cq _ ({lo:=x148.lo,hi:=255,to:=x148.to}) ex148 rfl (z ?_)
 exact bk ⟨(i77+1,_,_,_,ts1_77,ts3_77),hq77⟩
 rw[Ti h142] at hq77
 unfold rC at hq77
 rw[Tl] at hq77
 refine z ?_
 refine dg ae [0,1,0,4,12,28,0,124,252,508,0,0,3072,0,0,24576,65532,131068,262143,524287,1048575] [] (z ?_)
 obtain⟨j149,x149,en149,ex149,hq77⟩:=av hq77
 refine bF en149 ex149 rfl ?_
 rw[Tl] at hq77
 refine z ?_
 obtain⟨hg150,hq77⟩:=ah hq77
 rw[Tl] at hq77
 refine z ?_
 unfold nX at hq77
 refine cd ae Tryz.f198 (z ?_)
 refine zd ?_ ?_<;>intro h152
 rw[Th h152] at hq77
 rw[Tl] at hq77
 refine z ?_
 obtain⟨j153,x153,en153,ex153,hq77⟩:=av hq77
 refine bF en153 ex153 rfl ?_
 rw[Tl] at hq77
 refine z ?_
 obtain⟨hg154,hq77⟩:=ah hq77
 dsimp only[Option.bind_some] at hq77
 rw[ef82] at hq77
 dsimp only at hq77
 obtain⟨hg155,hq77⟩:=ay hq77
 refine z ?_
 refine ed (z ?_)
 refine eU (kf:=SVal.int IntKind.i64) (g:=SVal.int IntKind.i64) ef82 (fun q156=> ?_)
 refine z ?_
 refine aH ({lo:=x149,hi:=x153-1,to:=v82}) rfl (z ?_)
 exact bk ⟨(i77+1,_,_,_,ts1_77,(ts3_77+1)),hq77⟩
 rw[Ti h152] at hq77
 dsimp only[Option.bind_some] at hq77
 rw[ef82] at hq77
 dsimp only at hq77
 refine z ?_
 refine ed (z ?_)
 refine eU (kf:=SVal.int IntKind.i64) (g:=SVal.int IntKind.i64) ef82 (fun q158=> ?_)
 refine z ?_
 obtain⟨hg159,hq77⟩:=ay hq77
 refine z ?_
 refine aH ({lo:=x149,hi:=255,to:=v82}) rfl (z ?_)
 exact bk ⟨(i77+1,_,_,_,ts1_77,(ts3_77+1)),hq77⟩
 rw[Ti h137] at hq77
 unfold rC at hq77
 rw[Tl] at hq77
 refine z ?_
 refine dg ae [0,1,0,4,12,28,0,124,252,508,0,0,3072,0,0,24576,65532,131068,262143,524287,1048575] [] (z ?_)
 obtain⟨j160,x160,en160,ex160,hq77⟩:=av hq77
 refine bF en160 ex160 rfl ?_
 rw[Tl] at hq77
 refine z ?_
 obtain⟨hg161,hq77⟩:=ah hq77
 rw[Tl] at hq77
 refine z ?_
 unfold nX at hq77
 refine cd ae Tryz.f198 (z ?_)
 refine zd ?_ ?_<;>intro h163
 rw[Th h163] at hq77
 rw[Tl] at hq77
 refine z ?_
 obtain⟨j164,x164,en164,ex164,hq77⟩:=av hq77
 refine bF en164 ex164 rfl ?_
 rw[Tl] at hq77
 refine z ?_
 obtain⟨hg165,hq77⟩:=ah hq77
 dsimp only[Option.bind_some] at hq77
 rw[ef82] at hq77
 dsimp only at hq77
 obtain⟨hg166,hq77⟩:=ay hq77
 refine z ?_
 refine ed (z ?_)
 refine eU (kf:=SVal.int IntKind.i64) (g:=SVal.int IntKind.i64) ef82 (fun q167=> ?_)
 refine z ?_
 refine aH ({lo:=x160,hi:=x164-1,to:=v82}) rfl (z ?_)
 exact bk ⟨(i77+1,_,_,_,ts1_77,(ts3_77+1)),hq77⟩
 rw[Ti h163] at hq77
 dsimp only[Option.bind_some] at hq77
 rw[ef82] at hq77
 dsimp only at hq77
 refine z ?_
 refine ed (z ?_)
 refine eU (kf:=SVal.int IntKind.i64) (g:=SVal.int IntKind.i64) ef82 (fun q169=> ?_)
 refine z ?_
 obtain⟨hg170,hq77⟩:=ay hq77
 refine z ?_
 refine aH ({lo:=x160,hi:=255,to:=v82}) rfl (z ?_)
 exact bk ⟨(i77+1,_,_,_,ts1_77,(ts3_77+1)),hq77⟩
 rw[Ti h134] at hq77
 unfold rC at hq77
 rw[Tl] at hq77
 refine z ?_
 refine dg ae [0,1,0,4,12,28,0,124,252,508,0,0,3072,0,0,24576,65532,131068,262143,524287,1048575] [] (z ?_)
 obtain⟨j171,x171,en171,ex171,hq77⟩:=av hq77
 refine bF en171 ex171 rfl ?_
 rw[Tl] at hq77
 refine z ?_
 obtain⟨hg172,hq77⟩:=ah hq77
 rw[Tl] at hq77
 refine z ?_
 unfold nX at hq77
 refine cd ae Tryz.f198 (z ?_)
 refine zd ?_ ?_<;>intro h174
 rw[Th h174] at hq77
 rw[Tl] at hq77
 refine z ?_
 obtain⟨j175,x175,en175,ex175,hq77⟩:=av hq77
 refine bF en175 ex175 rfl ?_
 rw[Tl] at hq77
 refine z ?_
 obtain⟨hg176,hq77⟩:=ah hq77
 dsimp only[Option.bind_some] at hq77
 rw[ef82] at hq77
 dsimp only at hq77
 obtain⟨hg177,hq77⟩:=ay hq77
 refine z ?_
 refine ed (z ?_)
 refine eU (kf:=SVal.int IntKind.i64) (g:=SVal.int IntKind.i64) ef82 (fun q178=> ?_)
 refine z ?_
 refine aH ({lo:=x171,hi:=x175-1,to:=v82}) rfl (z ?_)
 exact bk ⟨(i77+1,_,_,_,ts1_77,(ts3_77+1)),hq77⟩
 rw[Ti h174] at hq77
 dsimp only[Option.bind_some] at hq77
 rw[ef82] at hq77
 dsimp only at hq77
 refine z ?_
 refine ed (z ?_)
 refine eU (kf:=SVal.int IntKind.i64) (g:=SVal.int IntKind.i64) ef82 (fun q180=> ?_)
 refine z ?_
 obtain⟨hg181,hq77⟩:=ay hq77
 refine z ?_
 refine aH ({lo:=x171,hi:=255,to:=v82}) rfl (z ?_)
 exact bk ⟨(i77+1,_,_,_,ts1_77,(ts3_77+1)),hq77⟩
 rw[aq h78,qw] at hq77
 cases hq77
 dsimp only at hq69
 refine z ?_
 obtain⟨hg182,hq69⟩:=ay hq69
 refine z ?_
 refine aH ({acc:=x73,aF:=s3_77}) rfl (z ?_)
 exact bk ⟨(n69,_,_,_,_,ts1_77,(ts4_69+1)),hq69⟩
 rw[Ti h71] at hq69
 cases hq69
 refine z ?_
 refine ei (z ?_)
 cases hm
 refine aV (z ?_)
 exact mt
 rw[Ti h45] at hq36
 refine vT rfl rfl ?_
 refine yQ 2 3 rfl rfl rfl ?_
 exact bk ⟨(n36,_,_),hq36⟩
end Go.Proofs.YtaagahmkmcnhaaaGreatDoor
