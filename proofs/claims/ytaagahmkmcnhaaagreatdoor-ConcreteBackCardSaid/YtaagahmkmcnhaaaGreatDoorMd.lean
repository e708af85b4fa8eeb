/- For ConcreteOnly and ConcreteBack: functions of the program, walked beside Lean functions that say what they compute. -/
import Derived.Test.YtaagahmkmcnhaaaGreatDoorMc
set_option linter.unusedVariables false
set_option linter.unusedSimpArgs false
set_option linter.unusedSectionVars false
namespace Go.Proofs.YtaagahmkmcnhaaaGreatDoor
open Sv
set_option maxRecDepth 100000
set_option maxHeartbeats 2000000
section
variable {α:Type}
def IT:List (List α)->Int->Option Int
 |[],n=>some n
 |l::r,n=>(aN l).bind fun _=>(dV (n+l.length)).bind fun _=>if n+l.length<0 then none else IT r (n+l.length)
def wk:List (List α)->List α->Option (List α)
 |[],out=>some out
 |l::r,out=>(pS out l).bind fun out=>wk r out
def Pw (ll:List (List α)):Option (List α):=(aN ll).bind fun _=>(IT ll 0).bind fun n=>(yf (n<1000000000)).bind fun _=>if n<0 then none else wk ll []
end
def ig {α:Type} (f:α->List SVal) (l:List α):List SVal:=[.aE false (l.map f)]
instance {α:Type} (f:α->List SVal) [Cl f]:Cl (ig f):=⟨fun l=>by simp only[ig,aw,closed,eC f,Tq]⟩
theorem Ps {ll:List (List Sv.Span)} {r:List Sv.Span} (hm:Pw ll=some r):Has Tryz.prog 116 [.aE false (ll.map (ig cD))] fun s=>s= .aE false (r.map cD):=by
 refine hs ae Tryz.f116 ?_
 unfold Pw at hm
 refine z ?_
 obtain⟨hg1,hm⟩:=ah hm
 obtain⟨v2,hv2,hm⟩:=aa hm
 refine lg (α:=Nat×Int) ae (fun(iw,s1)=>(IT (List.drop iw ll) s1=some v2,⟨36,[(11,.int .i64 iw),(10,.int .i64 ↑ll.length),(9,.aE false (List.map (ig cD) ll)),(3,.int .i64 s1),(2,.ax),(0,.aE false (List.map (ig cD) ll))]⟩,⟨[],0,0,[],[]⟩,List.length ll-iw)) ⟨(0,_),hv2⟩ ?_
 rintro⟨i2,s1_2⟩ hq2
 dsimp only at hq2
 refine z ?_
 refine zd ?_ ?_<;>intro h3
 obtain⟨x3,ex3,ed3⟩:=an h3
 rw[ed3,IT] at hq2
 refine z ?_
 obtain⟨hg4,hq2⟩:=ah hq2
 obtain⟨hg5,hq2⟩:=ah hq2
 refine bq ex3 rfl (z ?_)
 refine zd ?_ ?_<;>intro h6
 rw[Th h6] at hq2
 cases hq2
 rw[Ti h6] at hq2
 exact bk ⟨(i2+1,_),hq2⟩
 rw[aq h3,IT] at hq2
 cases hq2
 refine z ?_
 refine ci ae Tryz.f151 (z ?_)
 obtain⟨hg7,hm⟩:=ah hm
 refine zd ?_ ?_<;>intro h8
 rw[Th h8] at hm
 cases hm
 rw[Ti h8] at hm
 refine gL (z ?_)
 refine⟨by simp only[xd,Tr,T0,Tu,TQ,Tt];omega,?_⟩
 refine z ?_
 refine⟨by simp only[xd,Tr,T0,Tu,TQ,Tt];omega,?_⟩
 refine z ?_
 refine zd ?_ ?_<;>intro h9
 refine⟨v2.toNat,by simp only[T0] at*;omega,by simp only[T0] at*;omega,by omega,Fh cD ⟨0,0⟩ rfl ?_⟩
 refine z ?_
 refine gL (z ?_)
 refine⟨0,rfl,TC _,MN (List.map cD []) rfl ?_⟩
 refine z ?_
 refine ei (z ?_)
 refine lg (α:=Nat×List Span×Nat) ae (fun(iw,s1,ts1)=>(wk (List.drop iw ll) s1=some r,⟨36,[(27,.int .i64 iw),(26,.int .i64 ↑ll.length),(25,.aE false (List.map (ig cD) ll)),(6,.own 0 ts1),(2,.ax)]⟩,⟨[(0,.row 2 (s1.map cD) ts1 false)],1,0,[],[]⟩,List.length ll-iw)) ⟨(0,_,(1)),hm⟩ ?_
 rintro⟨i10,s1_10,ts1_10⟩ hq10
 dsimp only at hq10
 refine z ?_
 refine zd ?_ ?_<;>intro h11
 obtain⟨x11,ex11,ed11⟩:=an h11
 rw[ed11,wk] at hq10
 refine z ?_
 refine bq ex11 rfl (z ?_)
 obtain⟨hg12,hq10⟩:=fS hq10
 refine z ?_
 refine lu (z ?_)
 exact bk ⟨(i10+1,_,(ts1_10+1)),hq10⟩
 rw[aq h11,wk] at hq10
 cases hq10
 refine dy (z ?_)
 first|exact e2|exact rfl
 refine z ?_
 refine ei (z ?_)
 refine cy 6 2 rfl ?_
 refine lg (α:=Nat×List Span×Nat) ae (fun(iw,s1,ts1)=>(wk (List.drop iw ll) s1=some r,⟨36,[(6,.own 0 ts1),(27,.int .i64 iw),(26,.int .i64 ↑ll.length),(25,.aE false (List.map (ig cD) ll)),(2,.ax)]⟩,⟨[(0,.row 2 (s1.map cD) ts1 false)],1,0,[],[]⟩,List.length ll-iw)) ⟨(0,_,(0)),hm⟩ ?_
 rintro⟨i13,s1_13,ts1_13⟩ hq13
 dsimp only at hq13
 refine z ?_
 refine zd ?_ ?_<;>intro h14
 obtain⟨x14,ex14,ed14⟩:=an h14
 rw[ed14,wk] at hq13
 refine z ?_
 refine bq ex14 rfl (z ?_)
 obtain⟨hg15,hq13⟩:=fS hq13
 refine z ?_
 refine lu (z ?_)
 exact bk ⟨(i13+1,_,(ts1_13+1)),hq13⟩
 rw[aq h14,wk] at hq13
 cases hq13
 refine dy (z ?_)
 first|exact e2|exact rfl
theorem qg {c:Prop} [Decidable c] (h:c):yf c=some ():=by unfold yf;rw[Th h]
theorem Gz (n:Int) (h1:0<=n) (h2:n<=1000000000):dV n=some ():=qg ⟨by omega,by omega⟩
theorem Py {α:Type} {a b:List α} (h:a.length+b.length<1000000000):wk [a,b] []=some (a++b):=by
 simp only[wk,pS]
 rw[Th (by simp;omega),HP,Th (by simp;omega),HP,UC]
theorem Px {α:Type} {a b:List α} (h:a.length+b.length<1000000000):IT [a,b] 0=some (0+(a.length:Int)+b.length):=by
 have g2:aN a=some ():=qg ii
 have g3:aN b=some ():=qg ii
 simp only[IT]
 rw[g2,g3,HP,Gz _ ii ii,HP,Ti ii,HP,Gz _ ii ii,HP,Ti ii]
theorem Pv {α:Type} {a b:List α} (h:a.length+b.length<1000000000):Pw [a,b]=some (a++b):=by
 have g1:aN [a,b]=some ():=qg (by simp)
 have g2:yf (0+(a.length:Int)+b.length<1000000000)=some ():=qg ii
 unfold Pw
 rw[g1,HP,Px h,HP,g2,HP,Ti ii,Py h]
def mJ {α:Type} (a b:List α):Option (List α):=if a.length+b.length<1000000000 then some (a++b) else none
theorem vy {α:Type} {a b r:List α} (h:mJ a b=some r):Pw [a,b]=some r:=by
 unfold mJ at h
 by_cases hl:a.length+b.length<1000000000
 ·rw[Th hl] at h;rw[Pv hl];exact h
 ·rw[Ti hl] at h;cases h
theorem yy {a b r:List Sv.Span} (hm:mJ a b=some r):Has Tryz.prog 116 [.aE false [[aW a],[aW b]]] fun s=>s=aW r:=Ps (vy hm)
section
variable {α:Type}
def lO (cmp:α->α->Option Int) (a:Int):Nat->List α->Int->Option (List α)
 |0,_,_=>none
 |n+1,l,j=>if j>a then(cN l j).bind fun x=>(dV (j-1)).bind fun _=>(cN l (j-1)).bind fun y=>(cmp x y).bind fun c=>if c<0 then
   (cN l (j-1)).bind fun y=>(cN l j).bind fun x=>(kS l j y).bind fun l=>(kS l (j-1) x).bind fun l=>lO cmp a n l (j-1) else some l else some l
def fM (cmp:α->α->Option Int) (a b:Int):Nat->List α->Int->Option (List α)
 |0,_,_=>none
 |n+1,l,i=>if i<b then(lO cmp a (l.length+1) l i).bind fun l=>(dV (i+1)).bind fun _=>fM cmp a b n l (i+1) else some l
def iJ (cmp:α->α->Option Int) (l:List α):Option (List α):=(aN l).bind fun _=>if(l.length:Int)<=12 then fM cmp 0 l.length (l.length+1) l 1 else none
end
theorem Lu {fn:FuncId} {cmp:Sv.Span->Sv.Span->Option Int} (hg:∀{x y r},cmp x y=some r->Has Tryz.prog fn [.agg (cD x),.agg (cD y)] fun s=>s= .int .i64 r) {l r:List Sv.Span} {s:Nat} {n:Int} (hm:fM cmp 0 n (l.length+1) l 1=some r):
  lY Tryz.prog 275 (.row 2 (l.map cD) s false) [.own 1 s,.int .i64 0,.int .i64 n,.func (.func fn) [] []] fun v o=>v= .dT []/\o= .row 2 (r.map cD) s false:=by
 refine dM ae (fn:=Tryz.f275) rfl (by simp only[bE,aG,eC,cl]) (by simp only[nb,cY,c7,cE,Tq];rfl) (z ?_)
 refine lg (α:=Nat×List Span×Int) ae (fun(nw,s1,s2)=>(fM cmp (0) n nw s1 s2=some r,⟨53,[(8,.int .i64 s2),(0,.own 1 s),(1,.int .i64 0),(2,.int .i64 n),(3,.func (.func fn) [] [])]⟩,⟨[(0,aX),(1,.row 2 (s1.map cD) s false)],2,0,[],[]⟩,nw)) ⟨(_,_,_),hm⟩ ?_
 rintro⟨n1,s1_1,s2_1⟩ hq1
 dsimp only at hq1
 rcases n1 with _|n1
 ·(unfold fM at hq1;cases hq1)
 unfold fM at hq1
 refine z ?_
 refine zd ?_ ?_<;>intro h2
 ·rw[Th h2] at hq1
  refine aY rfl rfl ?_
  obtain⟨v3,hv3,hq1⟩:=aa hq1
  refine lg (α:=Nat×List Span×Int) ae (fun(nw,s1,s2)=>(lO cmp (0) nw s1 s2=some v3,⟨53,[(9,.int .i64 s2),(8,.int .i64 s2_1),(0,.own 1 s),(1,.int .i64 0),(2,.int .i64 n),(3,.func (.func fn) [] [])]⟩,⟨[(0,aX),(1,.row 2 (s1.map cD) s false)],2,0,[],[]⟩,nw)) ⟨(_,_,_),hv3⟩ ?_
  rintro⟨n3,s1_3,s2_3⟩ hq3
  dsimp only at hq3
  rcases n3 with _|n3
  ·(unfold lO at hq3;cases hq3)
  unfold lO at hq3
  refine z ?_
  refine dg ae [0,0,3,7,15,15,15,111,239,15,15,1039,3599,7695,16383,32767,65535] [] (z ?_)
  refine zd ?_ ?_<;>intro h4
  ·rw[Th h4] at hq3
   obtain⟨j5,x5,en5,ex5,hq3⟩:=av hq3
   refine aK en5 ex5 (z ?_)
   refine bP ex5 (z ?_)
   obtain⟨hg6,hq3⟩:=ah hq3
   refine z ?_
   obtain⟨j8,x8,en8,ex8,hq3⟩:=av hq3
   refine aK en8 ex8 (z ?_)
   refine bP ex8 (z ?_)
   obtain⟨v9,e9,hq3⟩:=aa hq3
   refine ce (hg e9) (z ?_)
   refine zd ?_ ?_<;>intro h10
   ·rw[Th h10] at hq3
    refine dg ae [0,0,0,0,8,0,0,64,224,480,0,0,3072,7168,16355,32739,65535,131071] [⟨17,0,0,[1]⟩,⟨15,0,0,[1]⟩] (z ?_)
    obtain⟨j15,x15,en15,ex15,hq3⟩:=av hq3
    refine aK en15 ex15 (z ?_)
    refine bP ex15 (z ?_)
    obtain⟨j16,x16,en16,ex16,hq3⟩:=av hq3
    refine aK en16 ex16 (z ?_)
    refine bP ex16 (z ?_)
    obtain⟨j17,x17,en17,ex17,hq3⟩:=cV hq3
    refine aK en17 ex17 (z ?_)
    refine cq _ x15 ex17 rfl (z ?_)
    obtain⟨j18,x18,en18,ex18,hq3⟩:=cV hq3
    refine aK en18 ex18 (z ?_)
    refine cq _ x16 ex18 rfl (z ?_)
    exact bk ⟨(n3,_,_),hq3⟩
   ·rw[Ti h10] at hq3
    cases hq3
    refine z ?_
    obtain⟨hg19,hq1⟩:=ah hq1
    refine z ?_
    exact bk ⟨(n1,_,_),hq1⟩
  ·rw[Ti h4] at hq3
   cases hq3
   refine z ?_
   obtain⟨hg20,hq1⟩:=ah hq1
   refine z ?_
   exact bk ⟨(n1,_,_),hq1⟩
 ·rw[Ti h2] at hq1
  cases hq1
  exact mso
theorem KH {fn:FuncId} {cmp:Sv.Span->Sv.Span->Option Int} (hg:∀{x y r},cmp x y=some r->Has Tryz.prog fn [.agg (cD x),.agg (cD y)] fun s=>s= .int .i64 r) {l r:List Sv.Span} {s:Nat} {n lim:Int} (h0:0<=n) (h12:n<=12) (hm:fM cmp 0 n (l.length+1) l 1=some r):
  lY Tryz.prog 222 (.row 2 (l.map cD) s false) [.own 1 s,.int .i64 0,.int .i64 n,.int .i64 lim,.func (.func fn) [] []] fun v o=>v= .dT []/\o= .row 2 (r.map cD) s false:=by
 refine dM ae (fn:=Tryz.f222) rfl (by simp only[bE,aG,eC,cl]) (by simp only[nb,cY,c7,cE,Tq];rfl) (z ?_)
 refine bA ae ?_
 refine z ?_
 have h1:((n-0:Int)<=12):=by omega
 refine Jk h1 (z ?_)
 replace hm:=aB hm
 obtain⟨v2,e2,hm⟩:=aa hm
 refine dj 1 (Lu hg e2) rfl rfl rfl rfl (z ?_)
 cases hm
 exact mso
def uL (n:Int):Option Int:=if 0<=n/\n<=12 then some (([0,1,2,2,3,3,3,3,4,4,4,4,4]:List Int).getD n.toNat 0) else none
theorem Lf {n r:Int} (hm:uL n=some r):Has Tryz.prog 243 [.int .u64 n] fun s=>s= .int .i64 r:=by
 have h:n=0\/n=1\/n=2\/n=3\/n=4\/n=5\/n=6\/n=7\/n=8\/n=9\/n=10\/n=11\/n=12:=by
  unfold uL at hm
  by_cases h:0<=n/\n<=12
  ·omega
  ·rw[Ti h] at hm;cases hm
 rcases h with rfl|rfl|rfl|rfl|rfl|rfl|rfl|rfl|rfl|rfl|rfl|rfl|rfl
 ·replace hm:some (0:Int)=some r:=hm
  refine hs ae Tryz.f243 (z ?_)
  refine⟨0,0,rfl,rfl,?_⟩
  refine z ?_
  refine⟨⟨by have:=TA (0);omega,by have:=TA (0);omega⟩,?_⟩
  refine z ?_
  refine⟨⟨by have:=TA (0);omega,by have:=TA (0);omega⟩,?_⟩
  refine z ?_
  cases hm
  exact fc
 ·replace hm:some (1:Int)=some r:=hm
  refine hs ae Tryz.f243 (z ?_)
  refine⟨1,1,rfl,rfl,?_⟩
  refine z ?_
  refine⟨⟨by have:=TA (1);omega,by have:=TA (1);omega⟩,?_⟩
  refine z ?_
  refine⟨⟨by have:=TA (1);omega,by have:=TA (1);omega⟩,?_⟩
  refine z ?_
  cases hm
  exact fc
 ·replace hm:some (2:Int)=some r:=hm
  refine hs ae Tryz.f243 (z ?_)
  refine⟨2,2,rfl,rfl,?_⟩
  refine z ?_
  refine⟨⟨by have:=TA (2);omega,by have:=TA (2);omega⟩,?_⟩
  refine z ?_
  refine⟨⟨by have:=TA (2);omega,by have:=TA (2);omega⟩,?_⟩
  refine z ?_
  cases hm
  exact fc
 ·replace hm:some (2:Int)=some r:=hm
  refine hs ae Tryz.f243 (z ?_)
  refine⟨3,2,rfl,rfl,?_⟩
  refine z ?_
  refine⟨⟨by have:=TA (2);omega,by have:=TA (2);omega⟩,?_⟩
  refine z ?_
  refine⟨⟨by have:=TA (2);omega,by have:=TA (2);omega⟩,?_⟩
  refine z ?_
  cases hm
  exact fc
 ·replace hm:some (3:Int)=some r:=hm
  refine hs ae Tryz.f243 (z ?_)
  refine⟨4,3,rfl,rfl,?_⟩
  refine z ?_
  refine⟨⟨by have:=TA (3);omega,by have:=TA (3);omega⟩,?_⟩
  refine z ?_
  refine⟨⟨by have:=TA (3);omega,by have:=TA (3);omega⟩,?_⟩
  refine z ?_
  cases hm
  exact fc
 ·replace hm:some (3:Int)=some r:=hm
  refine hs ae Tryz.f243 (z ?_)
  refine⟨5,3,rfl,rfl,?_⟩
  refine z ?_
  refine⟨⟨by have:=TA (3);omega,by have:=TA (3);omega⟩,?_⟩
  refine z ?_
  refine⟨⟨by have:=TA (3);omega,by have:=TA (3);omega⟩,?_⟩
  refine z ?_
  cases hm
  exact fc
 ·replace hm:some (3:Int)=some r:=hm
  refine hs ae Tryz.f243 (z ?_)
  refine⟨6,3,rfl,rfl,?_⟩
  refine z ?_
  refine⟨⟨by have:=TA (3);omega,by have:=TA (3);omega⟩,?_⟩
  refine z ?_
  refine⟨⟨by have:=TA (3);omega,by have:=TA (3);omega⟩,?_⟩
  refine z ?_
  cases hm
  exact fc
 ·replace hm:some (3:Int)=some r:=hm
  refine hs ae Tryz.f243 (z ?_)
  refine⟨7,3,rfl,rfl,?_⟩
  refine z ?_
  refine⟨⟨by have:=TA (3);omega,by have:=TA (3);omega⟩,?_⟩
  refine z ?_
  refine⟨⟨by have:=TA (3);omega,by have:=TA (3);omega⟩,?_⟩
  refine z ?_
  cases hm
  exact fc
 ·replace hm:some (4:Int)=some r:=hm
  refine hs ae Tryz.f243 (z ?_)
  refine⟨8,4,rfl,rfl,?_⟩
  refine z ?_
  refine⟨⟨by have:=TA (4);omega,by have:=TA (4);omega⟩,?_⟩
  refine z ?_
  refine⟨⟨by have:=TA (4);omega,by have:=TA (4);omega⟩,?_⟩
  refine z ?_
  cases hm
  exact fc
 ·replace hm:some (4:Int)=some r:=hm
  refine hs ae Tryz.f243 (z ?_)
  refine⟨9,4,rfl,rfl,?_⟩
  refine z ?_
  refine⟨⟨by have:=TA (4);omega,by have:=TA (4);omega⟩,?_⟩
  refine z ?_
  refine⟨⟨by have:=TA (4);omega,by have:=TA (4);omega⟩,?_⟩
  refine z ?_
  cases hm
  exact fc
 ·replace hm:some (4:Int)=some r:=hm
  refine hs ae Tryz.f243 (z ?_)
  refine⟨10,4,rfl,rfl,?_⟩
  refine z ?_
  refine⟨⟨by have:=TA (4);omega,by have:=TA (4);omega⟩,?_⟩
  refine z ?_
  refine⟨⟨by have:=TA (4);omega,by have:=TA (4);omega⟩,?_⟩
  refine z ?_
  cases hm
  exact fc
 ·replace hm:some (4:Int)=some r:=hm
  refine hs ae Tryz.f243 (z ?_)
  refine⟨11,4,rfl,rfl,?_⟩
  refine z ?_
  refine⟨⟨by have:=TA (4);omega,by have:=TA (4);omega⟩,?_⟩
  refine z ?_
  refine⟨⟨by have:=TA (4);omega,by have:=TA (4);omega⟩,?_⟩
  refine z ?_
  cases hm
  exact fc
 ·replace hm:some (4:Int)=some r:=hm
  refine hs ae Tryz.f243 (z ?_)
  refine⟨12,4,rfl,rfl,?_⟩
  refine z ?_
  refine⟨⟨by have:=TA (4);omega,by have:=TA (4);omega⟩,?_⟩
  refine z ?_
  refine⟨⟨by have:=TA (4);omega,by have:=TA (4);omega⟩,?_⟩
  refine z ?_
  cases hm
  exact fc
theorem s5 {n r:Int} (hm:uL n=some r):Has Tryz.prog 209 [.int .u64 n] fun s=>s= .int .i64 r:=by
 refine hs ae Tryz.f209 (z ?_)
 replace hm:=aB hm
 obtain⟨v1,e1,hm⟩:=aa hm
 refine ce (Lf e1) (z ?_)
 cases hm
 exact fc
theorem HO {fn:FuncId} {cmp:Sv.Span->Sv.Span->Option Int} (hg:∀{x y r},cmp x y=some r->Has Tryz.prog fn [.agg (cD x),.agg (cD y)] fun s=>s= .int .i64 r) {l r:List Sv.Span} {s:Nat} (hm:iJ cmp l=some r):
  lY Tryz.prog 189 (.row 2 (l.map cD) s false) [.own 1 s,.func (.func fn) [] []] fun v o=>v= .dT []/\o= .row 2 (r.map cD) s false:=by
 refine dM ae (fn:=Tryz.f189) rfl (by simp only[bE,aG,eC,cl]) (by simp only[nb,cY,c7,cE,Tq];rfl) ?_
 unfold iJ at hm
 obtain⟨hg1,hm⟩:=ah hm
 by_cases h12:(l.length:Int)<=12
 ·rw[Th h12] at hm
  replace hm:(some ()).bind (fun _=>(uL l.length).bind fun k=>(fM cmp 0 l.length (l.length+1) l 1).bind fun l=>some l)=some r:=by
   rw[uL,Th ⟨by omega,h12⟩]
   simpa using hm
  dsimp only[Option.bind_some] at hm
  refine z ?_
  obtain⟨v1,e1,hm⟩:=aa hm
  refine ce (s5 e1) (z ?_)
  obtain⟨v2,e2,hm⟩:=aa hm
  refine dj 1 (KH hg ii h12 e2) rfl rfl rfl rfl (z ?_)
  cases hm
  exact mso
 ·rw[Ti h12] at hm;cases hm
theorem IH {fn:FuncId} {cap:List SVal} (hc:aw cap=true) (hw:cG cap=cap) {cmp:dH Va->dH Va->Option Int} (hg:∀{x y r},cmp x y=some r->bj Tryz.prog fn (.agg (fA x):: .agg (fA y)::cap) fun s=>s= .int .i64 r) {l r:List (dH Va)} {s:Nat} {n:Int} (hm:fM cmp 0 n (l.length+1) l 1=some r):
  lY Tryz.prog 234 (.row 19 (l.map (dN aL)) s false) [.own 1 s,.int .i64 0,.int .i64 n,.func (.func fn) [] cap] fun v o=>v= .dT []/\o= .row 19 (r.map (dN aL)) s false:=by
 refine dM ae (fn:=Tryz.f234) rfl (by simp only[bE,aG,eC,cl]) (by simp only[nb,cY,c7,cE,bo _ _ hc,Tq];rfl) (z ?_)
 refine lg (α:=Nat×List (dH Va)×Int) ae (fun(nw,s1,s2)=>(fM cmp (0) n nw s1 s2=some r,⟨53,[(8,.int .i64 s2),(0,.own 1 s),(1,.int .i64 0),(2,.int .i64 n),(3,.func (.func fn) [] cap)]⟩,⟨[(0,aX),(1,.row 19 (s1.map (dN aL)) s false)],2,0,[],[]⟩,nw)) ⟨(_,_,_),hm⟩ ?_
 rintro⟨n1,s1_1,s2_1⟩ hq1
 dsimp only at hq1
 rcases n1 with _|n1
 ·(unfold fM at hq1;cases hq1)
 unfold fM at hq1
 refine z ?_
 refine zd ?_ ?_<;>intro h2
 ·rw[Th h2] at hq1
  refine aY rfl rfl ?_
  obtain⟨v3,hv3,hq1⟩:=aa hq1
  refine lg (α:=Nat×List (dH Va)×Int) ae (fun(nw,s1,s2)=>(lO cmp (0) nw s1 s2=some v3,⟨53,[(9,.int .i64 s2),(8,.int .i64 s2_1),(0,.own 1 s),(1,.int .i64 0),(2,.int .i64 n),(3,.func (.func fn) [] cap)]⟩,⟨[(0,aX),(1,.row 19 (s1.map (dN aL)) s false)],2,0,[],[]⟩,nw)) ⟨(_,_,_),hv3⟩ ?_
  rintro⟨n3,s1_3,s2_3⟩ hq3
  dsimp only at hq3
  rcases n3 with _|n3
  ·(unfold lO at hq3;cases hq3)
  unfold lO at hq3
  refine z ?_
  refine dg ae [0,0,3,7,15,15,15,111,239,15,15,1039,3599,7695,16383,32767,65535] [] (z ?_)
  refine zd ?_ ?_<;>intro h4
  ·rw[Th h4] at hq3
   obtain⟨j5,x5,en5,ex5,hq3⟩:=av hq3
   refine aK en5 ex5 (z ?_)
   refine pP (cF _) ex5 (z ?_)
   obtain⟨hg6,hq3⟩:=ah hq3
   refine z ?_
   obtain⟨j8,x8,en8,ex8,hq3⟩:=av hq3
   refine aK en8 ex8 (z ?_)
   refine pP (cF _) ex8 (z ?_)
   obtain⟨v9,e9,hq3⟩:=aa hq3
   refine jd (hg e9) (by(simp only[cG,kp,hw];try rfl)) rfl (z ?_)
   refine zd ?_ ?_<;>intro h10
   ·rw[Th h10] at hq3
    refine dg ae [0,0,0,0,8,0,0,64,224,480,0,0,3072,7168,16355,32739,65535,131071] [⟨17,0,0,[1]⟩,⟨15,0,0,[1]⟩] (z ?_)
    obtain⟨j15,x15,en15,ex15,hq3⟩:=av hq3
    refine aK en15 ex15 (z ?_)
    refine pP (cF _) ex15 (z ?_)
    obtain⟨j16,x16,en16,ex16,hq3⟩:=av hq3
    refine aK en16 ex16 (z ?_)
    refine pP (cF _) ex16 (z ?_)
    obtain⟨j17,x17,en17,ex17,hq3⟩:=cV hq3
    refine aK en17 ex17 (z ?_)
    refine DO _ x15 (cF _) (cF _) ex17 rfl (z ?_)
    obtain⟨j18,x18,en18,ex18,hq3⟩:=cV hq3
    refine aK en18 ex18 (z ?_)
    refine DO _ x16 (cF _) (cF _) ex18 rfl (z ?_)
    exact bk ⟨(n3,_,_),hq3⟩
   ·rw[Ti h10] at hq3
    cases hq3
    refine z ?_
    obtain⟨hg19,hq1⟩:=ah hq1
    refine z ?_
    exact bk ⟨(n1,_,_),hq1⟩
  ·rw[Ti h4] at hq3
   cases hq3
   refine z ?_
   obtain⟨hg20,hq1⟩:=ah hq1
   refine z ?_
   exact bk ⟨(n1,_,_),hq1⟩
 ·rw[Ti h2] at hq1
  cases hq1
  exact mso
theorem Ik {fn:FuncId} {cap:List SVal} (hc:aw cap=true) (hw:cG cap=cap) {cmp:dH Va->dH Va->Option Int} (hg:∀{x y r},cmp x y=some r->bj Tryz.prog fn (.agg (fA x):: .agg (fA y)::cap) fun s=>s= .int .i64 r) {l r:List (dH Va)} {s:Nat} {n lim:Int} (h0:0<=n) (h12:n<=12) (hm:fM cmp 0 n (l.length+1) l 1=some r):
  lY Tryz.prog 208 (.row 19 (l.map (dN aL)) s false) [.own 1 s,.int .i64 0,.int .i64 n,.int .i64 lim,.func (.func fn) [] cap] fun v o=>v= .dT []/\o= .row 19 (r.map (dN aL)) s false:=by
 refine dM ae (fn:=Tryz.f208) rfl (by simp only[bE,aG,eC,cl]) (by simp only[nb,cY,c7,cE,bo _ _ hc,Tq];rfl) (z ?_)
 refine bA ae ?_
 refine z ?_
 have h1:((n-0:Int)<=12):=by omega
 refine Jk h1 (z ?_)
 replace hm:=aB hm
 obtain⟨v2,e2,hm⟩:=aa hm
 refine dj 1 (IH hc hw hg e2) (by simp only[cG,kp,cx,dp,wP,hw,bS _ _ hc];rfl) rfl rfl rfl (z ?_)
 cases hm
 exact mso
theorem D5 {fn:FuncId} {cap:List SVal} (hc:aw cap=true) (hw:cG cap=cap) {cmp:dH Va->dH Va->Option Int} (hg:∀{x y r},cmp x y=some r->bj Tryz.prog fn (.agg (fA x):: .agg (fA y)::cap) fun s=>s= .int .i64 r) {l r:List (dH Va)} {s:Nat} (hm:iJ cmp l=some r):
  lY Tryz.prog 165 (.row 19 (l.map (dN aL)) s false) [.own 1 s,.func (.func fn) [] cap] fun v o=>v= .dT []/\o= .row 19 (r.map (dN aL)) s false:=by
 refine dM ae (fn:=Tryz.f165) rfl (by simp only[bE,aG,eC,cl]) (by simp only[nb,cY,c7,cE,bo _ _ hc,Tq];rfl) ?_
 unfold iJ at hm
 obtain⟨hg1,hm⟩:=ah hm
 by_cases h12:(l.length:Int)<=12
 ·rw[Th h12] at hm
  replace hm:(some ()).bind (fun _=>(uL l.length).bind fun k=>(fM cmp 0 l.length (l.length+1) l 1).bind fun l=>some l)=some r:=by
   rw[uL,Th ⟨by omega,h12⟩]
   simpa using hm
  dsimp only[Option.bind_some] at hm
  refine z ?_
  obtain⟨v1,e1,hm⟩:=aa hm
  refine ce (s5 e1) (z ?_)
  obtain⟨v2,e2,hm⟩:=aa hm
  refine dj 1 (Ik hc hw hg ii h12 e2) (by simp only[cG,kp,cx,dp,wP,hw,bS _ _ hc];rfl) rfl rfl rfl (z ?_)
  cases hm
  exact mso
 ·rw[Ti h12] at hm;cases hm
theorem Lx {fn:FuncId} {cap:List SVal} (hc:aw cap=true) (hw:cG cap=cap) {cmp:bg Va->bg Va->Option Int} (hg:∀{x y r},cmp x y=some r->bj Tryz.prog fn (.agg (aQ aL x):: .agg (aQ aL y)::cap) fun s=>s= .int .i64 r) {l r:List (bg Va)} {s:Nat} {n:Int} (hm:fM cmp 0 n (l.length+1) l 1=some r):
  lY Tryz.prog 246 (.row 2 (l.map (aQ aL)) s false) [.own 1 s,.int .i64 0,.int .i64 n,.func (.func fn) [] cap] fun v o=>v= .dT []/\o= .row 2 (r.map (aQ aL)) s false:=by
 refine dM ae (fn:=Tryz.f246) rfl (by simp only[bE,aG,eC,cl]) (by simp only[nb,cY,c7,cE,bo _ _ hc,Tq];rfl) (z ?_)
 refine lg (α:=Nat×List (bg Va)×Int) ae (fun(nw,s1,s2)=>(fM cmp (0) n nw s1 s2=some r,⟨53,[(8,.int .i64 s2),(0,.own 1 s),(1,.int .i64 0),(2,.int .i64 n),(3,.func (.func fn) [] cap)]⟩,⟨[(0,aX),(1,.row 2 (s1.map (aQ aL)) s false)],2,0,[],[]⟩,nw)) ⟨(_,_,_),hm⟩ ?_
 rintro⟨n1,s1_1,s2_1⟩ hq1
 dsimp only at hq1
 rcases n1 with _|n1
 ·(unfold fM at hq1;cases hq1)
 unfold fM at hq1
 refine z ?_
 refine zd ?_ ?_<;>intro h2
 ·rw[Th h2] at hq1
  refine aY rfl rfl ?_
  obtain⟨v3,hv3,hq1⟩:=aa hq1
  refine lg (α:=Nat×List (bg Va)×Int) ae (fun(nw,s1,s2)=>(lO cmp (0) nw s1 s2=some v3,⟨53,[(9,.int .i64 s2),(8,.int .i64 s2_1),(0,.own 1 s),(1,.int .i64 0),(2,.int .i64 n),(3,.func (.func fn) [] cap)]⟩,⟨[(0,aX),(1,.row 2 (s1.map (aQ aL)) s false)],2,0,[],[]⟩,nw)) ⟨(_,_,_),hv3⟩ ?_
  rintro⟨n3,s1_3,s2_3⟩ hq3
  dsimp only at hq3
  rcases n3 with _|n3
  ·(unfold lO at hq3;cases hq3)
  unfold lO at hq3
  refine z ?_
  refine dg ae [0,0,3,7,15,15,15,111,239,15,15,1039,3599,7695,16383,32767,65535] [] (z ?_)
  refine zd ?_ ?_<;>intro h4
  ·rw[Th h4] at hq3
   obtain⟨j5,x5,en5,ex5,hq3⟩:=av hq3
   refine aK en5 ex5 (z ?_)
   refine bP ex5 (z ?_)
   obtain⟨hg6,hq3⟩:=ah hq3
   refine z ?_
   obtain⟨j8,x8,en8,ex8,hq3⟩:=av hq3
   refine aK en8 ex8 (z ?_)
   refine bP ex8 (z ?_)
   obtain⟨v9,e9,hq3⟩:=aa hq3
   refine jd (hg e9) (by(simp only[cG,kp,hw];try rfl)) rfl (z ?_)
   refine zd ?_ ?_<;>intro h10
   ·rw[Th h10] at hq3
    refine dg ae [0,0,0,0,8,0,0,64,224,480,0,0,3072,7168,16355,32739,65535,131071] [⟨17,0,0,[1]⟩,⟨15,0,0,[1]⟩] (z ?_)
    obtain⟨j15,x15,en15,ex15,hq3⟩:=av hq3
    refine aK en15 ex15 (z ?_)
    refine bP ex15 (z ?_)
    obtain⟨j16,x16,en16,ex16,hq3⟩:=av hq3
    refine aK en16 ex16 (z ?_)
    refine bP ex16 (z ?_)
    obtain⟨j17,x17,en17,ex17,hq3⟩:=cV hq3
    refine aK en17 ex17 (z ?_)
    refine cq _ x15 ex17 rfl (z ?_)
    obtain⟨j18,x18,en18,ex18,hq3⟩:=cV hq3
    refine aK en18 ex18 (z ?_)
    refine cq _ x16 ex18 rfl (z ?_)
    exact bk ⟨(n3,_,_),hq3⟩
   ·rw[Ti h10] at hq3
    cases hq3
    refine z ?_
    obtain⟨hg19,hq1⟩:=ah hq1
    refine z ?_
    exact bk ⟨(n1,_,_),hq1⟩
  ·rw[Ti h4] at hq3
   cases hq3
   refine z ?_
   obtain⟨hg20,hq1⟩:=ah hq1
   refine z ?_
   exact bk ⟨(n1,_,_),hq1⟩
 ·rw[Ti h2] at hq1
  cases hq1
  exact mso
theorem KJ {fn:FuncId} {cap:List SVal} (hc:aw cap=true) (hw:cG cap=cap) {cmp:bg Va->bg Va->Option Int} (hg:∀{x y r},cmp x y=some r->bj Tryz.prog fn (.agg (aQ aL x):: .agg (aQ aL y)::cap) fun s=>s= .int .i64 r) {l r:List (bg Va)} {s:Nat} {n lim:Int} (h0:0<=n) (h12:n<=12) (hm:fM cmp 0 n (l.length+1) l 1=some r):
  lY Tryz.prog 213 (.row 2 (l.map (aQ aL)) s false) [.own 1 s,.int .i64 0,.int .i64 n,.int .i64 lim,.func (.func fn) [] cap] fun v o=>v= .dT []/\o= .row 2 (r.map (aQ aL)) s false:=by
 refine dM ae (fn:=Tryz.f213) rfl (by simp only[bE,aG,eC,cl]) (by simp only[nb,cY,c7,cE,bo _ _ hc,Tq];rfl) (z ?_)
 refine bA ae ?_
 refine z ?_
 have h1:((n-0:Int)<=12):=by omega
 refine Jk h1 (z ?_)
 replace hm:=aB hm
 obtain⟨v2,e2,hm⟩:=aa hm
 refine dj 1 (Lx hc hw hg e2) (by simp only[cG,kp,cx,dp,wP,hw,bS _ _ hc];rfl) rfl rfl rfl (z ?_)
 cases hm
 exact mso
theorem HR {fn:FuncId} {cap:List SVal} (hc:aw cap=true) (hw:cG cap=cap) {cmp:bg Va->bg Va->Option Int} (hg:∀{x y r},cmp x y=some r->bj Tryz.prog fn (.agg (aQ aL x):: .agg (aQ aL y)::cap) fun s=>s= .int .i64 r) {l r:List (bg Va)} {s:Nat} (hm:iJ cmp l=some r):
  lY Tryz.prog 168 (.row 2 (l.map (aQ aL)) s false) [.own 1 s,.func (.func fn) [] cap] fun v o=>v= .dT []/\o= .row 2 (r.map (aQ aL)) s false:=by
 refine dM ae (fn:=Tryz.f168) rfl (by simp only[bE,aG,eC,cl]) (by simp only[nb,cY,c7,cE,bo _ _ hc,Tq];rfl) ?_
 unfold iJ at hm
 obtain⟨hg1,hm⟩:=ah hm
 by_cases h12:(l.length:Int)<=12
 ·rw[Th h12] at hm
  replace hm:(some ()).bind (fun _=>(uL l.length).bind fun k=>(fM cmp 0 l.length (l.length+1) l 1).bind fun l=>some l)=some r:=by
   rw[uL,Th ⟨by omega,h12⟩]
   simpa using hm
  dsimp only[Option.bind_some] at hm
  refine z ?_
  obtain⟨v1,e1,hm⟩:=aa hm
  refine ce (s5 e1) (z ?_)
  obtain⟨v2,e2,hm⟩:=aa hm
  refine dj 1 (KJ hc hw hg ii h12 e2) (by simp only[cG,kp,cx,dp,wP,hw,bS _ _ hc];rfl) rfl rfl rfl (z ?_)
  cases hm
  exact mso
 ·rw[Ti h12] at hm;cases hm
theorem Lw {fn:FuncId} {cap:List SVal} (hc:aw cap=true) (hw:cG cap=cap) {cmp:aM Va->aM Va->Option Int} (hg:∀{x y r},cmp x y=some r->bj Tryz.prog fn (.agg (aC aL x):: .agg (aC aL y)::cap) fun s=>s= .int .i64 r) {l r:List (aM Va)} {s:Nat} {n:Int} (hm:fM cmp 0 n (l.length+1) l 1=some r):
  lY Tryz.prog 264 (.row 2 (l.map (aC aL)) s false) [.own 1 s,.int .i64 0,.int .i64 n,.func (.func fn) [] cap] fun v o=>v= .dT []/\o= .row 2 (r.map (aC aL)) s false:=by
 refine dM ae (fn:=Tryz.f264) rfl (by simp only[bE,aG,eC,cl]) (by simp only[nb,cY,c7,cE,bo _ _ hc,Tq];rfl) (z ?_)
 refine lg (α:=Nat×List (aM Va)×Int) ae (fun(nw,s1,s2)=>(fM cmp (0) n nw s1 s2=some r,⟨53,[(8,.int .i64 s2),(0,.own 1 s),(1,.int .i64 0),(2,.int .i64 n),(3,.func (.func fn) [] cap)]⟩,⟨[(0,aX),(1,.row 2 (s1.map (aC aL)) s false)],2,0,[],[]⟩,nw)) ⟨(_,_,_),hm⟩ ?_
 rintro⟨n1,s1_1,s2_1⟩ hq1
 dsimp only at hq1
 rcases n1 with _|n1
 ·(unfold fM at hq1;cases hq1)
 unfold fM at hq1
 refine z ?_
 refine zd ?_ ?_<;>intro h2
 ·rw[Th h2] at hq1
  refine aY rfl rfl ?_
  obtain⟨v3,hv3,hq1⟩:=aa hq1
  refine lg (α:=Nat×List (aM Va)×Int) ae (fun(nw,s1,s2)=>(lO cmp (0) nw s1 s2=some v3,⟨53,[(9,.int .i64 s2),(8,.int .i64 s2_1),(0,.own 1 s),(1,.int .i64 0),(2,.int .i64 n),(3,.func (.func fn) [] cap)]⟩,⟨[(0,aX),(1,.row 2 (s1.map (aC aL)) s false)],2,0,[],[]⟩,nw)) ⟨(_,_,_),hv3⟩ ?_
  rintro⟨n3,s1_3,s2_3⟩ hq3
  dsimp only at hq3
  rcases n3 with _|n3
  ·(unfold lO at hq3;cases hq3)
  unfold lO at hq3
  refine z ?_
  refine dg ae [0,0,3,7,15,15,15,111,239,15,15,1039,3599,7695,16383,32767,65535] [] (z ?_)
  refine zd ?_ ?_<;>intro h4
  ·rw[Th h4] at hq3
   obtain⟨j5,x5,en5,ex5,hq3⟩:=av hq3
   refine aK en5 ex5 (z ?_)
   refine bP ex5 (z ?_)
   obtain⟨hg6,hq3⟩:=ah hq3
   refine z ?_
   obtain⟨j8,x8,en8,ex8,hq3⟩:=av hq3
   refine aK en8 ex8 (z ?_)
   refine bP ex8 (z ?_)
   obtain⟨v9,e9,hq3⟩:=aa hq3
   refine jd (hg e9) (by(simp only[cG,kp,hw];try rfl)) rfl (z ?_)
   refine zd ?_ ?_<;>intro h10
   ·rw[Th h10] at hq3
    refine dg ae [0,0,0,0,8,0,0,64,224,480,0,0,3072,7168,16355,32739,65535,131071] [⟨17,0,0,[1]⟩,⟨15,0,0,[1]⟩] (z ?_)
    obtain⟨j15,x15,en15,ex15,hq3⟩:=av hq3
    refine aK en15 ex15 (z ?_)
    refine bP ex15 (z ?_)
    obtain⟨j16,x16,en16,ex16,hq3⟩:=av hq3
    refine aK en16 ex16 (z ?_)
    refine bP ex16 (z ?_)
    obtain⟨j17,x17,en17,ex17,hq3⟩:=cV hq3
    refine aK en17 ex17 (z ?_)
    refine cq _ x15 ex17 rfl (z ?_)
    obtain⟨j18,x18,en18,ex18,hq3⟩:=cV hq3
    refine aK en18 ex18 (z ?_)
    refine cq _ x16 ex18 rfl (z ?_)
    exact bk ⟨(n3,_,_),hq3⟩
   ·rw[Ti h10] at hq3
    cases hq3
    refine z ?_
    obtain⟨hg19,hq1⟩:=ah hq1
    refine z ?_
    exact bk ⟨(n1,_,_),hq1⟩
  ·rw[Ti h4] at hq3
   cases hq3
   refine z ?_
   obtain⟨hg20,hq1⟩:=ah hq1
   refine z ?_
   exact bk ⟨(n1,_,_),hq1⟩
 ·rw[Ti h2] at hq1
  cases hq1
  exact mso
theorem KI {fn:FuncId} {cap:List SVal} (hc:aw cap=true) (hw:cG cap=cap) {cmp:aM Va->aM Va->Option Int} (hg:∀{x y r},cmp x y=some r->bj Tryz.prog fn (.agg (aC aL x):: .agg (aC aL y)::cap) fun s=>s= .int .i64 r) {l r:List (aM Va)} {s:Nat} {n lim:Int} (h0:0<=n) (h12:n<=12) (hm:fM cmp 0 n (l.length+1) l 1=some r):
  lY Tryz.prog 215 (.row 2 (l.map (aC aL)) s false) [.own 1 s,.int .i64 0,.int .i64 n,.int .i64 lim,.func (.func fn) [] cap] fun v o=>v= .dT []/\o= .row 2 (r.map (aC aL)) s false:=by
 refine dM ae (fn:=Tryz.f215) rfl (by simp only[bE,aG,eC,cl]) (by simp only[nb,cY,c7,cE,bo _ _ hc,Tq];rfl) (z ?_)
 refine bA ae ?_
 refine z ?_
 have h1:((n-0:Int)<=12):=by omega
 refine Jk h1 (z ?_)
 replace hm:=aB hm
 obtain⟨v2,e2,hm⟩:=aa hm
 refine dj 1 (Lw hc hw hg e2) (by simp only[cG,kp,cx,dp,wP,hw,bS _ _ hc];rfl) rfl rfl rfl (z ?_)
 cases hm
 exact mso
theorem HQ {fn:FuncId} {cap:List SVal} (hc:aw cap=true) (hw:cG cap=cap) {cmp:aM Va->aM Va->Option Int} (hg:∀{x y r},cmp x y=some r->bj Tryz.prog fn (.agg (aC aL x):: .agg (aC aL y)::cap) fun s=>s= .int .i64 r) {l r:List (aM Va)} {s:Nat} (hm:iJ cmp l=some r):
  lY Tryz.prog 171 (.row 2 (l.map (aC aL)) s false) [.own 1 s,.func (.func fn) [] cap] fun v o=>v= .dT []/\o= .row 2 (r.map (aC aL)) s false:=by
 refine dM ae (fn:=Tryz.f171) rfl (by simp only[bE,aG,eC,cl]) (by simp only[nb,cY,c7,cE,bo _ _ hc,Tq];rfl) ?_
 unfold iJ at hm
 obtain⟨hg1,hm⟩:=ah hm
 by_cases h12:(l.length:Int)<=12
 ·rw[Th h12] at hm
  replace hm:(some ()).bind (fun _=>(uL l.length).bind fun k=>(fM cmp 0 l.length (l.length+1) l 1).bind fun l=>some l)=some r:=by
   rw[uL,Th ⟨by omega,h12⟩]
   simpa using hm
  dsimp only[Option.bind_some] at hm
  refine z ?_
  obtain⟨v1,e1,hm⟩:=aa hm
  refine ce (s5 e1) (z ?_)
  obtain⟨v2,e2,hm⟩:=aa hm
  refine dj 1 (KI hc hw hg ii h12 e2) (by simp only[cG,kp,cx,dp,wP,hw,bS _ _ hc];rfl) rfl rfl rfl (z ?_)
  cases hm
  exact mso
 ·rw[Ti h12] at hm;cases hm
structure cO where
 ints:List Sv.Span
 bz:List Sv.Span
def cM (n:cO):List SVal:=[aW n.ints,aW n.bz]
instance :Cl cM:=⟨fun n=>by simp only[cM,aw,bK,Tq]⟩
abbrev mx (a b:Int):Int:=if b>a then b else a
abbrev mn (a b:Int):Int:=if b<a then b else a
def yE (a b:Sv.Span):Option Int:=(IZ a.lo b.lo).bind fun r=>some r
theorem Mk {a b:Sv.Span} {r:Int} (hm:yE a b=some r):Has Tryz.prog 190 [.agg (cD a),.agg (cD b)] fun s=>s= .int .i64 r:=by
 refine hs ae Tryz.f190 ?_
 unfold yE at hm
 refine z ?_
 obtain⟨v1,e1,hm⟩:=aa hm
 refine ce (PK e1) (z ?_)
 cases hm
 exact fc
/-! numset -/
def whole (n:Int):Option Int:=(dV (n+1)).bind fun _=>some (n+1)
theorem AX {n r:Int} (hm:whole n=some r):Has Tryz.prog 149 [.int .i64 n] fun s=>s= .int .i64 r:=by
 refine hs ae Tryz.f149 ?_
 unfold whole at hm
 refine z ?_
 obtain⟨hg1,hm⟩:=ah hm
 refine z ?_
 cases hm
 exact fc
def back (n:Int):Option Int:=(dV (n-1)).bind fun _=>some (n-1)
theorem P1 {n r:Int} (hm:back n=some r):Has Tryz.prog 203 [.int .i64 n] fun s=>s= .int .i64 r:=by
 refine hs ae Tryz.f203 ?_
 unfold back at hm
 refine z ?_
 obtain⟨hg1,hm⟩:=ah hm
 refine z ?_
 cases hm
 exact fc
def after (u:Int):Option Int:=(dV (u+1)).bind fun _=>if(u+1).tmod 10000=0 then(dV (u+2)).bind fun _=>some (u+2) else some (u+1)
theorem Dp {n r:Int} (hm:after n=some r):Has Tryz.prog 150 [.int .i64 n] fun s=>s= .int .i64 r:=by
 refine hs ae Tryz.f150 ?_
 unfold after at hm
 refine z ?_
 obtain⟨hg1,hm⟩:=ah hm
 refine z ?_
 refine zd ?_ ?_<;>intro h2
 rw[Th h2] at hm
 obtain⟨hg3,hm⟩:=ah hm
 refine z ?_
 cases hm
 exact fc
 rw[Ti h2] at hm
 cases hm
 exact fc
def before (u:Int):Option Int:=(dV (u-1)).bind fun _=>if(u-1).tmod 10000=0 then(dV (u-2)).bind fun _=>some (u-2) else some (u-1)
theorem Jj {n r:Int} (hm:before n=some r):Has Tryz.prog 204 [.int .i64 n] fun s=>s= .int .i64 r:=by
 refine hs ae Tryz.f204 ?_
 unfold before at hm
 refine z ?_
 obtain⟨hg1,hm⟩:=ah hm
 refine z ?_
 refine zd ?_ ?_<;>intro h2
 rw[Th h2] at hm
 obtain⟨hg3,hm⟩:=ah hm
 refine z ?_
 cases hm
 exact fc
 rw[Ti h2] at hm
 cases hm
 exact fc
def iK (next:Int->Option Int):List Sv.Span->List Sv.Span->Option (List Sv.Span)
 |[],out=>some out
 |s::r,out=>(aN out).bind fun _=>if(out.length:Int)>0 then(cN out (out.length-1)).bind fun p=>(next p.hi).bind fun q=>if s.lo<=q then
    (cN out (out.length-1)).bind fun p=>(nV out (out.length-1) fun z=>⟨z.lo,mx p.hi s.hi⟩).bind fun out=>iK next r out
   else(push out s).bind fun out=>iK next r out
  else(push out s).bind fun out=>iK next r out
def jZ (next:Int->Option Int) (l:List Sv.Span):Option (List Sv.Span):=(QC l).bind fun _=>(iJ yE l).bind fun l=>(aN l).bind fun _=>iK next l []
theorem xY {fn:FuncId} {next:Int->Option Int} (hg:∀{x r},next x=some r->Has Tryz.prog fn [.int .i64 x] fun s=>s= .int .i64 r) {l r:List Sv.Span} (hm:jZ next l=some r):bj Tryz.prog 148 [aW l,.func (.func fn) [] []] fun s=>s=aW r:=by
 refine ht ae Tryz.f148 ?_
 unfold jZ at hm
 refine z ?_
 obtain⟨hg1,hm⟩:=ah hm
 refine⟨_,_,rfl,rfl,Tp _,by omega,?_⟩
 refine z ?_
 refine Fh cD ⟨_,_⟩ rfl (z ?_)
 refine⟨by simp only[Tr,Ty],?_⟩
 refine z ?_
 refine Di (z ?_)
 obtain⟨v3,e3,hm⟩:=aa hm
 refine dj 1 (HO Mk e3) rfl rfl rfl rfl (z ?_)
 obtain⟨hg4,hm⟩:=ah hm
 refine cy 6 2 rfl ?_
 refine lg (α:=Nat×List Span×Nat) ae (fun(iw,s1,ts1)=>(iK next (List.drop iw v3) s1=some r,⟨61,[(6,.own 2 ts1),(20,.int .i64 iw),(19,.int .i64 ↑v3.length),(18,.own 1 0),(4,.ax),(1,.func (.func fn) [] [])]⟩,⟨[(2,.row 2 (s1.map cD) ts1 false),(1,.row 2 (List.map cD v3) 0 false),(0,aX)],3,0,[],[]⟩,List.length v3-iw)) ⟨(0,_,(0)),hm⟩ ?_
 rintro⟨i5,s1_5,ts1_5⟩ hq5
 dsimp only at hq5
 refine z ?_
 refine zd ?_ ?_<;>intro h6
 obtain⟨x6,ex6,ed6⟩:=an h6
 rw[ed6,iK] at hq5
 refine z ?_
 obtain⟨hg7,hq5⟩:=ah hq5
 refine aK rfl ex6 (z ?_)
 refine bP ex6 (z ?_)
 refine dg ae [0,1,3,7,15,7,7,7,135,455,967,1991,4071,8191,16383] [] (z ?_)
 refine zd ?_ ?_<;>intro h8
 rw[Th h8] at hq5
 obtain⟨j9,x9,en9,ex9,hq5⟩:=av hq5
 refine aK en9 ex9 (z ?_)
 refine bP ex9 (z ?_)
 obtain⟨v10,e10,hq5⟩:=aa hq5
 refine ce (hg e10) (z ?_)
 refine zd ?_ ?_<;>intro h11
 rw[Th h11] at hq5
 refine dg ae [0,0,2,0,0,16,56,120,248,0,512,2040,4095,8191,16383] [] (z ?_)
 obtain⟨j12,x12,en12,ex12,hq5⟩:=av hq5
 refine aK en12 ex12 (z ?_)
 refine bP ex12 (z ?_)
 obtain⟨j13,x13,en13,ex13,hq5⟩:=bV hq5
 refine aK en13 ex13 (z ?_)
 refine cq _ ({lo:=x13.lo,hi:=mx x12.hi x6.hi}) ex13 rfl (z ?_)
 exact bk ⟨(i5+1,_,ts1_5),hq5⟩
 rw[Ti h11] at hq5
 obtain⟨hg14,hq5⟩:=ay hq5
 refine z ?_
 refine aH x6 rfl (z ?_)
 exact bk ⟨(i5+1,_,(ts1_5+1)),hq5⟩
 rw[Ti h8] at hq5
 obtain⟨hg15,hq5⟩:=ay hq5
 refine z ?_
 refine aH x6 rfl (z ?_)
 exact bk ⟨(i5+1,_,(ts1_5+1)),hq5⟩
 rw[aq h6,iK] at hq5
 cases hq5
 refine aV (z ?_)
 exact mt
def Jv:List Sv.Span->List Sv.Span->Option (List Sv.Span)
 |[],out=>some out
 |x::r,out=>if mx x.lo (-100000000000)<=mn x.hi 100000000000 then(push out ⟨mx x.lo (-100000000000),mn x.hi 100000000000⟩).bind fun out=>Jv r out else Jv r out
def Bi (n:Int):Option Int:=if n.tmod 10000=0 then(dV (n+1)).bind fun _=>some (n+1) else some n
def zf (n:Int):Option Int:=if n.tmod 10000=0 then(dV (n-1)).bind fun _=>some (n-1) else some n
def Jw:List Sv.Span->List Sv.Span->Option (List Sv.Span)
 |[],out=>some out
 |x::r,out=>(Bi (mx x.lo (-1000000000000000))).bind fun lo=>(zf (mn x.hi 1000000000000000)).bind fun hi=>if lo<=hi then(push out ⟨lo,hi⟩).bind fun out=>Jw r out else Jw r out
def fG (s:cO):Option cO:=(aN s.ints).bind fun _=>(Jv s.ints []).bind fun i=>(aN s.bz).bind fun _=>(Jw s.bz []).bind fun f=>
 (jZ whole i).bind fun i=>(jZ after f).bind fun f=>some ⟨i,f⟩
theorem fu {s r:cO} (hm:fG s=some r):bj Tryz.prog 115 [.agg (cM s)] fun v=>v= .agg (cM r):=by
 refine ht ae Tryz.f115 ?_
 unfold fG at hm
 refine z ?_
 obtain⟨hg1,hm⟩:=ah hm
 obtain⟨v2,hv2,hm⟩:=aa hm
 refine cy 3 2 rfl ?_
 refine lg (α:=Nat×List Span×Nat) ae (fun(iw,s1,ts1)=>(Jv (List.drop iw s.ints) s1=some v2,⟨78,[(3,.own 3 ts1),(12,.int .i64 iw),(11,.int .i64 ↑s.ints.length),(10,aW s.ints),(4,.ax),(2,.ptr 2 0),(1,.ptr 1 0)]⟩,⟨[(3,.row 2 (s1.map cD) ts1 false),(2,.cells [.ax,.ax]),(1,.cells (cM s)),(0,aX)],4,0,[],[]⟩,List.length s.ints-iw)) ⟨(0,_,(0)),hv2⟩ ?_
 rintro⟨i2,s1_2,ts1_2⟩ hq2
 dsimp only at hq2
 refine z ?_
 refine zd ?_ ?_<;>intro h3
 obtain⟨x3,ex3,ed3⟩:=an h3
 rw[ed3,Jv] at hq2
 refine z ?_
 refine bq ex3 rfl (z ?_)
 refine zd ?_ ?_<;>intro h4
 rw[Th h4] at hq2
 obtain⟨hg5,hq2⟩:=ay hq2
 refine z ?_
 refine aH ({lo:=mx x3.lo (-100000000000),hi:=mn x3.hi 100000000000}) rfl (z ?_)
 exact bk ⟨(i2+1,_,(ts1_2+1)),hq2⟩
 rw[Ti h4] at hq2
 exact bk ⟨(i2+1,_,ts1_2),hq2⟩
 rw[aq h3,Jv] at hq2
 cases hq2
 refine z ?_
 obtain⟨hg6,hm⟩:=ah hm
 refine aY rfl rfl ?_
 obtain⟨v7,hv7,hm⟩:=aa hm
 refine cy 4 2 rfl ?_
 refine lg (α:=Nat×List Span×Nat) ae (fun(iw,s1,ts1)=>(Jw (List.drop iw s.bz) s1=some v7,⟨78,[(4,.own 4 ts1),(36,.int .i64 iw),(35,.int .i64 ↑s.bz.length),(34,aW s.bz),(3,.own 3 ts1_2),(2,.ptr 2 0)]⟩,⟨[(4,.row 2 (s1.map cD) ts1 false),(3,.row 2 (List.map cD v2) ts1_2 false),(2,.cells [.ax,.ax]),(1,.cells (cM s)),(0,aX)],5,0,[],[]⟩,List.length s.bz-iw)) ⟨(0,_,(0)),hv7⟩ ?_
 rintro⟨i7,s1_7,ts1_7⟩ hq7
 dsimp only at hq7
 refine z ?_
 refine zd ?_ ?_<;>intro h8
 obtain⟨x8,ex8,ed8⟩:=an h8
 rw[ed8,Jw] at hq7
 unfold Bi at hq7
 refine z ?_
 refine bq ex8 rfl (z ?_)
 refine zd ?_ ?_<;>intro h9
 rw[Th h9] at hq7
 rw[Tl] at hq7
 refine z ?_
 obtain⟨hg10,hq7⟩:=ah hq7
 dsimp only[Option.bind_some] at hq7
 unfold zf at hq7
 refine⟨by simp only[xd,Tr,T0,Tu,TQ,Tt];omega,?_⟩
 refine z ?_
 refine zd ?_ ?_<;>intro h12
 rw[Th h12] at hq7
 rw[Tl] at hq7
 refine z ?_
 obtain⟨hg13,hq7⟩:=ah hq7
 dsimp only[Option.bind_some] at hq7
 refine⟨by simp only[xd,Tr,T0,Tu,TQ,Tt];omega,?_⟩
 refine z ?_
 refine zd ?_ ?_<;>intro h14
 rw[Th h14] at hq7
 obtain⟨hg15,hq7⟩:=ay hq7
 refine z ?_
 refine aH ({lo:=mx x8.lo (-1000000000000000)+1,hi:=mn x8.hi 1000000000000000-1}) rfl (z ?_)
 exact bk ⟨(i7+1,_,(ts1_7+1)),hq7⟩
 rw[Ti h14] at hq7
 exact bk ⟨(i7+1,_,ts1_7),hq7⟩
 rw[Ti h12] at hq7
 dsimp only[Option.bind_some] at hq7
 refine z ?_
 refine zd ?_ ?_<;>intro h16
 rw[Th h16] at hq7
 obtain⟨hg17,hq7⟩:=ay hq7
 refine z ?_
 refine aH ({lo:=mx x8.lo (-1000000000000000)+1,hi:=mn x8.hi 1000000000000000}) rfl (z ?_)
 exact bk ⟨(i7+1,_,(ts1_7+1)),hq7⟩
 rw[Ti h16] at hq7
 exact bk ⟨(i7+1,_,ts1_7),hq7⟩
 rw[Ti h9] at hq7
 dsimp only[Option.bind_some] at hq7
 unfold zf at hq7
 refine z ?_
 refine zd ?_ ?_<;>intro h18
 rw[Th h18] at hq7
 rw[Tl] at hq7
 refine z ?_
 obtain⟨hg19,hq7⟩:=ah hq7
 dsimp only[Option.bind_some] at hq7
 refine⟨by simp only[xd,Tr,T0,Tu,TQ,Tt];omega,?_⟩
 refine z ?_
 refine zd ?_ ?_<;>intro h20
 rw[Th h20] at hq7
 obtain⟨hg21,hq7⟩:=ay hq7
 refine z ?_
 refine aH ({lo:=mx x8.lo (-1000000000000000),hi:=mn x8.hi 1000000000000000-1}) rfl (z ?_)
 exact bk ⟨(i7+1,_,(ts1_7+1)),hq7⟩
 rw[Ti h20] at hq7
 exact bk ⟨(i7+1,_,ts1_7),hq7⟩
 rw[Ti h18] at hq7
 dsimp only[Option.bind_some] at hq7
 refine z ?_
 refine zd ?_ ?_<;>intro h22
 rw[Th h22] at hq7
 obtain⟨hg23,hq7⟩:=ay hq7
 refine z ?_
 refine aH ({lo:=mx x8.lo (-1000000000000000),hi:=mn x8.hi 1000000000000000}) rfl (z ?_)
 exact bk ⟨(i7+1,_,(ts1_7+1)),hq7⟩
 rw[Ti h22] at hq7
 exact bk ⟨(i7+1,_,ts1_7),hq7⟩
 rw[aq h8,Jw] at hq7
 cases hq7
 refine z ?_
 obtain⟨v24,e24,hm⟩:=aa hm
 refine bH (xY AX e24) (z ?_)
 obtain⟨v25,e25,hm⟩:=aa hm
 refine bH (xY Dp e25) (z ?_)
 cases hm
 exact mst
abbrev D4 (x y:Sv.Span):Bool:=decide (x.lo=y.lo)&&(decide (x.hi=y.hi)&&true)
def iU (b:List Sv.Span):List Sv.Span->Int->Option Bool
 |[],_=>some true
 |x::r,i=>(cN b i).bind fun y=>if D4 x y then iU b r (i+1) else some false
def gW (a b:List Sv.Span):Option Bool:=
 if(a.length:Int)=b.length then(aN a).bind fun _=>iU b a 0 else some false
theorem lh {a b:List Sv.Span} {r:Bool} (hm:gW a b=some r):Has Tryz.prog 181 [aW a,aW b] fun s=>s= .bool r:=by
 refine hs ae Tryz.f181 ?_
 unfold gW at hm
 refine z ?_
 refine zn ?_ ?_<;>intro h1
 rw[Ti h1] at hm
 cases hm
 exact fc
 rw[Th h1] at hm
 obtain⟨hg2,hm⟩:=ah hm
 refine lg (α:=Nat) ae (fun iw=>(iU b (List.drop iw a) (iw:Int)=some r,⟨26,[(13,.int .i64 iw),(12,.int .i64 ↑a.length),(4,.bool false),(0,aW a),(1,aW b)]⟩,⟨[],0,0,[],[]⟩,List.length a-iw)) ⟨(0),hm⟩ ?_
 intro i3 hq3
 dsimp only at hq3
 refine z ?_
 refine zd ?_ ?_<;>intro h4
 obtain⟨x4,ex4,ed4⟩:=an h4
 rw[ed4,iU] at hq3
 refine z ?_
 refine dg ae [0,0,3,7,0,0,48,112,255] [] (z ?_)
 refine bq ex4 rfl (z ?_)
 obtain⟨j5,x5,en5,ex5,hq3⟩:=av hq3
 refine bF en5 ex5 rfl (z ?_)
 refine zm ?_ ?_<;>intro h6
 rw[Ti (nt h6)] at hq3
 cases hq3
 exact fc
 rw[Th h6] at hq3
 exact bk ⟨i3+1,hq3⟩
 rw[aq h4,iU] at hq3
 cases hq3
 exact fc
def xu (a b:cO):Option Bool:=(gW a.ints b.ints).bind fun p=>if p then gW a.bz b.bz else some false
theorem Kq {a b:cO} {r:Bool} (hm:xu a b=some r):Has Tryz.prog 221 [.agg (cM a),.agg (cM b)] fun s=>s= .bool r:=by
 refine hs ae Tryz.f221 ?_
 unfold xu at hm
 refine z ?_
 obtain⟨v1,e1,hm⟩:=aa hm
 refine ce (lh e1) (z ?_)
 refine zr ?_ ?_<;>intro h2
 rw[Th h2] at hm
 replace hm:=aB hm
 obtain⟨v3,e3,hm⟩:=aa hm
 refine ce (lh e3) (z ?_)
 cases hm
 exact fc
 rw[Ti (nt h2)] at hm
 cases hm
 exact fc
def oG (a:cO):Option Bool:=(fG a).bind fun b=>xu a b
theorem HG {a:cO} {r:Bool} (hm:oG a=some r):bj Tryz.prog 188 [.agg (cM a)] fun s=>s= .bool r:=by
 refine ht ae Tryz.f188 ?_
 unfold oG at hm
 refine z ?_
 refine dg ae [0,0,2,7,15] [] (z ?_)
 obtain⟨v1,e1,hm⟩:=aa hm
 refine ct (fu e1) (z ?_)
 replace hm:=aB hm
 obtain⟨v2,e2,hm⟩:=aa hm
 refine ce (Kq e2) (z ?_)
 cases hm
 exact mst
def Cj:Option cO:=some ⟨[⟨-100000000000,100000000000⟩],[]⟩
theorem Lt {r:cO} (hm:Cj=some r):Has Tryz.prog 227 [] fun s=>s= .agg (cM r):=by
 refine hs ae Tryz.f227 ?_
 unfold Cj at hm
 refine z ?_
 cases hm
 refine dy (z ?_)
 first|exact rfl|exact⟨rfl,rfl⟩
def Jo:Option cO:=Cj.bind fun s=>some ⟨s.ints,[⟨-999999999999999,999999999999999⟩]⟩
theorem Hf {r:cO} (hm:Jo=some r):Has Tryz.prog 200 [] fun s=>s= .agg (cM r):=by
 refine hs ae Tryz.f200 ?_
 unfold Jo at hm
 refine z ?_
 obtain⟨v1,e1,hm⟩:=aa hm
 refine ce (Lt e1) (z ?_)
 cases hm
 refine dy (z ?_)
 first|exact e2|exact rfl
def ou (x:Sv.Span):List Sv.Span->List Sv.Span->Option (List Sv.Span)
 |[],out=>some out
 |y::r,out=>if mx x.lo y.lo<=mn x.hi y.hi then(push out ⟨mx x.lo y.lo,mn x.hi y.hi⟩).bind fun out=>ou x r out else ou x r out
def Aj (b:List Sv.Span):List Sv.Span->List Sv.Span->Option (List Sv.Span)
 |[],out=>some out
 |x::r,out=>(aN b).bind fun _=>(ou x b out).bind fun out=>Aj b r out
def jU (a b:List Sv.Span):Option (List Sv.Span):=(aN a).bind fun _=>Aj b a []
theorem yA {a b r:List Sv.Span} (hm:jU a b=some r):Has Tryz.prog 220 [aW a,aW b] fun s=>s=aW r:=by
 refine hs ae Tryz.f220 ?_
 unfold jU at hm
 refine z ?_
 obtain⟨hg1,hm⟩:=ah hm
 refine cy 5 2 rfl ?_
 refine lg (α:=Nat×List Span×Nat) ae (fun(iw,s1,ts1)=>(Aj b (List.drop iw a) s1=some r,⟨46,[(5,.own 0 ts1),(13,.int .i64 iw),(12,.int .i64 ↑a.length),(11,aW a),(4,.ax),(1,aW b)]⟩,⟨[(0,.row 2 (s1.map cD) ts1 false)],1,0,[],[]⟩,List.length a-iw)) ⟨(0,_,(0)),hm⟩ ?_
 rintro⟨i2,s1_2,ts1_2⟩ hq2
 dsimp only at hq2
 refine z ?_
 refine zd ?_ ?_<;>intro h3
 obtain⟨x3,ex3,ed3⟩:=an h3
 rw[ed3,Aj] at hq2
 refine z ?_
 obtain⟨hg4,hq2⟩:=ah hq2
 refine bq ex3 rfl (z ?_)
 obtain⟨v5,hv5,hq2⟩:=aa hq2
 refine lg (α:=Nat×List Span×Nat) ae (fun(iw,s1,ts1)=>(ou x3 (List.drop iw b) s1=some v5,⟨46,[(19,.int .i64 iw),(18,.int .i64 ↑b.length),(17,aW b),(7,.ptr 1 0),(5,.own 0 ts1),(13,.int .i64 ↑i2),(12,.int .i64 ↑a.length),(11,aW a),(4,.ax),(1,aW b)]⟩,⟨[(1,.cells [.int .i64 x3.lo,.int .i64 x3.hi]),(0,.row 2 (s1.map cD) ts1 false)],2,0,[],[]⟩,List.length b-iw)) ⟨(0,_,ts1_2),hv5⟩ ?_
 rintro⟨i5,s1_5,ts1_5⟩ hq5
 dsimp only at hq5
 refine z ?_
 refine zd ?_ ?_<;>intro h6
 obtain⟨x6,ex6,ed6⟩:=an h6
 rw[ed6,ou] at hq5
 refine z ?_
 refine bq ex6 rfl (z ?_)
 refine zd ?_ ?_<;>intro h7
 rw[Th h7] at hq5
 obtain⟨hg8,hq5⟩:=ay hq5
 refine z ?_
 refine aH ({lo:=mx x3.lo x6.lo,hi:=mn x3.hi x6.hi}) rfl (z ?_)
 exact bk ⟨(i5+1,_,(ts1_5+1)),hq5⟩
 rw[Ti h7] at hq5
 exact bk ⟨(i5+1,_,ts1_5),hq5⟩
 rw[aq h6,ou] at hq5
 cases hq5
 refine z ?_
 exact bk ⟨(i2+1,_,ts1_5),hq2⟩
 rw[aq h3,Aj] at hq2
 cases hq2
 refine dy (z ?_)
 first|exact e2|exact rfl
def Fk (a b:cO):Option cO:=(fG a).bind fun x=>(fG b).bind fun y=>(jU x.ints y.ints).bind fun i=>(jU x.bz y.bz).bind fun f=>fG ⟨i,f⟩
theorem P6 {a b r:cO} (hm:Fk a b=some r):bj Tryz.prog 187 [.agg (cM a),.agg (cM b)] fun s=>s= .agg (cM r):=by
 refine ht ae Tryz.f187 ?_
 unfold Fk at hm
 refine z ?_
 refine dg ae [0,1,0,7,0,0,63,127] [] (z ?_)
 obtain⟨v1,e1,hm⟩:=aa hm
 refine ct (fu e1) (z ?_)
 obtain⟨v2,e2,hm⟩:=aa hm
 refine ct (fu e2) (z ?_)
 refine dg ae [0,1,0,4,15,0,32,0,128,511,1023,2047,4095] [] (z ?_)
 obtain⟨v3,e3,hm⟩:=aa hm
 refine ce (yA e3) (z ?_)
 obtain⟨v4,e4,hm⟩:=aa hm
 refine ce (yA e4) (z ?_)
 replace hm:=aB hm
 obtain⟨v5,e5,hm⟩:=aa hm
 refine ct (fu e5) (z ?_)
 cases hm
 exact mst
def orN (a b:cO):Option cO:=(mJ a.ints b.ints).bind fun i=>(mJ a.bz b.bz).bind fun f=>fG ⟨i,f⟩
theorem Ry {a b r:cO} (hm:orN a b=some r):bj Tryz.prog 89 [.agg (cM a),.agg (cM b)] fun s=>s= .agg (cM r):=by
 refine ht ae Tryz.f89 ?_
 unfold orN at hm
 refine z ?_
 refine dg ae [0,1,0,4,15,31,0,64,0,256,960,2047,4095,8191,16383] [] (z ?_)
 obtain⟨v1,e1,hm⟩:=aa hm
 refine fJ (yy e1) (z ?_)
 obtain⟨v2,e2,hm⟩:=aa hm
 refine fJ (yy e2) (z ?_)
 replace hm:=aB hm
 obtain⟨v3,e3,hm⟩:=aa hm
 refine ct (fu e3) (z ?_)
 cases hm
 exact mst
def yh:Option Unit:=some ()
theorem GF {fn fp:FuncId} {l:List Sv.Span} {all:Sv.Span} {r:Unit} (hm:yh=some r):Has Tryz.prog 202 [aW l,.agg (cD all),.func (.func fn) [] [],.func (.func fp) [] []] fun s=>s= .func (.func 229) [] [.bN (cD all) 0,.bN [aW l] 0,.bN [.func (.func fp) [] []] 0,.bN [.func (.func fn) [] []] 0]:=by
 refine hs ae Tryz.f202 ?_
 unfold yh at hm
 refine z ?_
 cases hm
 refine dy (z ?_)
 first|exact e2|exact rfl
def En (a:cO):Option cO:=(fG a).bind fun x=>Jo.bind fun al=>(cN al.ints 0).bind fun ai=>yh.bind fun _=>(ow whole back x.ints ai).bind fun i=>(cN al.bz 0).bind fun af=>yh.bind fun _=>(ow after before x.bz af).bind fun f=>fG ⟨i,f⟩
theorem Ox {a r:cO} (hm:En a=some r):bj Tryz.prog 158 [.agg (cM a)] fun s=>s= .agg (cM r):=by
 refine ht ae Tryz.f158 ?_
 unfold En at hm
 refine z ?_
 obtain⟨v1,e1,hm⟩:=aa hm
 refine ct (fu e1) (z ?_)
 obtain⟨v2,e2,hm⟩:=aa hm
 refine ce (Hf e2) (z ?_)
 refine dg ae [0,1,0,4,12,28,63,127,0,256,0,1024,3072,7168,16383,32767,65535,131071,262143] [] (z ?_)
 obtain⟨j3,x3,en3,ex3,hm⟩:=av hm
 refine bF en3 ex3 rfl (z ?_)
 obtain⟨v4,e4,hm⟩:=aa hm
 refine ce (GF e4) (z ?_)
 obtain⟨v5,e5,hm⟩:=aa hm
 refine ce (GX AX P1 e5) (z ?_)
 obtain⟨j6,x6,en6,ex6,hm⟩:=av hm
 refine bF en6 ex6 rfl (z ?_)
 obtain⟨v7,e7,hm⟩:=aa hm
 refine ce (GF e7) (z ?_)
 obtain⟨v8,e8,hm⟩:=aa hm
 refine ce (GX Dp Jj e8) (z ?_)
 replace hm:=aB hm
 obtain⟨v9,e9,hm⟩:=aa hm
 refine ct (fu e9) (z ?_)
 cases hm
 exact mst
def kZ (a b:cO):Option cO:=(En b).bind fun c=>Fk a c
theorem q9 {a b r:cO} (hm:kZ a b=some r):bj Tryz.prog 144 [.agg (cM a),.agg (cM b)] fun s=>s= .agg (cM r):=by
 refine ht ae Tryz.f144 ?_
 unfold kZ at hm
 refine z ?_
 refine dg ae [0,0,2,7,15] [] (z ?_)
 obtain⟨v1,e1,hm⟩:=aa hm
 refine ct (Ox e1) (z ?_)
 replace hm:=aB hm
 obtain⟨v2,e2,hm⟩:=aa hm
 refine ct (P6 e2) (z ?_)
 cases hm
 exact mst
def q7 (u v:Int):Option Bool:=(dV (0-u)).bind fun _=>(dV (0-v)).bind fun _=>if mx u (0-u)<mx v (0-v) then some true else if mx u (0-u)=mx v (0-v) then some (decide (u>v)) else some false
theorem q6 {u v:Int} {r:Bool} (hm:q7 u v=some r):Has Tryz.prog 178 [.int .i64 u,.int .i64 v] fun s=>s= .bool r:=by
 refine hs ae Tryz.f178 ?_
 unfold q7 at hm
 refine z ?_
 obtain⟨hg1,hm⟩:=ah hm
 obtain⟨hg2,hm⟩:=ah hm
 refine z ?_
 refine zd ?_ ?_<;>intro h3
 rw[Th h3] at hm
 cases hm
 exact fc
 rw[Ti h3] at hm
 refine zd ?_ ?_<;>intro h4
 rw[Th h4] at hm
 cases hm
 exact fc
 rw[Ti h4] at hm
 cases hm
 exact fc
def nearest (s:Sv.Span) (m:Int):Option Int:=if s.lo>0 then some s.lo else if s.hi<0 then some s.hi else some m
theorem uv {s:Sv.Span} {m r:Int} (hm:nearest s m=some r):Has Tryz.prog 179 [.agg (cD s),.int .i64 m] fun v=>v= .int .i64 r:=by
 refine hs ae Tryz.f179 ?_
 unfold nearest at hm
 refine z ?_
 refine zd ?_ ?_<;>intro h1
 rw[Th h1] at hm
 cases hm
 exact fc
 rw[Ti h1] at hm
 refine zd ?_ ?_<;>intro h2
 rw[Th h2] at hm
 cases hm
 exact fc
 rw[Ti h2] at hm
 cases hm
 exact fc
def take (u best:Int) (found:Bool):Option (Int×Bool):=if found then(q7 u best).bind fun c=>if c then some (u,true) else some (best,found) else some (u,true)
def uQ:List Sv.Span->Int->Bool->Option (Int×Bool)
 |[],best,found=>some (best,found)
 |y::r,best,found=>(nearest y 0).bind fun n=>(dV (n*10000)).bind fun _=>(take (n*10000) best found).bind fun p=>uQ r p.1 p.2
def uP:List Sv.Span->Int->Bool->Option (Int×Bool)
 |[],best,found=>some (best,found)
 |y::r,best,found=>(nearest y 1).bind fun n=>(take n best found).bind fun p=>uP r p.1 p.2
def iC (s:cO):Option (Int×Bool):=(fG s).bind fun x=>(aN x.ints).bind fun _=>(uQ x.ints 0 false).bind fun p=>(aN x.bz).bind fun _=>uP x.bz p.1 p.2
theorem rf {s:cO} {r:Int×Bool} (hm:iC s=some r):bj Tryz.prog 137 [.agg (cM s)] fun v=>v= .dT [.int .i64 r.1,.bool r.2]:=by
 refine ht ae Tryz.f137 ?_
 unfold iC at hm
 refine z ?_
 obtain⟨v1,e1,hm⟩:=aa hm
 refine ct (fu e1) (z ?_)
 obtain⟨hg2,hm⟩:=ah hm
 obtain⟨v3,hv3,hm⟩:=aa hm
 refine lg (α:=Nat×Int×Bool) ae (fun(iw,s1,s2)=>(uQ (List.drop iw v1.ints) s1 s2=some v3,⟨42,[(18,.int .i64 iw),(17,.int .i64 ↑v1.ints.length),(16,aW v1.ints),(7,.func (.func 177) [] [.ptr 4 0,.ptr 3 0]),(6,.ptr 4 0),(5,.ptr 3 0),(4,.ptr 2 0),(3,.bool false),(2,.int .i64 0)]⟩,⟨[(4,.cells [.bool s2]),(3,.cells [.int .i64 s1]),(2,.cells [aW v1.ints,aW v1.bz]),(1,.cells (cM s)),(0,aX)],5,0,[],[]⟩,List.length v1.ints-iw)) ⟨(0,_,_),hv3⟩ ?_
 rintro⟨i3,s1_3,s2_3⟩ hq3
 dsimp only at hq3
 refine z ?_
 refine zd ?_ ?_<;>intro h4
 obtain⟨x4,ex4,ed4⟩:=an h4
 rw[ed4,uQ] at hq3
 refine z ?_
 refine bq ex4 rfl (z ?_)
 obtain⟨v5,e5,hq3⟩:=aa hq3
 refine ce (uv e5) (z ?_)
 obtain⟨hg6,hq3⟩:=ah hq3
 unfold take at hq3
 refine z ?_
 refine ci ae Tryz.f177 (z ?_)
 refine zm ?_ ?_<;>intro h8
 rw[Ti (nt h8)] at hq3
 dsimp only[Option.bind_some] at hq3
 refine z ?_
 refine ei (z ?_)
 exact bk ⟨(i3+1,_,_),hq3⟩
 rw[Th h8] at hq3
 rw[Tl] at hq3
 refine z ?_
 obtain⟨v9,e9,hq3⟩:=aa hq3
 refine ce (q6 e9) (z ?_)
 refine zr ?_ ?_<;>intro h10
 rw[Th h10] at hq3
 dsimp only[Option.bind_some] at hq3
 refine z ?_
 refine ei (z ?_)
 exact bk ⟨(i3+1,_,_),hq3⟩
 rw[Ti (nt h10)] at hq3
 dsimp only[Option.bind_some] at hq3
 refine z ?_
 refine ei (z ?_)
 exact bk ⟨(i3+1,_,_),hq3⟩
 rw[aq h4,uQ] at hq3
 cases hq3
 dsimp only at hm
 refine z ?_
 obtain⟨hg11,hm⟩:=ah hm
 refine aY rfl rfl ?_
 refine lg (α:=Nat×Int×Bool) ae (fun(iw,s1,s2)=>(uP (List.drop iw v1.bz) s1 s2=some r,⟨42,[(31,.int .i64 iw),(30,.int .i64 ↑v1.bz.length),(29,aW v1.bz),(7,.func (.func 177) [] [.ptr 4 0,.ptr 3 0]),(6,.ptr 4 0),(5,.ptr 3 0),(3,.bool false),(2,.int .i64 0)]⟩,⟨[(4,.cells [.bool s2]),(3,.cells [.int .i64 s1]),(2,.cells [aW v1.ints,aW v1.bz]),(1,.cells (cM s)),(0,aX)],5,0,[],[]⟩,List.length v1.bz-iw)) ⟨(0,_,_),hm⟩ ?_
 rintro⟨i12,s1_12,s2_12⟩ hq12
 dsimp only at hq12
 refine z ?_
 refine zd ?_ ?_<;>intro h13
 obtain⟨x13,ex13,ed13⟩:=an h13
 rw[ed13,uP] at hq12
 refine z ?_
 refine bq ex13 rfl (z ?_)
 obtain⟨v14,e14,hq12⟩:=aa hq12
 refine ce (uv e14) ?_
 unfold take at hq12
 refine z ?_
 refine ci ae Tryz.f177 (z ?_)
 refine zm ?_ ?_<;>intro h15
 rw[Ti (nt h15)] at hq12
 dsimp only[Option.bind_some] at hq12
 refine z ?_
 refine ei (z ?_)
 exact bk ⟨(i12+1,_,_),hq12⟩
 rw[Th h15] at hq12
 rw[Tl] at hq12
 refine z ?_
 obtain⟨v16,e16,hq12⟩:=aa hq12
 refine ce (q6 e16) (z ?_)
 refine zr ?_ ?_<;>intro h17
 rw[Th h17] at hq12
 dsimp only[Option.bind_some] at hq12
 refine z ?_
 refine ei (z ?_)
 exact bk ⟨(i12+1,_,_),hq12⟩
 rw[Ti (nt h17)] at hq12
 dsimp only[Option.bind_some] at hq12
 refine z ?_
 refine ei (z ?_)
 exact bk ⟨(i12+1,_,_),hq12⟩
 rw[aq h13,uP] at hq12
 refine dg ae [0,0,1,7] [] (z ?_)
 cases hq12
 exact mst
def SA (a b:cO):Option Int:=(kZ a b).bind fun x=>(iC x).bind fun p=>(kZ b a).bind fun y=>(iC y).bind fun q=>
 if p.2 then if q.2 then(q7 p.1 q.1).bind fun c=>if c then some (-1) else some 1 else some (-1)
 else if q.2 then some 1 else some 0
theorem PI {a b:cO} {r:Int} (hm:SA a b=some r):bj Tryz.prog 216 [.agg (cM a),.agg (cM b)] fun s=>s= .int .i64 r:=by
 refine ht ae Tryz.f216 ?_
 unfold SA at hm
 refine z ?_
 obtain⟨v1,e1,hm⟩:=aa hm
 refine ct (q9 e1) (z ?_)
 obtain⟨v2,e2,hm⟩:=aa hm
 refine ct (rf e2) (z ?_)
 obtain⟨v3,e3,hm⟩:=aa hm
 refine ct (q9 e3) (z ?_)
 obtain⟨v4,e4,hm⟩:=aa hm
 refine ct (rf e4) (z ?_)
 refine zm ?_ ?_<;>intro h5
 rw[Ti (nt h5)] at hm
 refine zm ?_ ?_<;>intro h6
 rw[Ti (nt h6)] at hm
 cases hm
 exact mst
 rw[Th h6] at hm
 refine bmf h6 (z ?_)
 refine brf h5 (z ?_)
 cases hm
 exact mst
 rw[Th h5] at hm
 refine zm ?_ ?_<;>intro h7
 rw[Ti (nt h7)] at hm
 cases hm
 exact mst
 rw[Th h7] at hm
 refine brt h5 (z ?_)
 obtain⟨v8,e8,hm⟩:=aa hm
 refine ce (q6 e8) (z ?_)
 refine zr ?_ ?_<;>intro h9
 rw[Th h9] at hm
 cases hm
 exact mst
 rw[Ti (nt h9)] at hm
 cases hm
 exact mst
def Ak (x y:List UInt8):Option Int:=(OB x).bind fun a=>(OB y).bind fun b=>if a then if b then some 0 else some (-1) else if b then some 1 else if Op.bytesLess x y then some (-1) else if Op.bytesLess x y||decide (x=y) then some 0 else some 1
theorem G0 {x y:List UInt8} {r:Int} (hm:Ak x y=some r):Has Tryz.prog 212 [.str x,.str y] fun s=>s= .int .i64 r:=by
 refine hs ae Tryz.f212 ?_
 unfold Ak at hm
 refine z ?_
 obtain⟨v1,e1,hm⟩:=aa hm
 refine ce (Gk e1) (z ?_)
 obtain⟨v2,e2,hm⟩:=aa hm
 refine ce (Gk e2) (z ?_)
 refine zr ?_ ?_<;>intro h3
 rw[Th h3] at hm
 refine zr ?_ ?_<;>intro h4
 rw[Th h4] at hm
 cases hm
 exact fc
 rw[Ti (nt h4)] at hm
 cases hm
 exact fc
 rw[Ti (nt h3)] at hm
 refine zr ?_ ?_<;>intro h5
 rw[Th h5] at hm
 cases hm
 exact fc
 rw[Ti (nt h5)] at hm
 refine zr ?_ ?_<;>intro h6
 rw[Th h6] at hm
 cases hm
 exact fc
 rw[Ti (nt h6)] at hm
 refine zm ?_ ?_<;>intro h7
 rw[Ti (nt h7)] at hm
 cases hm
 exact fc
 rw[Th h7] at hm
 cases hm
 exact fc
def KQ:List Int->Option Int
 |[]=>some 0
 |x::r=>if x=0 then KQ r else some x
def orI (l:List Int):Option Int:=(aN l).bind fun _=>KQ l
theorem Rz {l:List Int} {r:Int} (hm:orI l=some r):Has Tryz.prog 210 [.aE false (l.map bM)] fun s=>s= .int .i64 r:=by
 refine hs ae Tryz.f210 ?_
 unfold orI at hm
 refine z ?_
 obtain⟨hg1,hm⟩:=ah hm
 refine lg (α:=Nat) ae (fun iw=>(KQ (List.drop iw l)=some r,⟨18,[(8,.int .i64 iw),(7,.int .i64 ↑l.length),(6,.aE false (List.map bM l)),(3,.int .i64 0),(2,.int .i64 0)]⟩,⟨[],0,0,[],[]⟩,List.length l-iw)) ⟨(0),hm⟩ ?_
 intro i2 hq2
 dsimp only at hq2
 refine z ?_
 refine zd ?_ ?_<;>intro h3
 obtain⟨x3,ex3,ed3⟩:=an h3
 rw[ed3,KQ] at hq2
 refine z ?_
 refine bq ex3 rfl (z ?_)
 refine zn ?_ ?_<;>intro h4
 rw[Ti h4] at hq2
 cases hq2
 exact fc
 rw[Th h4] at hq2
 exact bk ⟨i2+1,hq2⟩
 rw[aq h3,KQ] at hq2
 cases hq2
 exact fc
def IY (a b:List ba):Option Int:=(fY a).bind fun a=>(fY b).bind fun b=>(mq a b).bind fun x=>(jn x).bind fun p=>(mq b a).bind fun y=>(jn y).bind fun q=>
 if p.2 then if q.2 then(aN p.1).bind fun _=>(aN q.1).bind fun _=>(An p.1.length q.1.length).bind fun c=>(Ak p.1 q.1).bind fun d=>orI [c,d] else some (-1) else if q.2 then some 1 else some 0
theorem Al {a b:List ba} {r:Int} (hm:IY a b=some r):bj Tryz.prog 167 [.agg [aA a],.agg [aA b]] fun s=>s= .int .i64 r:=by
 refine ht ae Tryz.f167 ?_
 unfold IY at hm
 refine z ?_
 refine dg ae [0,1,0,7,15,31] [] (z ?_)
 obtain⟨v1,e1,hm⟩:=aa hm
 refine ct (hX e1) (z ?_)
 obtain⟨v2,e2,hm⟩:=aa hm
 refine ct (hX e2) (z ?_)
 obtain⟨v3,e3,hm⟩:=aa hm
 refine ct (ny e3) (z ?_)
 obtain⟨v4,e4,hm⟩:=aa hm
 refine ct (rh e4) (z ?_)
 obtain⟨v5,e5,hm⟩:=aa hm
 refine ct (ny e5) (z ?_)
 obtain⟨v6,e6,hm⟩:=aa hm
 refine ct (rh e6) (z ?_)
 refine zm ?_ ?_<;>intro h7
 rw[Ti (nt h7)] at hm
 refine zm ?_ ?_<;>intro h8
 rw[Ti (nt h8)] at hm
 cases hm
 exact mst
 rw[Th h8] at hm
 refine bmf h8 (z ?_)
 refine bmt h7 (z ?_)
 cases hm
 exact mst
 rw[Th h7] at hm
 refine zm ?_ ?_<;>intro h9
 rw[Ti (nt h9)] at hm
 cases hm
 exact mst
 rw[Th h9] at hm
 obtain⟨hg10,hm⟩:=ah hm
 obtain⟨hg11,hm⟩:=ah hm
 refine bmf h7 (z ?_)
 obtain⟨v12,e12,hm⟩:=aa hm
 refine ce (Am e12) (z ?_)
 obtain⟨v13,e13,hm⟩:=aa hm
 refine ce (G0 e13) (z ?_)
 replace hm:=aB hm
 obtain⟨v14,e14,hm⟩:=aa hm
 refine cm (Rz e14) rfl (z ?_)
 cases hm
 exact mst
def sH (u:Int):Option Bool:=if u>= -1000000000000000 then some (decide (u<=1000000000000000)) else some false
theorem GI {u:Int} {r:Bool} (hm:sH u=some r):Has Tryz.prog 110 [.int .i64 u] fun s=>s= .bool r:=by
 refine hs ae Tryz.f110 ?_
 unfold sH at hm
 refine z ?_
 refine zd ?_ ?_<;>intro h1
 rw[Th h1] at hm
 cases hm
 exact fc
 rw[Ti h1] at hm
 cases hm
 exact fc
def lb (u:Int):Option Int:=(dV (u.tdiv 10000)).bind fun _=>if u.tmod 10000<0 then(dV (u.tdiv 10000-1)).bind fun _=>some (u.tdiv 10000-1) else some (u.tdiv 10000)
theorem u9 {u r:Int} (hm:lb u=some r):Has Tryz.prog 157 [.int .i64 u] fun s=>s= .int .i64 r:=by
 refine hs ae Tryz.f157 ?_
 unfold lb at hm
 refine z ?_
 obtain⟨hg1,hm⟩:=ah hm
 refine z ?_
 refine zd ?_ ?_<;>intro h2
 rw[Th h2] at hm
 obtain⟨hg3,hm⟩:=ah hm
 refine z ?_
 cases hm
 exact fc
 rw[Ti h2] at hm
 cases hm
 exact fc
def uX (v:List UInt8):List (List UInt8)->Int->Option Int
 |[],_=>some (-1)
 |x::r,i=>if v=x then some i else uX v r (i+1)
def OW (l:List (List UInt8)) (v:List UInt8):Option Int:=(aN l).bind fun _=>uX v l 0
theorem OV {l:List (List UInt8)} {v:List UInt8} {r:Int} (hm:OW l v=some r):Has Tryz.prog 199 [.aE false (l.map lj),.str v] fun s=>s= .int .i64 r:=by
 refine hs ae Tryz.f199 ?_
 unfold OW at hm
 refine z ?_
 obtain⟨hg1,hm⟩:=ah hm
 refine lg (α:=Nat) ae (fun iw=>(uX v (List.drop iw l) (iw:Int)=some r,⟨19,[(8,.int .i64 iw),(7,.int .i64 ↑l.length),(4,.int .i64 0),(0,.aE false (List.map lj l)),(1,.str v)]⟩,⟨[],0,0,[],[]⟩,List.length l-iw)) ⟨(0),hm⟩ ?_
 intro i2 hq2
 dsimp only at hq2
 refine z ?_
 refine zd ?_ ?_<;>intro h3
 obtain⟨x3,ex3,ed3⟩:=an h3
 rw[ed3,uX] at hq2
 refine z ?_
 refine bq ex3 rfl (z ?_)
 refine zd ?_ ?_<;>intro h4
 rw[Th h4] at hq2
 cases hq2
 exact fc
 rw[Ti h4] at hq2
 exact bk ⟨i2+1,hq2⟩
 rw[aq h3,uX] at hq2
 cases hq2
 exact fc
def IW (l:List (List UInt8)) (v:List UInt8):Option Bool:=(OW l v).bind fun i=>some (decide (i>=0))
theorem PC {l:List (List UInt8)} {v:List UInt8} {r:Bool} (hm:IW l v=some r):Has Tryz.prog 156 [.aE false (l.map lj),.str v] fun s=>s= .bool r:=by
 refine hs ae Tryz.f156 ?_
 unfold IW at hm
 refine z ?_
 obtain⟨v1,e1,hm⟩:=aa hm
 refine ce (OV e1) (z ?_)
 cases hm
 exact fc
def od (s:List UInt8):Nat->Int->List ba->Option (List ba)
 |0,_,out=>some out
 |n+1,i,out=>(cN s i).bind fun b=>(push out ⟨false,[⟨b.toNat,b.toNat,i+1⟩]⟩).bind fun out=>od s n (i+1) out
def oa (s:List UInt8):Option (List ba):=(aN s).bind fun _=>(od s s.length 0 []).bind fun out=>push out ⟨true,[]⟩
theorem Fy {s:List UInt8} {r:List ba} (hm:oa s=some r):Has Tryz.prog 62 [.str s] fun v=>v= .agg [aA r]:=by
 refine hs ae Tryz.f62 ?_
 unfold oa at hm
 refine z ?_
 obtain⟨hg1,hm⟩:=ah hm
 obtain⟨v2,hv2,hm⟩:=aa hm
 refine bJ 1 0 2 rfl rfl ?_
 refine lg (α:=Nat×List ba×Nat) ae (fun(iw,s1,ts1)=>(od s (s.length-iw) (iw:Int) s1=some v2,⟨34,[(7,.int .i64 iw),(6,.int .i64 ↑s.length),(3,.ptr 1 0),(2,.ptr 0 0),(0,.str s)]⟩,⟨[(2,.row 2 (s1.map ic) ts1 false),(1,.cells [.own 2 ts1]),(0,.cells [.ax])],3,0,[],[]⟩,s.length-iw)) ⟨(0,_,(0)),hv2⟩ ?_
 rintro⟨i2,s1_2,ts1_2⟩ hq2
 dsimp only at hq2
 refine z ?_
 refine zd ?_ ?_<;>intro h3
 have h3':(i2:Int)<(((s.length):Nat):Int):=by(try simp only[Tr,Ty,Tx,Tt] at h3);omega
 rw[c9 h3',od] at hq2
 refine z ?_
 refine dg ae [0,1,0,0,12,0,0,96,0,256,1020,2044,4092,8188,16383,32767,65535] [⟨16,0,0,[1]⟩,⟨14,0,0,[2]⟩,⟨13,0,0,[3]⟩] (z ?_)
 obtain⟨j6,x6,en6,ex6,hq2⟩:=av hq2
 refine⟨_,_,en6,ex6,?_⟩
 refine z ?_
 refine⟨_,_,en6,ex6,?_⟩
 refine z ?_
 obtain⟨hg7,hq2⟩:=ay hq2
 refine z ?_
 refine aH ({acc:=false,aF:=[{lo:=↑x6.toNat,hi:=↑x6.toNat,to:=↑i2+1}]}) rfl (z ?_)
 exact bk ⟨(i2+1,_,(ts1_2+1)),hq2⟩
 have h3':¬(i2:Int)<(((s.length):Nat):Int):=by(try simp only[Tr,Ty,Tx,Tt] at h3);omega
 rw[c8 h3',od] at hq2
 cases hq2
 refine z ?_
 replace hm:=aB hm
 obtain⟨hg9,hm⟩:=ay hm
 refine z ?_
 refine aH ({acc:=true,aF:=[]}) rfl (z ?_)
 cases hm
 refine dy (z ?_)
 first|exact e2|exact rfl
def jk (d:cJ aO):Option Bool:=if d.str=[] then if(d.items.length:Int)=0 then some (decide ((d.members.length:Int)=0)) else some false else some false
def jL (d:cJ aO):Option Bool:=(aN d.items).bind fun _=>(aN d.members).bind fun _=>
 if d.kind=2 then jk d else if d.kind=3 then jk d else
 if d.kind=4 then if d.num=0 then if(d.items.length:Int)=0 then some (decide ((d.members.length:Int)=0)) else some false else some false else
 if d.kind=5 then if d.num=0 then if d.str=[] then some (decide ((d.members.length:Int)=0)) else some false else some false else
 if d.kind=6 then if d.num=0 then if d.str=[] then if(d.items.length:Int)=0 then some true else some false else some false else some false else
 if d.kind=1 then if d.num=0 then jk d else some false else some false
theorem KX {d:cJ aO} {r:Bool} (hm:jL d=some r):Has Tryz.prog 109 [.agg (iF de d)] fun s=>s= .bool r:=by
 refine hs ae Tryz.f109 ?_
 unfold jL at hm
 refine z ?_
 refine dg ae [0,1,3,0,8,24,0,64,192,448,0,1024,3072,7168,7,16447,50175,131071] [] (z ?_)
 obtain⟨hg1,hm⟩:=ah hm
 obtain⟨hg2,hm⟩:=ah hm
 refine zd ?_ ?_<;>intro h3
 rw[Th h3] at hm
 unfold jk at hm
 refine z ?_
 refine zd ?_ ?_<;>intro h4
 rw[Th h4] at hm
 refine zd ?_ ?_<;>intro h5
 rw[Th h5] at hm
 cases hm
 exact fc
 rw[Ti h5] at hm
 cases hm
 exact fc
 rw[Ti h4] at hm
 cases hm
 exact fc
 rw[Ti h3] at hm
 refine zd ?_ ?_<;>intro h6
 rw[Th h6] at hm
 unfold jk at hm
 refine z ?_
 refine zd ?_ ?_<;>intro h7
 rw[Th h7] at hm
 refine zd ?_ ?_<;>intro h8
 rw[Th h8] at hm
 cases hm
 exact fc
 rw[Ti h8] at hm
 cases hm
 exact fc
 rw[Ti h7] at hm
 cases hm
 exact fc
 rw[Ti h6] at hm
 refine zd ?_ ?_<;>intro h9
 rw[Th h9] at hm
 refine zd ?_ ?_<;>intro h10
 rw[Th h10] at hm
 refine zd ?_ ?_<;>intro h11
 rw[Th h11] at hm
 cases hm
 exact fc
 rw[Ti h11] at hm
 cases hm
 exact fc
 rw[Ti h10] at hm
 cases hm
 exact fc
 rw[Ti h9] at hm
 refine zd ?_ ?_<;>intro h12
 rw[Th h12] at hm
 refine zd ?_ ?_<;>intro h13
 rw[Th h13] at hm
 refine zd ?_ ?_<;>intro h14
 rw[Th h14] at hm
 cases hm
 exact fc
 rw[Ti h14] at hm
 cases hm
 exact fc
 rw[Ti h13] at hm
 cases hm
 exact fc
 rw[Ti h12] at hm
 refine zd ?_ ?_<;>intro h15
 rw[Th h15] at hm
 refine zd ?_ ?_<;>intro h16
 rw[Th h16] at hm
 refine zd ?_ ?_<;>intro h17
 rw[Th h17] at hm
 refine zd ?_ ?_<;>intro h18
 rw[Th h18] at hm
 cases hm
 exact fc
 rw[Ti h18] at hm
 cases hm
 exact fc
 rw[Ti h17] at hm
 cases hm
 exact fc
 rw[Ti h16] at hm
 cases hm
 exact fc
 rw[Ti h15] at hm
 refine zd ?_ ?_<;>intro h19
 rw[Th h19] at hm
 refine zd ?_ ?_<;>intro h20
 rw[Th h20] at hm
 unfold jk at hm
 refine z ?_
 refine zd ?_ ?_<;>intro h21
 rw[Th h21] at hm
 refine zd ?_ ?_<;>intro h22
 rw[Th h22] at hm
 cases hm
 exact fc
 rw[Ti h22] at hm
 cases hm
 exact fc
 rw[Ti h21] at hm
 cases hm
 exact fc
 rw[Ti h20] at hm
 cases hm
 exact fc
 rw[Ti h19] at hm
 cases hm
 exact fc
def hN (l:List (Mem aO)):Nat->Int->Option Int
 |0,_=>none
 |n+1,i=>if i<(l.length:Int) then(dV (i-1)).bind fun _=>(cN l (i-1)).bind fun x=>(cN l i).bind fun y=>if Op.bytesLess x.label y.label then hN l n (i+1) else some 6 else some 0
def qX (d:cJ aO):Option Int:=(jL d).bind fun ok=>if ok then
  if d.kind=2 then if d.num=0 then(aN d.members).bind fun _=>hN d.members (d.members.length+1) 1 else if d.num=1 then(aN d.members).bind fun _=>hN d.members (d.members.length+1) 1 else some 1
  else if d.kind=3 then(sH d.num).bind fun ok=>if ok then(aN d.members).bind fun _=>hN d.members (d.members.length+1) 1 else some 1
  else(aN d.members).bind fun _=>hN d.members (d.members.length+1) 1
 else some 11
theorem Oq {d:cJ aO} {r:Int} (hm:qX d=some r):Has Tryz.prog 79 [.agg (iF de d)] fun s=>s= .int .i64 r:=by
 refine hs ae Tryz.f79 ?_
 unfold qX at hm
 refine z ?_
 obtain⟨v1,e1,hm⟩:=aa hm
 refine ce (KX e1) (z ?_)
 refine zm ?_ ?_<;>intro h2
 rw[Ti (nt h2)] at hm
 cases hm
 exact fc
 rw[Th h2] at hm
 refine zd ?_ ?_<;>intro h3
 rw[Th h3] at hm
 refine zn ?_ ?_<;>intro h4
 rw[Ti h4] at hm
 refine zn ?_ ?_<;>intro h5
 rw[Ti h5] at hm
 cases hm
 exact fc
 rw[Th h5] at hm
 obtain⟨hg6,hm⟩:=ah hm
 have h7:¬((d.kind:Int)=3):=by omega
 refine Ax h7 (z ?_)
 refine lg (α:=Nat×Int) ae (fun(nw,s1)=>(hN d.members nw s1=some r,⟨54,[(3,.int .i64 s1),(2,.int .i64 0),(1,.ptr 0 0)]⟩,⟨[(0,.cells (iF de d))],1,0,[],[]⟩,nw)) ⟨(_,_),hm⟩ ?_
 rintro⟨n8,s1_8⟩ hq8
 dsimp only at hq8
 rcases n8 with _|n8
 (unfold hN at hq8;cases hq8)
 unfold hN at hq8
 refine z ?_
 refine zd ?_ ?_<;>intro h9
 rw[Th h9] at hq8
 refine dg ae [0,1,0,4,15,31,63,0,128,0,896,1920,3968,8191] [] (z ?_)
 obtain⟨hg10,hq8⟩:=ah hq8
 refine z ?_
 obtain⟨j12,x12,en12,ex12,hq8⟩:=av hq8
 refine bI (bB _) en12 ex12 rfl (z ?_)
 obtain⟨j13,x13,en13,ex13,hq8⟩:=av hq8
 refine bI (bB _) en13 ex13 rfl (z ?_)
 refine zm ?_ ?_<;>intro h14
 rw[Ti (nt h14)] at hq8
 cases hq8
 exact fc
 rw[Th h14] at hq8
 exact bk ⟨(n8,_),hq8⟩
 rw[Ti h9] at hq8
 cases hq8
 exact fc
 rw[Th h4] at hm
 obtain⟨hg15,hm⟩:=ah hm
 have h16:¬((d.kind:Int)=3):=by omega
 refine Ax h16 (z ?_)
 refine lg (α:=Nat×Int) ae (fun(nw,s1)=>(hN d.members nw s1=some r,⟨54,[(3,.int .i64 s1),(2,.int .i64 0),(1,.ptr 0 0)]⟩,⟨[(0,.cells (iF de d))],1,0,[],[]⟩,nw)) ⟨(_,_),hm⟩ ?_
 rintro⟨n17,s1_17⟩ hq17
 dsimp only at hq17
 rcases n17 with _|n17
 (unfold hN at hq17;cases hq17)
 unfold hN at hq17
 refine z ?_
 refine zd ?_ ?_<;>intro h18
 rw[Th h18] at hq17
 refine dg ae [0,1,0,4,15,31,63,0,128,0,896,1920,3968,8191] [] (z ?_)
 obtain⟨hg19,hq17⟩:=ah hq17
 refine z ?_
 obtain⟨j21,x21,en21,ex21,hq17⟩:=av hq17
 refine bI (bB _) en21 ex21 rfl (z ?_)
 obtain⟨j22,x22,en22,ex22,hq17⟩:=av hq17
 refine bI (bB _) en22 ex22 rfl (z ?_)
 refine zm ?_ ?_<;>intro h23
 rw[Ti (nt h23)] at hq17
 cases hq17
 exact fc
 rw[Th h23] at hq17
 exact bk ⟨(n17,_),hq17⟩
 rw[Ti h18] at hq17
 cases hq17
 exact fc
 rw[Ti h3] at hm
 refine zd ?_ ?_<;>intro h24
 rw[Th h24] at hm
 obtain⟨v25,e25,hm⟩:=aa hm
 refine ce (GI e25) (z ?_)
 refine zm ?_ ?_<;>intro h26
 rw[Ti (nt h26)] at hm
 cases hm
 exact fc
 rw[Th h26] at hm
 obtain⟨hg27,hm⟩:=ah hm
 refine lg (α:=Nat×Int) ae (fun(nw,s1)=>(hN d.members nw s1=some r,⟨54,[(3,.int .i64 s1),(2,.int .i64 0),(1,.ptr 0 0)]⟩,⟨[(0,.cells (iF de d))],1,0,[],[]⟩,nw)) ⟨(_,_),hm⟩ ?_
 rintro⟨n28,s1_28⟩ hq28
 dsimp only at hq28
 rcases n28 with _|n28
 (unfold hN at hq28;cases hq28)
 unfold hN at hq28
 refine z ?_
 refine zd ?_ ?_<;>intro h29
 rw[Th h29] at hq28
 refine dg ae [0,1,0,4,15,31,63,0,128,0,896,1920,3968,8191] [] (z ?_)
 obtain⟨hg30,hq28⟩:=ah hq28
 refine z ?_
 obtain⟨j32,x32,en32,ex32,hq28⟩:=av hq28
 refine bI (bB _) en32 ex32 rfl (z ?_)
 obtain⟨j33,x33,en33,ex33,hq28⟩:=av hq28
 refine bI (bB _) en33 ex33 rfl (z ?_)
 refine zm ?_ ?_<;>intro h34
 rw[Ti (nt h34)] at hq28
 cases hq28
 exact fc
 rw[Th h34] at hq28
 exact bk ⟨(n28,_),hq28⟩
 rw[Ti h29] at hq28
 cases hq28
 exact fc
 rw[Ti h24] at hm
 obtain⟨hg35,hm⟩:=ah hm
 refine lg (α:=Nat×Int) ae (fun(nw,s1)=>(hN d.members nw s1=some r,⟨54,[(3,.int .i64 s1),(2,.int .i64 0),(1,.ptr 0 0)]⟩,⟨[(0,.cells (iF de d))],1,0,[],[]⟩,nw)) ⟨(_,_),hm⟩ ?_
 rintro⟨n36,s1_36⟩ hq36
 dsimp only at hq36
 rcases n36 with _|n36
 (unfold hN at hq36;cases hq36)
 unfold hN at hq36
 refine z ?_
 refine zd ?_ ?_<;>intro h37
 rw[Th h37] at hq36
 refine dg ae [0,1,0,4,15,31,63,0,128,0,896,1920,3968,8191] [] (z ?_)
 obtain⟨hg38,hq36⟩:=ah hq36
 refine z ?_
 obtain⟨j40,x40,en40,ex40,hq36⟩:=av hq36
 refine bI (bB _) en40 ex40 rfl (z ?_)
 obtain⟨j41,x41,en41,ex41,hq36⟩:=av hq36
 refine bI (bB _) en41 ex41 rfl (z ?_)
 refine zm ?_ ?_<;>intro h42
 rw[Ti (nt h42)] at hq36
 cases hq36
 exact fc
 rw[Th h42] at hq36
 exact bk ⟨(n36,_),hq36⟩
 rw[Ti h37] at hq36
 cases hq36
 exact fc
def Nr:List (Mem aO)->List aO->Option (List aO)
 |[],out=>some out
 |m::r,out=>(push out m.data).bind fun out=>Nr r out
def pc (d:cJ aO):Option (List aO):=(aN d.items).bind fun _=>(aN d.members).bind fun _=>Nr d.members d.items
theorem I1 {d:cJ aO} {r:List aO} (hm:pc d=some r):Has Tryz.prog 80 [.agg (iF de d)] fun s=>s= .aE false (r.map de):=by
 obtain⟨k,n,s,items,m⟩:=d
 rcases items with _|⟨x,items⟩
 change Has Tryz.prog _ [.agg [.int .i64 k,.int .i64 n,.str s,.aE false [],.aE false (List.map (jF de) m)]] _
 refine hs ae Tryz.f80 ?_
 unfold pc at hm
 dsimp only at hm
 refine z ?_
 refine ce w7 (z ?_)
 obtain⟨hg1,hm⟩:=ah hm
 obtain⟨hg2,hm⟩:=ah hm
 refine Eu 3 5 rfl ?_
 refine lg (α:=Nat×List aO×Nat) ae (fun(iw,s1,ts1)=>(Nr (List.drop iw m) s1=some r,⟨23,[(3,.own 1 ts1),(12,.int .i64 iw),(11,.int .i64 ↑m.length),(10,.aE false (List.map (jF de) m)),(2,.ax)]⟩,⟨[(1,.row 5 (s1.map de) ts1 false),(0,.cells [.int .i64 k,.int .i64 n,.str s,.aE false [],.aE false (List.map (jF de) m)])],2,0,[],[]⟩,List.length m-iw)) ⟨(0,_,(0)),hm⟩ ?_
 rintro⟨i3,s1_3,ts1_3⟩ hq3
 dsimp only at hq3
 refine z ?_
 refine zd ?_ ?_<;>intro h4
 obtain⟨x4,ex4,ed4⟩:=an h4
 rw[ed4,Nr] at hq3
 refine z ?_
 refine bC (bB _) ex4 rfl (z ?_)
 obtain⟨hg5,hq3⟩:=ay hq3
 refine z ?_
 refine aH x4.data (cK _) (z ?_)
 exact bk ⟨(i3+1,_,(ts1_3+1)),hq3⟩
 rw[aq h4,Nr] at hq3
 cases hq3
 refine dy (z ?_)
 first|exact e2|exact rfl
 change Has Tryz.prog _ [.agg [.int .i64 k,.int .i64 n,.str s,.aE false (List.map de (x::items)),.aE false (List.map (jF de) m)]] _
 refine hs ae Tryz.f80 ?_
 unfold pc at hm
 dsimp only at hm
 refine z ?_
 refine ci ae Tryz.f111 (z ?_)
 obtain⟨hg1,hm⟩:=ah hm
 obtain⟨hg2,hm⟩:=ah hm
 refine z ?_
 refine Ay (z ?_)
 refine ei (z ?_)
 refine lg (α:=Nat×List aO×Nat) ae (fun(iw,s1,ts1)=>(Nr (List.drop iw m) s1=some r,⟨23,[(12,.int .i64 iw),(11,.int .i64 ↑m.length),(10,.aE false (List.map (jF de) m)),(3,.own 1 ts1),(2,.ax)]⟩,⟨[(1,.row 5 (s1.map de) ts1 false),(0,.cells [.int .i64 k,.int .i64 n,.str s,.aE false (List.map de (x::items)),.aE false (List.map (jF de) m)])],2,0,[],[]⟩,List.length m-iw)) ⟨(0,_,(1)),hm⟩ ?_
 rintro⟨i3,s1_3,ts1_3⟩ hq3
 dsimp only at hq3
 refine z ?_
 refine zd ?_ ?_<;>intro h4
 obtain⟨x4,ex4,ed4⟩:=an h4
 rw[ed4,Nr] at hq3
 refine z ?_
 refine bC (bB _) ex4 rfl (z ?_)
 obtain⟨hg5,hq3⟩:=ay hq3
 refine z ?_
 refine aH x4.data (cK _) (z ?_)
 exact bk ⟨(i3+1,_,(ts1_3+1)),hq3⟩
 rw[aq h4,Nr] at hq3
 cases hq3
 refine dy (z ?_)
 first|exact e2|exact rfl
def lp (rec:aO->Int->Option Int) (level:Int):List aO->Option Int
 |[]=>some 0
 |x::r=>(dV (level+1)).bind fun _=>(rec x (level+1)).bind fun e=>if e=0 then lp rec level r else some e
def jv:Nat->aO->Int->Option Int
 |0,_,_=>none
 |n+1,d,level=>if level>16 then some 9 else(qX d.c).bind fun e=>if e=0 then(pc d.c).bind fun l=>(aN l).bind fun _=>lp (jv n) level l else some e
theorem I2:∀{n:Nat} {d:aO} {level r:Int} (hm:jv n d level=some r),Has Tryz.prog 46 [.agg (cw d),.int .i64 level] fun s=>s= .int .i64 r:=by
 intro n
 induction n with
 |zero=>intro d level r hm;cases hm
 |succ n ih=>
  intro d level r hm
  refine hs ae Tryz.f46 ?_
  unfold jv at hm
  refine z ?_
  refine zd ?_ ?_<;>intro h1
  ·rw[Th h1] at hm
   cases hm
   exact fc
  ·rw[Ti h1] at hm
   obtain⟨v2,e2,hm⟩:=aa hm
   refine ce (Oq e2) (z ?_)
   refine zn ?_ ?_<;>intro h3
   ·rw[Ti h3] at hm
    cases hm
    exact fc
   ·rw[Th h3] at hm
    obtain⟨v4,e4,hm⟩:=aa hm
    refine ce (I1 e4) (z ?_)
    obtain⟨hg5,hm⟩:=ah hm
    refine lg (α:=Nat) ae (fun iw=>(lp (jv n) level (List.drop iw v4)=some r,⟨31,[(19,.int .i64 iw),(18,.int .i64 ↑v4.length),(17,.aE false (List.map de v4)),(4,.int .i64 0),(1,.int .i64 level)]⟩,⟨[(0,.cells (cw d))],1,0,[],[]⟩,List.length v4-iw)) ⟨(0),hm⟩ ?_
    intro i6 hq6
    dsimp only at hq6
    refine z ?_
    refine zd ?_ ?_<;>intro h7
    ·obtain⟨x7,ex7,ed7⟩:=an h7
     rw[ed7,lp] at hq6
     refine z ?_
     obtain⟨hg8,hq6⟩:=ah hq6
     refine bC (cK _) ex7 rfl (z ?_)
     obtain⟨v9,e9,hq6⟩:=aa hq6
     refine ce (ih e9) (z ?_)
     refine zn ?_ ?_<;>intro h10
     ·rw[Ti h10] at hq6
      cases hq6
      exact fc
     ·rw[Th h10] at hq6
      exact bk ⟨i6+1,hq6⟩
    ·rw[aq h7,lp] at hq6
     cases hq6
     exact fc
def lU (d:aO):Option Int:=jv 18 d 1
theorem As {d:aO} {r:Int} (hm:lU d=some r):Has Tryz.prog 32 [.agg (cw d)] fun s=>s= .int .i64 r:=by
 refine hs ae Tryz.f32 ?_
 unfold lU at hm
 refine z ?_
 replace hm:=aB hm
 obtain⟨v1,e1,hm⟩:=aa hm
 refine ce (I2 e1) (z ?_)
 cases hm
 exact fc
abbrev sEq:List UInt8:=[61,61]
def opsN:List (List UInt8):=[[60],[60,61],[62],[62,61],[61,61],[33,61]]
def pf (u:Int):Option (cO×Int):=(IW opsN sEq).bind fun c=>if c then(sH u).bind fun ok=>if ok then
  (dV (u-1)).bind fun _=>(lb (u-1)).bind fun f1=>(fG ⟨[⟨-100000000000,f1⟩],[⟨-1000000000000000,u-1⟩]⟩).bind fun less=>
  (dV (0-u)).bind fun _=>(lb (0-u)).bind fun g=>(dV (0-g)).bind fun _=>(lb u).bind fun h=>(fG ⟨[⟨0-g,h⟩],[⟨u,u⟩]⟩).bind fun one=>some (one,0)
 else some (⟨[],[]⟩,1) else some (⟨[],[]⟩,8)
theorem Jg {u:Int} {r:cO×Int} (hm:pf u=some r):bj Tryz.prog 126 [.str sEq,.int .i64 u] fun s=>s= .dT [.agg (cM r.1),.int .i64 r.2]:=by
 refine ht ae Tryz.f126 ?_
 unfold pf at hm
 refine z ?_
 obtain⟨v1,e1,hm⟩:=aa hm
 refine cm (PC e1) rfl (z ?_)
 refine zm ?_ ?_<;>intro h2
 rw[Ti (nt h2)] at hm
 cases hm
 refine aV (z ?_)
 exact mt
 rw[Th h2] at hm
 obtain⟨v3,e3,hm⟩:=aa hm
 refine ce (GI e3) (z ?_)
 refine zm ?_ ?_<;>intro h4
 rw[Ti (nt h4)] at hm
 cases hm
 refine aV (z ?_)
 exact mt
 rw[Th h4] at hm
 obtain⟨hg5,hm⟩:=ah hm
 refine z ?_
 obtain⟨v7,e7,hm⟩:=aa hm
 refine ce (u9 e7) (z ?_)
 obtain⟨v8,e8,hm⟩:=aa hm
 refine bH (fu e8) (z ?_)
 obtain⟨hg9,hm⟩:=ah hm
 obtain⟨v10,e10,hm⟩:=aa hm
 refine ce (u9 e10) (z ?_)
 obtain⟨hg11,hm⟩:=ah hm
 refine z ?_
 obtain⟨v13,e13,hm⟩:=aa hm
 refine ce (u9 e13) (z ?_)
 obtain⟨v14,e14,hm⟩:=aa hm
 refine bH (fu e14) (z ?_)
 cases hm
 exact mst
def vP (s:List UInt8):Option (List ba×Int):=(oa s).bind fun l=>some (l,0)
theorem Jh {s:List UInt8} {r:List ba×Int} (hm:vP s=some r):bj Tryz.prog 127 [.str sEq,.str s] fun v=>v= .dT [.agg [aA r.1],.int .i64 r.2]:=by
 refine ht ae Tryz.f127 ?_
 unfold vP at hm
 refine z ?_
 obtain⟨v1,e1,hm⟩:=aa hm
 refine ce (Fy e1) (z ?_)
 cases hm
 exact mst
def Rp (n:cO):bX:=⟨false,false,false,n.ints,n.bz,[]⟩
def scL (l:List ba):bX:=⟨false,false,false,[],[],l⟩
def jK (d:cJ aO):Option (bX×Int):=if d.kind=3 then(pf d.num).bind fun p=>some (Rp p.1,p.2) else(vP d.str).bind fun p=>some (scL p.1,p.2)
theorem uf {d:cJ aO} {r:bX×Int} (hm:jK d=some r):bj Tryz.prog 97 [.str sEq,.agg (iF de d)] fun v=>v= .dT [.agg (cr r.1),.int .i64 r.2]:=by
 refine ht ae Tryz.f97 ?_
 unfold jK at hm
 refine z ?_
 refine zd ?_ ?_<;>intro h1
 rw[Th h1] at hm
 obtain⟨v2,e2,hm⟩:=aa hm
 refine ct (Jg e2) (z ?_)
 cases hm
 refine aV (z ?_)
 exact mt
 rw[Ti h1] at hm
 obtain⟨v3,e3,hm⟩:=aa hm
 refine ct (Jh e3) (z ?_)
 cases hm
 refine aV (z ?_)
 exact mt
def AP (d:aO):Option (bX×Int):=(lU d).bind fun e=>if e=0 then
  if d.c.kind=1 then some (⟨true,false,false,[],[],[]⟩,0) else
  if d.c.kind=2 then some (⟨false,decide (d.c.num=0),decide (d.c.num=1),[],[],[]⟩,0) else
  if d.c.kind=3 then jK d.c else if d.c.kind=4 then jK d.c else some (bw,11)
 else some (bw,e)
theorem Em {d:aO} {r:bX×Int} (hm:AP d=some r):bj Tryz.prog 64 [.agg (cw d)] fun v=>v= .dT [.agg (cr r.1),.int .i64 r.2]:=by
 refine ht ae Tryz.f64 ?_
 unfold AP at hm
 refine z ?_
 obtain⟨v1,e1,hm⟩:=aa hm
 refine ce (As e1) (z ?_)
 refine zn ?_ ?_<;>intro h2
 rw[Ti h2] at hm
 cases hm
 refine aV (z ?_)
 exact mt
 rw[Th h2] at hm
 refine zd ?_ ?_<;>intro h3
 rw[Th h3] at hm
 cases hm
 refine aV (z ?_)
 exact mt
 rw[Ti h3] at hm
 refine zd ?_ ?_<;>intro h4
 rw[Th h4] at hm
 cases hm
 refine aV (z ?_)
 exact mt
 rw[Ti h4] at hm
 refine zd ?_ ?_<;>intro h5
 rw[Th h5] at hm
 refine Jk h5 (z ?_)
 replace hm:=aB hm
 obtain⟨v6,e6,hm⟩:=aa hm
 refine ct (uf e6) (z ?_)
 cases hm
 exact mst
 rw[Ti h5] at hm
 refine zd ?_ ?_<;>intro h7
 rw[Th h7] at hm
 replace hm:=aB hm
 obtain⟨v8,e8,hm⟩:=aa hm
 refine ct (uf e8) (z ?_)
 cases hm
 exact mst
 rw[Ti h7] at hm
 cases hm
 refine aV (z ?_)
 exact mt
def iy (s:bX):Option Bool:=(oG ⟨s.ints,s.bz⟩).bind fun c=>if c then gC s.strs else some false
theorem mT {s:bX} {r:Bool} (hm:iy s=some r):bj Tryz.prog 147 [.agg (cr s)] fun v=>v= .bool r:=by
 refine ht ae Tryz.f147 ?_
 unfold iy at hm
 refine z ?_
 obtain⟨v1,e1,hm⟩:=aa hm
 refine ct (HG e1) (z ?_)
 refine zr ?_ ?_<;>intro h2
 rw[Th h2] at hm
 replace hm:=aB hm
 obtain⟨v3,e3,hm⟩:=aa hm
 refine ct (qL e3) (z ?_)
 cases hm
 exact mst
 rw[Ti (nt h2)] at hm
 cases hm
 exact mst
def mD (s:bX):Option bX:=(iy s).bind fun c=>if c then some s else some bw
theorem uY {s r:bX} (hm:mD s=some r):bj Tryz.prog 114 [.agg (cr s)] fun v=>v= .agg (cr r):=by
 refine ht ae Tryz.f114 ?_
 unfold mD at hm
 refine z ?_
 obtain⟨v1,e1,hm⟩:=aa hm
 refine ct (mT e1) (z ?_)
 refine zm ?_ ?_<;>intro h2
 rw[Ti (nt h2)] at hm
 cases hm
 refine aV (z ?_)
 exact mt
 rw[Th h2] at hm
 cases hm
 exact mst
def SZ:Option bX:=Jo.bind fun n=>MU.bind fun l=>some ⟨true,true,true,n.ints,n.bz,l⟩
theorem P9 {r:bX} (hm:SZ=some r):bj Tryz.prog 174 [] fun v=>v= .agg (cr r):=by
 refine ht ae Tryz.f174 ?_
 unfold SZ at hm
 refine z ?_
 obtain⟨v1,e1,hm⟩:=aa hm
 refine ce (Hf e1) (z ?_)
 obtain⟨v2,e2,hm⟩:=aa hm
 refine ce (Hg e2) (z ?_)
 cases hm
 exact mst
def combine (is:Bool->Bool->Option Bool) (ns:cO->cO->Option cO) (ls:List ba->List ba->Option (List ba)) (a b:bX):Option bX:=
 (mD a).bind fun a=>(mD b).bind fun b=>(is a.null b.null).bind fun x=>(is a.py b.py).bind fun y=>(is a.px b.px).bind fun z=>
 (ns ⟨a.ints,a.bz⟩ ⟨b.ints,b.bz⟩).bind fun n=>(ls a.strs b.strs).bind fun l=>some ⟨x,y,z,n.ints,n.bz,l⟩
theorem vD {fi fn fs:FuncId} {is:Bool->Bool->Option Bool} {ns:cO->cO->Option cO} {ls:List ba->List ba->Option (List ba)}
  (hi:∀{x y r},is x y=some r->Has Tryz.prog fi [.bool x,.bool y] fun s=>s= .bool r) (hn:∀{x y r},ns x y=some r->bj Tryz.prog fn [.agg (cM x),.agg (cM y)] fun s=>s= .agg (cM r))
  (hs:∀{x y r},ls x y=some r->bj Tryz.prog fs [.agg [aA x],.agg [aA y]] fun s=>s= .agg [aA r]) {a b r:bX} (hm:combine is ns ls a b=some r):
  bj Tryz.prog 87 [.agg (cr a),.agg (cr b),.func (.func fi) [] [],.func (.func fn) [] [],.func (.func fs) [] []] fun v=>v= .agg (cr r):=by
 refine ht ae Tryz.f87 ?_
 unfold combine at hm
 refine z ?_
 refine dg ae [0,1,0,7,15,31] [] (z ?_)
 obtain⟨v1,e1,hm⟩:=aa hm
 refine ct (uY e1) (z ?_)
 obtain⟨v2,e2,hm⟩:=aa hm
 refine ct (uY e2) (z ?_)
 refine dg ae [0,0,2,0,8,31,0,0,128,0,512,2047,0,0,8192,0,32768,131071,0,0,524288,0,2097152,8388607,0,0,33554432,0,134217728,536870911,1073741823,2147483647] [] (z ?_)
 obtain⟨v3,e3,hm⟩:=aa hm
 refine ce (hi e3) (z ?_)
 obtain⟨v4,e4,hm⟩:=aa hm
 refine ce (hi e4) (z ?_)
 obtain⟨v5,e5,hm⟩:=aa hm
 refine ce (hi e5) (z ?_)
 obtain⟨v6,e6,hm⟩:=aa hm
 refine ct (hn e6) (z ?_)
 obtain⟨v7,e7,hm⟩:=aa hm
 refine ct (hs e7) (z ?_)
 cases hm
 exact mst
theorem N5 {x y r:Bool} (hm:Io x y=some r):Has Tryz.prog 88 [.bool x,.bool y] fun s=>s= .bool r:=by
 refine hs ae Tryz.f88 ?_
 unfold Io at hm
 refine z ?_
 refine zr ?_ ?_<;>intro h1
 rw[Th h1] at hm
 cases hm
 exact fc
 rw[Ti (nt h1)] at hm
 cases hm
 exact fc
theorem D6 {x y r:Bool} (hm:oS x y=some r):Has Tryz.prog 143 [.bool x,.bool y] fun s=>s= .bool r:=by
 refine hs ae Tryz.f143 ?_
 unfold oS at hm
 refine z ?_
 refine zr ?_ ?_<;>intro h1
 rw[Th h1] at hm
 cases hm
 exact fc
 rw[Ti (nt h1)] at hm
 cases hm
 exact fc
def Rx (a b:bX):Option bX:=combine Io orN Im a b
theorem KP {a b r:bX} (hm:Rx a b=some r):bj Tryz.prog 57 [.agg (cr a),.agg (cr b)] fun v=>v= .agg (cr r):=by
 refine ht ae Tryz.f57 ?_
 unfold Rx at hm
 refine z ?_
 replace hm:=aB hm
 obtain⟨v1,e1,hm⟩:=aa hm
 refine ct (vD N5 Ry zG e1) (z ?_)
 cases hm
 exact mst
def uB (a b:bX):Option bX:=combine oS kZ mq a b
theorem Iw {a b r:bX} (hm:uB a b=some r):bj Tryz.prog 105 [.agg (cr a),.agg (cr b)] fun v=>v= .agg (cr r):=by
 refine ht ae Tryz.f105 ?_
 unfold uB at hm
 refine z ?_
 replace hm:=aB hm
 obtain⟨v1,e1,hm⟩:=aa hm
 refine ct (vD D6 q9 ny e1) (z ?_)
 cases hm
 exact mst
def nY (k n:Int) (s:List UInt8):aO:= .mk ⟨k,n,s,[],[]⟩
def jY (s:bX):Option (aO×Bool):=(mD s).bind fun s=>(iC ⟨s.ints,s.bz⟩).bind fun p=>(jn s.strs).bind fun q=>
 if s.null then some (nY 1 0 [],true) else if s.py then some (nY 2 0 [],true) else if s.px then some (nY 2 1 [],true) else
 if p.2 then some (nY 3 p.1 [],true) else if q.2 then some (nY 4 0 q.1,true) else some (nY 0 0 [],false)
theorem xW {s:bX} {r:aO×Bool} (hm:jY s=some r):bj Tryz.prog 101 [.agg (cr s)] fun v=>v= .dT [.agg (cw r.1),.bool r.2]:=by
 refine ht ae Tryz.f101 ?_
 unfold jY at hm
 refine z ?_
 obtain⟨v1,e1,hm⟩:=aa hm
 refine ct (uY e1) (z ?_)
 obtain⟨v2,e2,hm⟩:=aa hm
 refine ct (rf e2) (z ?_)
 obtain⟨v3,e3,hm⟩:=aa hm
 refine ct (rh e3) (z ?_)
 refine zr ?_ ?_<;>intro h4
 rw[Th h4] at hm
 cases hm
 refine aV (z ?_)
 exact mt
 rw[Ti (nt h4)] at hm
 refine zr ?_ ?_<;>intro h5
 rw[Th h5] at hm
 cases hm
 refine aV (z ?_)
 exact mt
 rw[Ti (nt h5)] at hm
 refine zr ?_ ?_<;>intro h6
 rw[Th h6] at hm
 cases hm
 refine aV (z ?_)
 exact mt
 rw[Ti (nt h6)] at hm
 refine zr ?_ ?_<;>intro h7
 rw[Th h7] at hm
 cases hm
 refine aV (z ?_)
 exact mt
 rw[Ti (nt h7)] at hm
 refine zr ?_ ?_<;>intro h8
 rw[Th h8] at hm
 cases hm
 refine aV (z ?_)
 exact mt
 rw[Ti (nt h8)] at hm
 cases hm
 refine aV (z ?_)
 exact mt
def iE (s:bX):Option Bool:=(jY s).bind fun p=>some (!p.2)
theorem nP {s:bX} {r:Bool} (hm:iE s=some r):bj Tryz.prog 70 [.agg (cr s)] fun v=>v= .bool r:=by
 refine ht ae Tryz.f70 ?_
 unfold iE at hm
 refine z ?_
 obtain⟨v1,e1,hm⟩:=aa hm
 refine ct (xW e1) (z ?_)
 cases hm
 exact mst
def dA (a b:bX):Option Bool:=(uB a b).bind fun s=>iE s
theorem oH {a b:bX} {r:Bool} (hm:dA a b=some r):bj Tryz.prog 74 [.agg (cr a),.agg (cr b)] fun v=>v= .bool r:=by
 refine ht ae Tryz.f74 ?_
 unfold dA at hm
 refine z ?_
 obtain⟨v1,e1,hm⟩:=aa hm
 refine ct (Iw e1) (z ?_)
 replace hm:=aB hm
 obtain⟨v2,e2,hm⟩:=aa hm
 refine ct (nP e2) (z ?_)
 cases hm
 exact mst
def gT (s:bX):Option (aO×Bool):=(jY s).bind fun p=>if p.2 then(AP p.1).bind fun q=>(dA s q.1).bind fun c=>if c then some (p.1,true) else some (nY 0 0 [],false) else some (nY 0 0 [],false)
theorem tH {s:bX} {r:aO×Bool} (hm:gT s=some r):bj Tryz.prog 69 [.agg (cr s)] fun v=>v= .dT [.agg (cw r.1),.bool r.2]:=by
 refine ht ae Tryz.f69 ?_
 unfold gT at hm
 refine z ?_
 obtain⟨v1,e1,hm⟩:=aa hm
 refine ct (xW e1) (z ?_)
 refine zm ?_ ?_<;>intro h2
 rw[Ti (nt h2)] at hm
 cases hm
 refine aV (z ?_)
 exact mt
 rw[Th h2] at hm
 obtain⟨v3,e3,hm⟩:=aa hm
 refine ct (Em e3) (z ?_)
 obtain⟨v4,e4,hm⟩:=aa hm
 refine ct (oH e4) (z ?_)
 refine zm ?_ ?_<;>intro h5
 rw[Ti (nt h5)] at hm
 cases hm
 refine aV (z ?_)
 exact mt
 rw[Th h5] at hm
 cases hm
 exact mst
def tri (a b:Bool) (k:Option Int):Option Int:=if(a==true&&(b==false&&true)) then some (-1) else if(a==false&&(b==true&&true)) then some 1 else k
def CY (a b:bX):Option Int:=(iy a).bind fun x=>if x then(iy b).bind fun y=>if y then
  tri a.null b.null (tri a.py b.py (tri a.px b.px ((SA ⟨a.ints,a.bz⟩ ⟨b.ints,b.bz⟩).bind fun c=>if c=0 then IY a.strs b.strs else some c)))
 else some 0 else some 0
theorem CX {a b:bX} {r:Int} (hm:CY a b=some r):bj Tryz.prog 173 [.agg (cr a),.agg (cr b)] fun v=>v= .int .i64 r:=by
 refine ht ae Tryz.f173 ?_
 unfold CY at hm
 refine z ?_
 obtain⟨v1,e1,hm⟩:=aa hm
 refine ct (mT e1) (z ?_)
 refine zm ?_ ?_<;>intro h2
 rw[Ti (nt h2)] at hm
 cases hm
 exact mst
 rw[Th h2] at hm
 obtain⟨v3,e3,hm⟩:=aa hm
 refine ct (mT e3) (z ?_)
 refine zm ?_ ?_<;>intro h4
 rw[Ti (nt h4)] at hm
 cases hm
 exact mst
 rw[Th h4] at hm
 unfold tri at hm
 refine z ?_
 refine bA ae ?_
 refine z ?_
 refine cA (j:=0) rfl ii (z ?_)
 refine zr ?_ ?_<;>intro h5
 rw[Th h5] at hm
 cases hm
 exact mst
 rw[Ti (nt h5)] at hm
 refine zr ?_ ?_<;>intro h6
 rw[Th h6] at hm
 cases hm
 exact mst
 rw[Ti (nt h6)] at hm
 refine bA ae ?_
 refine z ?_
 refine cA (j:=1) rfl ii (z ?_)
 refine zr ?_ ?_<;>intro h7
 rw[Th h7] at hm
 cases hm
 exact mst
 rw[Ti (nt h7)] at hm
 refine zr ?_ ?_<;>intro h8
 rw[Th h8] at hm
 cases hm
 exact mst
 rw[Ti (nt h8)] at hm
 refine bA ae ?_
 refine z ?_
 refine cA (j:=2) rfl ii (z ?_)
 refine zr ?_ ?_<;>intro h9
 rw[Th h9] at hm
 cases hm
 exact mst
 rw[Ti (nt h9)] at hm
 refine zr ?_ ?_<;>intro h10
 rw[Th h10] at hm
 cases hm
 exact mst
 rw[Ti (nt h10)] at hm
 refine bA ae ?_
 refine z ?_
 obtain⟨v11,e11,hm⟩:=aa hm
 refine ct (PI e11) (z ?_)
 refine zn ?_ ?_<;>intro h12
 rw[Ti h12] at hm
 cases hm
 exact mst
 rw[Th h12] at hm
 replace hm:=aB hm
 obtain⟨v13,e13,hm⟩:=aa hm
 refine ct (Al e13) (z ?_)
 cases hm
 exact mst
abbrev zV:bG Va:=QQ Va
abbrev pv:Va:= .mk (QQ Va) (QQ Va)
def rZ (s:bX):Option Bool:=if s.null then some false else if s.py then some false else if s.px then some false else
 (aN s.ints).bind fun _=>(aN s.bz).bind fun _=>(aN s.strs).bind fun _=>some (decide ((s.ints.length:Int)+s.bz.length+s.strs.length=0))
theorem BW {s:bX} {r:Bool} (hm:rZ s=some r):Has Tryz.prog 100 [.agg (cr s)] fun v=>v= .bool r:=by
 refine hs ae Tryz.f100 ?_
 unfold rZ at hm
 refine z ?_
 refine zm ?_ ?_<;>intro h1
 rw[Ti (nt h1)] at hm
 refine zm ?_ ?_<;>intro h2
 rw[Ti (nt h2)] at hm
 refine zm ?_ ?_<;>intro h3
 rw[Ti (nt h3)] at hm
 obtain⟨hg4,hm⟩:=ah hm
 obtain⟨hg5,hm⟩:=ah hm
 obtain⟨hg6,hm⟩:=ah hm
 refine z ?_
 cases hm
 exact fc
 rw[Th h3] at hm
 cases hm
 exact fc
 rw[Th h2] at hm
 cases hm
 exact fc
 rw[Th h1] at hm
 cases hm
 exact fc
def iL (v:bG Va):Option Bool:=if v.any then some false else(aN v.lists).bind fun _=>(aN v.structs).bind fun _=>
 if(v.lists.length:Int)+v.structs.length=0 then(rZ v.sc).bind fun c=>if c then some true else iE v.sc else some false
theorem kE {v:bG Va} {r:Bool} (hm:iL v=some r):bj Tryz.prog 68 [.agg (cj aL v)] fun s=>s= .bool r:=by
 refine ht ae Tryz.f68 ?_
 unfold iL at hm
 refine z ?_
 refine zm ?_ ?_<;>intro h1
 rw[Ti (nt h1)] at hm
 obtain⟨hg2,hm⟩:=ah hm
 obtain⟨hg3,hm⟩:=ah hm
 refine z ?_
 refine zd ?_ ?_<;>intro h4
 rw[Th h4] at hm
 obtain⟨v5,e5,hm⟩:=aa hm
 refine ce (BW e5) (z ?_)
 refine zr ?_ ?_<;>intro h6
 rw[Th h6] at hm
 cases hm
 exact mst
 rw[Ti (nt h6)] at hm
 replace hm:=aB hm
 obtain⟨v7,e7,hm⟩:=aa hm
 refine ct (nP e7) (z ?_)
 cases hm
 exact mst
 rw[Ti h4] at hm
 cases hm
 exact mst
 rw[Th h1] at hm
 cases hm
 exact mst
def Gx (x:Va):Option Bool:=if x.v.any then some x.d.any else some false
theorem Ci {x:Va} {r:Bool} (hm:Gx x=some r):Has Tryz.prog 217 [.agg (eo x)] fun s=>s= .bool r:=by
 refine hs ae Tryz.f217 ?_
 unfold Gx at hm
 refine z ?_
 refine zr ?_ ?_<;>intro h1
 rw[Th h1] at hm
 cases hm
 exact fc
 rw[Ti (nt h1)] at hm
 cases hm
 exact fc
def plain (v:bG Va):Option Va:=some (.mk v v)
theorem ku {v:bG Va} {r:Va} (hm:plain v=some r):Has Tryz.prog 21 [.agg (cj aL v)] fun s=>s= .agg (eo r):=by
 refine hs ae Tryz.f21 ?_
 unfold plain at hm
 refine z ?_
 cases hm
 exact fc
def Q8:Option Va:=plain ⟨true,bw,[],[]⟩
theorem NW {r:Va} (hm:Q8=some r):Has Tryz.prog 25 [] fun s=>s= .agg (eo r):=by
 refine hs ae Tryz.f25 ?_
 unfold Q8 at hm
 refine z ?_
 replace hm:=aB hm
 obtain⟨v1,e1,hm⟩:=aa hm
 refine ce (ku e1) (z ?_)
 cases hm
 exact fc
def item (c:bg Va) (i:Int):Option (Va×Bool):=if i>=0 then(aN c.items).bind fun _=>if i<(c.items.length:Int) then(cN c.items i).bind fun x=>some (x,true)
  else(aN c.rest).bind fun _=>if(c.rest.length:Int)>0 then(cN c.rest 0).bind fun x=>some (x,true) else some (pv,false)
 else some (pv,false)
theorem zY {c:bg Va} {i:Int} {r:Va×Bool} (hm:item c i=some r):Has Tryz.prog 82 [.agg (aQ aL c),.int .i64 i] fun s=>s= .dT [.agg (eo r.1),.bool r.2]:=by
 refine hs ae Tryz.f82 ?_
 unfold item at hm
 refine z ?_
 refine zd ?_ ?_<;>intro h1
 rw[Th h1] at hm
 obtain⟨hg2,hm⟩:=ah hm
 refine zd ?_ ?_<;>intro h3
 rw[Th h3] at hm
 obtain⟨j4,x4,en4,ex4,hm⟩:=av hm
 refine bI (cP _) en4 ex4 rfl (z ?_)
 cases hm
 exact fc
 rw[Ti h3] at hm
 obtain⟨hg5,hm⟩:=ah hm
 refine Jk h1 (z ?_)
 refine zd ?_ ?_<;>intro h6
 rw[Th h6] at hm
 obtain⟨j7,x7,en7,ex7,hm⟩:=av hm
 refine bI (cP _) en7 ex7 rfl (z ?_)
 cases hm
 exact fc
 rw[Ti h6] at hm
 cases hm
 refine dy (z ?_)
 first|exact rfl|exact⟨rfl,rfl⟩
 rw[Ti h1] at hm
 refine Ax h1 (z ?_)
 cases hm
 refine dy (z ?_)
 first|exact rfl|exact⟨rfl,rfl⟩
def AJ (w:List UInt8) (i:Int):List Sv.Edge->Option (Option Int)
 |[]=>some none
 |e::r=>(cN w i).bind fun b=>if e.lo<=b.toNat then if(b.toNat:Int)<=e.hi then some (some e.to) else AJ w i r else AJ w i r
def AI (l:List ba) (w:List UInt8):Nat->Int->Int->Option Bool
 |0,_,s=>(cN l s).bind fun x=>some x.acc
 |n+1,i,s=>(cN l s).bind fun x=>(aN x.aF).bind fun _=>(AJ w i x.aF).bind fun p=>match p with
  |some t=>AI l w n (i+1) t
  |none=>some false
def MZ (l:List ba) (w:List UInt8):Option Bool:=(aN l).bind fun _=>if(l.length:Int)=0 then some false else(DR l).bind fun ok=>if ok then(aN w).bind fun _=>AI l w w.length 0 0 else some false
theorem Qd {l:List ba} {w:List UInt8} {r:Bool} (hm:MZ l w=some r):Has Tryz.prog 113 [.agg [aA l],.str w] fun s=>s= .bool r:=by
 refine hs ae Tryz.f113 ?_
 unfold MZ at hm
 refine z ?_
 obtain⟨hg1,hm⟩:=ah hm
 refine zd ?_ ?_<;>intro h2
 rw[Th h2] at hm
 cases hm
 exact fc
 rw[Ti h2] at hm
 obtain⟨v3,e3,hm⟩:=aa hm
 refine ce (oe e3) (z ?_)
 refine zm ?_ ?_<;>intro h4
 rw[Ti (nt h4)] at hm
 cases hm
 exact fc
 rw[Th h4] at hm
 obtain⟨hg5,hm⟩:=ah hm
 refine lg (α:=Nat×Int) ae (fun(iw,s1)=>(AI l w (w.length-iw) (iw:Int) s1=some r,⟨59,[(21,.int .i64 iw),(20,.int .i64 ↑w.length),(5,.int .i64 s1),(4,.bool false),(2,.ptr 0 0),(1,.str w)]⟩,⟨[(0,.cells [aA l])],1,0,[],[]⟩,w.length-iw)) ⟨(0,_),hm⟩ ?_
 rintro⟨i6,s1_6⟩ hq6
 dsimp only at hq6
 refine z ?_
 refine zd ?_ ?_<;>intro h7
 have h7':(i6:Int)<(((w.length):Nat):Int):=by(try simp only[Tr,Ty,Tx,Tt] at h7);omega
 rw[c9 h7',AI] at hq6
 refine z ?_
 obtain⟨j8,x8,en8,ex8,hq6⟩:=av hq6
 refine bF en8 ex8 rfl (z ?_)
 obtain⟨hg9,hq6⟩:=ah hq6
 refine aY rfl rfl ?_
 obtain⟨v10,hv10,hq6⟩:=aa hq6
 refine lg (α:=Nat) ae (fun iw=>(AJ w (↑i6) (List.drop iw x8.aF)=some v10,⟨59,[(31,.int .i64 iw),(30,.int .i64 ↑x8.aF.length),(29,.aE false (List.map cS x8.aF)),(6,.int .i64 ↑i6),(21,.int .i64 ↑i6),(20,.int .i64 ↑w.length),(5,.int .i64 s1_6),(4,.bool false),(2,.ptr 0 0),(1,.str w)]⟩,⟨[(0,.cells [aA l])],1,0,[],[]⟩,List.length x8.aF-iw)) ⟨(0),hv10⟩ ?_
 intro i10 hq10
 dsimp only at hq10
 refine z ?_
 refine zd ?_ ?_<;>intro h11
 obtain⟨x11,ex11,ed11⟩:=an h11
 rw[ed11,AJ] at hq10
 refine z ?_
 refine bq ex11 rfl (z ?_)
 refine dg ae [0,1,0,0,12,31,63,127,127,511,127,1151,4095,8191] [] (z ?_)
 obtain⟨j12,x12,en12,ex12,hq10⟩:=av hq10
 refine⟨_,_,en12,ex12,?_⟩
 refine z ?_
 refine zd ?_ ?_<;>intro h13
 rw[Th h13] at hq10
 refine⟨_,_,en12,ex12,?_⟩
 refine z ?_
 refine zd ?_ ?_<;>intro h14
 rw[Th h14] at hq10
 cases hq10
 dsimp only at hq6
 refine z ?_
 exact bk ⟨(i6+1,_),hq6⟩
 rw[Ti h14] at hq10
 exact bk ⟨i10+1,hq10⟩
 rw[Ti h13] at hq10
 exact bk ⟨i10+1,hq10⟩
 rw[aq h11,AJ] at hq10
 cases hq10
 dsimp only at hq6
 refine z ?_
 cases hq6
 exact fc
 have h7':¬(i6:Int)<(((w.length):Nat):Int):=by(try simp only[Tr,Ty,Tx,Tt] at h7);omega
 rw[c8 h7',AI] at hq6
 refine z ?_
 obtain⟨j15,x15,en15,ex15,hq6⟩:=av hq6
 refine bF en15 ex15 rfl (z ?_)
 cases hq6
 exact fc
def rK (w:List UInt8):List (dH Va)->Option (Va×Int)
 |[]=>some (pv,3)
 |k::r=>(MZ k.set w).bind fun c=>if c then some (k.val,3) else rK w r
def pE (w:List UInt8) (ks:List (dH Va)):List (dO Va)->Option (Va×Int)
 |[]=>(aN ks).bind fun _=>rK w ks
 |f::r=>if f.label=w then some (f.val,f.fj) else pE w ks r
def view (c:aM Va) (w:List UInt8):Option (Va×Int):=(aN c.fields).bind fun _=>pE w c.az c.fields
theorem pD {c:aM Va} {w:List UInt8} {r:Va×Int} (hm:view c w=some r):Has Tryz.prog 86 [.agg (aC aL c),.str w] fun s=>s= .dT [.agg (eo r.1),.int .i64 r.2]:=by
 refine hs ae Tryz.f86 ?_
 unfold view at hm
 refine z ?_
 obtain⟨hg1,hm⟩:=ah hm
 refine lg (α:=Nat) ae (fun iw=>(pE w c.az (List.drop iw c.fields)=some r,⟨41,[(13,.int .i64 iw),(12,.int .i64 ↑c.fields.length),(11,.aE false (List.map (di aL) c.fields)),(5,.int .i64 0),(4,.ptr 1 0),(2,.ptr 0 0),(1,.str w)]⟩,⟨[(1,.cells [.bool false,.bool false,.bool false,.bool false,.ax,.ax,.ax,.ax,.ax,.bool false,.bool false,.bool false,.bool false,.ax,.ax,.ax,.ax,.ax]),(0,.cells (aC aL c))],2,0,[],[]⟩,List.length c.fields-iw)) ⟨(0),hm⟩ ?_
 intro i2 hq2
 dsimp only at hq2
 refine z ?_
 refine zd ?_ ?_<;>intro h3
 obtain⟨x3,ex3,ed3⟩:=an h3
 rw[ed3,pE] at hq2
 refine z ?_
 refine bC (cW _) ex3 rfl (z ?_)
 refine zd ?_ ?_<;>intro h4
 rw[Th h4] at hq2
 refine dg ae [0,1,0,4,3,31] [⟨4,0,0,[1]⟩] (z ?_)
 cases hq2
 exact fc
 rw[Ti h4] at hq2
 exact bk ⟨i2+1,hq2⟩
 rw[aq h3,pE] at hq2
 obtain⟨hg5,hq2⟩:=ah hq2
 refine aY rfl rfl ?_
 refine lg (α:=Nat) ae (fun iw=>(rK w (List.drop iw c.az)=some r,⟨41,[(29,.int .i64 iw),(28,.int .i64 ↑c.az.length),(27,.aE false (List.map (dN aL) c.az)),(5,.int .i64 0),(4,.ptr 1 0),(1,.str w)]⟩,⟨[(1,.cells [.bool false,.bool false,.bool false,.bool false,.ax,.ax,.ax,.ax,.ax,.bool false,.bool false,.bool false,.bool false,.ax,.ax,.ax,.ax,.ax]),(0,.cells (aC aL c))],2,0,[],[]⟩,List.length c.az-iw)) ⟨(0),hq2⟩ ?_
 intro i6 hq6
 dsimp only at hq6
 refine z ?_
 refine zd ?_ ?_<;>intro h7
 obtain⟨x7,ex7,ed7⟩:=an h7
 rw[ed7,rK] at hq6
 refine z ?_
 refine bC (cF _) ex7 rfl (z ?_)
 obtain⟨v8,e8,hq6⟩:=aa hq6
 refine ce (Qd e8) (z ?_)
 refine zr ?_ ?_<;>intro h9
 rw[Th h9] at hq6
 cases hq6
 exact fc
 rw[Ti (nt h9)] at hq6
 exact bk ⟨i6+1,hq6⟩
 rw[aq h7,rK] at hq6
 cases hq6
 refine dy (z ?_)
 first|exact rfl|exact⟨rfl,rfl⟩
theorem Pr {ll:List (List Va)} {r:List Va} (hm:Pw ll=some r):Has Tryz.prog 182 [.aE false (ll.map (ig aL))] fun s=>s= .aE false (r.map aL):=by
 refine hs ae Tryz.f182 ?_
 unfold Pw at hm
 refine z ?_
 obtain⟨hg1,hm⟩:=ah hm
 obtain⟨v2,hv2,hm⟩:=aa hm
 refine lg (α:=Nat×Int) ae (fun(iw,s1)=>(IT (List.drop iw ll) s1=some v2,⟨36,[(11,.int .i64 iw),(10,.int .i64 ↑ll.length),(9,.aE false (List.map (ig aL) ll)),(3,.int .i64 s1),(2,.ax),(0,.aE false (List.map (ig aL) ll))]⟩,⟨[],0,0,[],[]⟩,List.length ll-iw)) ⟨(0,_),hv2⟩ ?_
 rintro⟨i2,s1_2⟩ hq2
 dsimp only at hq2
 refine z ?_
 refine zd ?_ ?_<;>intro h3
 obtain⟨x3,ex3,ed3⟩:=an h3
 rw[ed3,IT] at hq2
 refine z ?_
 obtain⟨hg4,hq2⟩:=ah hq2
 obtain⟨hg5,hq2⟩:=ah hq2
 refine bq ex3 rfl (z ?_)
 refine zd ?_ ?_<;>intro h6
 rw[Th h6] at hq2
 cases hq2
 rw[Ti h6] at hq2
 exact bk ⟨(i2+1,_),hq2⟩
 rw[aq h3,IT] at hq2
 cases hq2
 refine z ?_
 refine ci ae Tryz.f219 (z ?_)
 obtain⟨hg7,hm⟩:=ah hm
 refine zd ?_ ?_<;>intro h8
 rw[Th h8] at hm
 cases hm
 rw[Ti h8] at hm
 refine gL (z ?_)
 refine⟨by simp only[xd,Tr,T0,Tu,TQ,Tt];omega,?_⟩
 refine z ?_
 refine⟨by simp only[xd,Tr,T0,Tu,TQ,Tt];omega,?_⟩
 refine z ?_
 refine zd ?_ ?_<;>intro h9
 refine⟨v2.toNat,by simp only[T0] at*;omega,by simp only[T0] at*;omega,by omega,Di ?_⟩
 refine z ?_
 refine gL (z ?_)
 refine⟨0,rfl,TC _,MN (List.map aL []) rfl ?_⟩
 refine z ?_
 refine ei (z ?_)
 refine lg (α:=Nat×List Va×Nat) ae (fun(iw,s1,ts1)=>(wk (List.drop iw ll) s1=some r,⟨36,[(27,.int .i64 iw),(26,.int .i64 ↑ll.length),(25,.aE false (List.map (ig aL) ll)),(6,.own 0 ts1),(2,.ax)]⟩,⟨[(0,.row 18 (s1.map aL) ts1 false)],1,0,[],[]⟩,List.length ll-iw)) ⟨(0,_,(1)),hm⟩ ?_
 rintro⟨i10,s1_10,ts1_10⟩ hq10
 dsimp only at hq10
 refine z ?_
 refine zd ?_ ?_<;>intro h11
 obtain⟨x11,ex11,ed11⟩:=an h11
 rw[ed11,wk] at hq10
 refine z ?_
 refine bq ex11 rfl (z ?_)
 obtain⟨hg12,hq10⟩:=fS hq10
 refine z ?_
 refine lu (z ?_)
 exact bk ⟨(i10+1,_,(ts1_10+1)),hq10⟩
 rw[aq h11,wk] at hq10
 cases hq10
 refine dy (z ?_)
 first|exact e2|exact rfl
 refine z ?_
 refine ei (z ?_)
 refine cy 6 18 rfl ?_
 refine lg (α:=Nat×List Va×Nat) ae (fun(iw,s1,ts1)=>(wk (List.drop iw ll) s1=some r,⟨36,[(6,.own 0 ts1),(27,.int .i64 iw),(26,.int .i64 ↑ll.length),(25,.aE false (List.map (ig aL) ll)),(2,.ax)]⟩,⟨[(0,.row 18 (s1.map aL) ts1 false)],1,0,[],[]⟩,List.length ll-iw)) ⟨(0,_,(0)),hm⟩ ?_
 rintro⟨i13,s1_13,ts1_13⟩ hq13
 dsimp only at hq13
 refine z ?_
 refine zd ?_ ?_<;>intro h14
 obtain⟨x14,ex14,ed14⟩:=an h14
 rw[ed14,wk] at hq13
 refine z ?_
 refine bq ex14 rfl (z ?_)
 obtain⟨hg15,hq13⟩:=fS hq13
 refine z ?_
 refine lu (z ?_)
 exact bk ⟨(i13+1,_,(ts1_13+1)),hq13⟩
 rw[aq h14,wk] at hq13
 cases hq13
 refine dy (z ?_)
 first|exact e2|exact rfl
theorem IU {a b r:List Va} (hm:mJ a b=some r):Has Tryz.prog 182 [.aE false [[.aE false (a.map aL)],[.aE false (b.map aL)]]] fun s=>s= .aE false (r.map aL):=Pr (vy hm)
def fU (c:bg Va):Option (List Va):=mJ c.items c.rest
theorem hU {c:bg Va} {r:List Va} (hm:fU c=some r):Has Tryz.prog 141 [.agg (aQ aL c)] fun s=>s= .aE false (r.map aL):=by
 refine hs ae Tryz.f141 ?_
 unfold fU at hm
 refine z ?_
 replace hm:=aB hm
 obtain⟨v1,e1,hm⟩:=aa hm
 refine fJ (IU e1) (z ?_)
 cases hm
 exact fc
def Rb:List (dH Va)->List Va->Option (List Va)
 |[],out=>some out
 |k::r,out=>(push out k.val).bind fun out=>Rb r out
def NZ (ks:List (dH Va)):List (dO Va)->List Va->Option (List Va)
 |[],out=>(aN ks).bind fun _=>Rb ks out
 |f::r,out=>(push out f.val).bind fun out=>NZ ks r out
def kQ (c:aM Va):Option (List Va):=(aN c.fields).bind fun _=>NZ c.az c.fields []
theorem wz {c:aM Va} {r:List Va} (hm:kQ c=some r):Has Tryz.prog 207 [.agg (aC aL c)] fun s=>s= .aE false (r.map aL):=by
 refine hs ae Tryz.f207 ?_
 unfold kQ at hm
 refine z ?_
 obtain⟨hg1,hm⟩:=ah hm
 refine cy 3 18 rfl ?_
 refine lg (α:=Nat×List Va×Nat) ae (fun(iw,s1,ts1)=>(NZ c.az (List.drop iw c.fields) s1=some r,⟨35,[(3,.own 1 ts1),(11,.int .i64 iw),(10,.int .i64 ↑c.fields.length),(9,.aE false (List.map (di aL) c.fields)),(2,.ax),(1,.ptr 0 0)]⟩,⟨[(1,.row 18 (s1.map aL) ts1 false),(0,.cells (aC aL c))],2,0,[],[]⟩,List.length c.fields-iw)) ⟨(0,_,(0)),hm⟩ ?_
 rintro⟨i2,s1_2,ts1_2⟩ hq2
 dsimp only at hq2
 refine z ?_
 refine zd ?_ ?_<;>intro h3
 obtain⟨x3,ex3,ed3⟩:=an h3
 rw[ed3,NZ] at hq2
 refine z ?_
 refine bC (cW _) ex3 rfl (z ?_)
 obtain⟨hg4,hq2⟩:=ay hq2
 refine z ?_
 refine aH x3.val (cP _) (z ?_)
 exact bk ⟨(i2+1,_,(ts1_2+1)),hq2⟩
 rw[aq h3,NZ] at hq2
 obtain⟨hg5,hq2⟩:=ah hq2
 refine aY rfl rfl ?_
 refine lg (α:=Nat×List Va×Nat) ae (fun(iw,s1,ts1)=>(Rb (List.drop iw c.az) s1=some r,⟨35,[(24,.int .i64 iw),(23,.int .i64 ↑c.az.length),(22,.aE false (List.map (dN aL) c.az)),(3,.own 1 ts1),(2,.ax)]⟩,⟨[(1,.row 18 (s1.map aL) ts1 false),(0,.cells (aC aL c))],2,0,[],[]⟩,List.length c.az-iw)) ⟨(0,_,ts1_2),hq2⟩ ?_
 rintro⟨i6,s1_6,ts1_6⟩ hq6
 dsimp only at hq6
 refine z ?_
 refine zd ?_ ?_<;>intro h7
 obtain⟨x7,ex7,ed7⟩:=an h7
 rw[ed7,Rb] at hq6
 refine z ?_
 refine bC (cF _) ex7 rfl (z ?_)
 obtain⟨hg8,hq6⟩:=ay hq6
 refine z ?_
 refine aH x7.val (cP _) (z ?_)
 exact bk ⟨(i6+1,_,(ts1_6+1)),hq6⟩
 rw[aq h7,Rb] at hq6
 cases hq6
 refine dy (z ?_)
 first|exact e2|exact rfl
def SH:List (aM Va)->List Va->Option (List Va)
 |[],out=>some out
 |c::r,out=>(kQ c).bind fun l=>(pS out l).bind fun out=>SH r out
def SI (ss:List (aM Va)):List (bg Va)->List Va->Option (List Va)
 |[],out=>(aN ss).bind fun _=>SH ss out
 |c::r,out=>(fU c).bind fun l=>(pS out l).bind fun out=>SI ss r out
def kh (v:bG Va):Option (List Va):=(aN v.lists).bind fun _=>SI v.structs v.lists []
theorem I0 {v:bG Va} {r:List Va} (hm:kh v=some r):Has Tryz.prog 162 [.agg (cj aL v)] fun s=>s= .aE false (r.map aL):=by
 refine hs ae Tryz.f162 ?_
 unfold kh at hm
 refine z ?_
 obtain⟨hg1,hm⟩:=ah hm
 refine cy 3 18 rfl ?_
 refine lg (α:=Nat×List Va×Nat) ae (fun(iw,s1,ts1)=>(SI v.structs (List.drop iw v.lists) s1=some r,⟨33,[(3,.own 1 ts1),(11,.int .i64 iw),(10,.int .i64 ↑v.lists.length),(9,.aE false (List.map (aQ aL) v.lists)),(2,.ax),(1,.ptr 0 0)]⟩,⟨[(1,.row 18 (s1.map aL) ts1 false),(0,.cells (cj aL v))],2,0,[],[]⟩,List.length v.lists-iw)) ⟨(0,_,(0)),hm⟩ ?_
 rintro⟨i2,s1_2,ts1_2⟩ hq2
 dsimp only at hq2
 refine z ?_
 refine zd ?_ ?_<;>intro h3
 obtain⟨x3,ex3,ed3⟩:=an h3
 rw[ed3,SI] at hq2
 refine z ?_
 refine bq ex3 rfl (z ?_)
 obtain⟨v4,e4,hq2⟩:=aa hq2
 refine ce (hU e4) (z ?_)
 obtain⟨hg5,hq2⟩:=fS hq2
 refine z ?_
 refine lu (z ?_)
 exact bk ⟨(i2+1,_,(ts1_2+1)),hq2⟩
 rw[aq h3,SI] at hq2
 obtain⟨hg6,hq2⟩:=ah hq2
 refine aY rfl rfl ?_
 refine lg (α:=Nat×List Va×Nat) ae (fun(iw,s1,ts1)=>(SH (List.drop iw v.structs) s1=some r,⟨33,[(23,.int .i64 iw),(22,.int .i64 ↑v.structs.length),(21,.aE false (List.map (aC aL) v.structs)),(3,.own 1 ts1),(2,.ax)]⟩,⟨[(1,.row 18 (s1.map aL) ts1 false),(0,.cells (cj aL v))],2,0,[],[]⟩,List.length v.structs-iw)) ⟨(0,_,ts1_2),hq2⟩ ?_
 rintro⟨i7,s1_7,ts1_7⟩ hq7
 dsimp only at hq7
 refine z ?_
 refine zd ?_ ?_<;>intro h8
 obtain⟨x8,ex8,ed8⟩:=an h8
 rw[ed8,SH] at hq7
 refine z ?_
 refine bq ex8 rfl (z ?_)
 obtain⟨v9,e9,hq7⟩:=aa hq7
 refine ce (wz e9) (z ?_)
 obtain⟨hg10,hq7⟩:=fS hq7
 refine z ?_
 refine lu (z ?_)
 exact bk ⟨(i7+1,_,(ts1_7+1)),hq7⟩
 rw[aq h8,SH] at hq7
 cases hq7
 refine dy (z ?_)
 first|exact e2|exact rfl
def IN (l:List (dO Va)) (f:dO Va) (i:Int):Option Bool:=if i>0 then(dV (i-1)).bind fun _=>(cN l (i-1)).bind fun p=>some (Op.bytesLess p.label f.label) else some true
def Cz (l:List (dO Va)):List (dO Va)->Int->Option Bool
 |[],_=>some true
 |f::r,i=>if f.fj=1 then(IN l f i).bind fun c=>if c then Cz l r (i+1) else some false else if f.fj=2 then(IN l f i).bind fun c=>if c then Cz l r (i+1) else some false else some false
def nM (l:List (dO Va)):Option Bool:=(aN l).bind fun _=>Cz l l 0
theorem EK {l:List (dO Va)} {r:Bool} (hm:nM l=some r):Has Tryz.prog 205 [.aE false (l.map (di aL))] fun s=>s= .bool r:=by
 refine hs ae Tryz.f205 ?_
 unfold nM at hm
 refine z ?_
 obtain⟨hg1,hm⟩:=ah hm
 refine lg (α:=Nat) ae (fun iw=>(Cz l (List.drop iw l) (iw:Int)=some r,⟨36,[(7,.int .i64 iw),(6,.int .i64 ↑l.length),(5,.aE false (List.map (di aL) l)),(2,.bool false),(0,.aE false (List.map (di aL) l))]⟩,⟨[],0,0,[],[]⟩,List.length l-iw)) ⟨(0),hm⟩ ?_
 intro i2 hq2
 dsimp only at hq2
 refine z ?_
 refine zd ?_ ?_<;>intro h3
 obtain⟨x3,ex3,ed3⟩:=an h3
 rw[ed3,Cz] at hq2
 refine z ?_
 refine bC (cW _) ex3 rfl (z ?_)
 refine dg ae [0,1,3,7,15,31,63,127,255,511,1023,2047,4095,4095,12287,32767,65535,131071,4095,266239,1048575,2097151,4194303] [] (z ?_)
 refine zn ?_ ?_<;>intro h4
 rw[Ti h4] at hq2
 refine zn ?_ ?_<;>intro h5
 rw[Ti h5] at hq2
 cases hq2
 exact fc
 rw[Th h5] at hq2
 unfold IN at hq2
 refine z ?_
 refine zd ?_ ?_<;>intro h6
 rw[Th h6] at hq2
 rw[Tl] at hq2
 refine z ?_
 obtain⟨hg7,hq2⟩:=ah hq2
 rw[Tl] at hq2
 obtain⟨j8,x8,en8,ex8,hq2⟩:=av hq2
 refine bI (cW _) en8 ex8 rfl ?_
 dsimp only[Option.bind_some] at hq2
 refine z ?_
 refine zm ?_ ?_<;>intro h9
 rw[Ti (nt h9)] at hq2
 cases hq2
 exact fc
 rw[Th h9] at hq2
 exact bk ⟨i2+1,hq2⟩
 rw[Ti h6] at hq2
 dsimp only[Option.bind_some] at hq2
 rw[Th rfl] at hq2
 exact bk ⟨i2+1,hq2⟩
 rw[Th h4] at hq2
 unfold IN at hq2
 refine z ?_
 refine zd ?_ ?_<;>intro h10
 rw[Th h10] at hq2
 rw[Tl] at hq2
 refine z ?_
 obtain⟨hg11,hq2⟩:=ah hq2
 rw[Tl] at hq2
 obtain⟨j12,x12,en12,ex12,hq2⟩:=av hq2
 refine bI (cW _) en12 ex12 rfl ?_
 dsimp only[Option.bind_some] at hq2
 refine z ?_
 refine zm ?_ ?_<;>intro h13
 rw[Ti (nt h13)] at hq2
 cases hq2
 exact fc
 rw[Th h13] at hq2
 exact bk ⟨i2+1,hq2⟩
 rw[Ti h10] at hq2
 dsimp only[Option.bind_some] at hq2
 rw[Th rfl] at hq2
 exact bk ⟨i2+1,hq2⟩
 rw[aq h3,Cz] at hq2
 cases hq2
 exact fc
def qd (v:List Int):List (dH Va)->Int->Int->Option Int
 |[],_,n=>some n
 |k::r,i,n=>(cN v i).bind fun s=>if s>=0 then(cN v i).bind fun s=>(cN k.set s).bind fun x=>if x.acc then(dV (n+1)).bind fun _=>qd v r (i+1) (n+1) else qd v r (i+1) n else qd v r (i+1) n
def rj (v:List Int) (m:Int):List (dO Va)->Int->Int->Option Int
 |[],_,n=>some n
 |f::r,i,n=>(cN v (m+i)).bind fun s=>(aN f.label).bind fun _=>if s=(f.label.length:Int) then(dV (n+1)).bind fun _=>rj v m r (i+1) (n+1) else rj v m r (i+1) n
def IJ (c:aM Va) (v:List Int):Option Int:=(aN c.az).bind fun _=>(qd v c.az 0 0).bind fun n=>(aN c.fields).bind fun _=>rj v c.az.length c.fields 0 n
theorem O1 {c:aM Va} {v:List Int} {r:Int} (hm:IJ c v=some r):Has Tryz.prog 231 [.agg (aC aL c),.aE false (v.map bM)] fun s=>s= .int .i64 r:=by
 refine hs ae Tryz.f231 ?_
 unfold IJ at hm
 refine z ?_
 obtain⟨hg1,hm⟩:=ah hm
 obtain⟨v2,hv2,hm⟩:=aa hm
 refine lg (α:=Nat×Int) ae (fun(iw,s1)=>(qd v (List.drop iw c.az) (iw:Int) s1=some v2,⟨62,[(13,.int .i64 iw),(12,.int .i64 ↑c.az.length),(11,.aE false (List.map (dN aL) c.az)),(5,.int .i64 s1),(4,.int .i64 0),(2,.ptr 0 0),(1,.aE false (List.map bM v))]⟩,⟨[(0,.cells (aC aL c))],1,0,[],[]⟩,List.length c.az-iw)) ⟨(0,_),hv2⟩ ?_
 rintro⟨i2,s1_2⟩ hq2
 dsimp only at hq2
 refine z ?_
 refine zd ?_ ?_<;>intro h3
 obtain⟨x3,ex3,ed3⟩:=an h3
 rw[ed3,qd] at hq2
 refine z ?_
 refine bC (cF _) ex3 rfl (z ?_)
 refine dg ae [0,0,3,7,15,31,63,127,255,63,63,1599,3647,8191,16383,32767,65535] [] (z ?_)
 obtain⟨j4,x4,en4,ex4,hq2⟩:=av hq2
 refine bF en4 ex4 rfl (z ?_)
 refine zd ?_ ?_<;>intro h5
 rw[Th h5] at hq2
 obtain⟨j6,x6,en6,ex6,hq2⟩:=av hq2
 refine bF en6 ex6 rfl (z ?_)
 obtain⟨j7,x7,en7,ex7,hq2⟩:=av hq2
 refine bF en7 ex7 rfl (z ?_)
 refine zr ?_ ?_<;>intro h8
 rw[Th h8] at hq2
 obtain⟨hg9,hq2⟩:=ah hq2
 refine z ?_
 exact bk ⟨(i2+1,_),hq2⟩
 rw[Ti (nt h8)] at hq2
 exact bk ⟨(i2+1,_),hq2⟩
 rw[Ti h5] at hq2
 exact bk ⟨(i2+1,_),hq2⟩
 rw[aq h3,qd] at hq2
 cases hq2
 refine z ?_
 obtain⟨hg10,hm⟩:=ah hm
 refine aY rfl rfl ?_
 refine lg (α:=Nat×Int) ae (fun(iw,s1)=>(rj v (↑c.az.length) (List.drop iw c.fields) (iw:Int) s1=some r,⟨62,[(41,.int .i64 iw),(40,.int .i64 ↑c.fields.length),(39,.aE false (List.map (di aL) c.fields)),(5,.int .i64 s1),(4,.int .i64 0),(2,.ptr 0 0),(1,.aE false (List.map bM v))]⟩,⟨[(0,.cells (aC aL c))],1,0,[],[]⟩,List.length c.fields-iw)) ⟨(0,_),hm⟩ ?_
 rintro⟨i11,s1_11⟩ hq11
 dsimp only at hq11
 refine z ?_
 refine zd ?_ ?_<;>intro h12
 obtain⟨x12,ex12,ed12⟩:=an h12
 rw[ed12,rj] at hq11
 refine z ?_
 refine bC (cW _) ex12 rfl (z ?_)
 refine dg ae [0,0,2,6,0,30,63,127,0,256,768,2047] [] (z ?_)
 obtain⟨j13,x13,en13,ex13,hq11⟩:=av hq11
 refine bF en13 ex13 rfl (z ?_)
 obtain⟨hg14,hq11⟩:=ah hq11
 refine zd ?_ ?_<;>intro h15
 rw[Th h15] at hq11
 obtain⟨hg16,hq11⟩:=ah hq11
 refine z ?_
 exact bk ⟨(i11+1,_),hq11⟩
 rw[Ti h15] at hq11
 exact bk ⟨(i11+1,_),hq11⟩
 rw[aq h12,rj] at hq11
 cases hq11
 exact fc
def Rd:List Sv.Edge->List Bool->Option (List Bool)
 |[],a=>some a
 |e::r,a=>(lI e.hi).bind fun _=>(sD 257 a e.lo true).bind fun a=>(sD 257 a (e.hi+1) true).bind fun a=>Rd r a
def N3 (v:List Int):List (dH Va)->Int->List Bool->Option (List Bool)
 |[],_,a=>some a
 |k::r,i,a=>(cN v i).bind fun s=>if s<0 then N3 v r (i+1) a else(cN k.set s).bind fun x=>(aN x.aF).bind fun _=>(Rd x.aF a).bind fun a=>N3 v r (i+1) a
def Nf (v:List Int) (m:Int):List (dO Va)->Int->List Bool->Option (List Bool)
 |[],_,a=>some a
 |f::r,i,a=>(cN v (m+i)).bind fun n=>if n>=0 then(aN f.label).bind fun _=>if n<(f.label.length:Int) then
   (cN f.label n).bind fun b=>(sD 257 a b.toNat true).bind fun a=>(sD 257 a (b.toNat+1) true).bind fun a=>Nf v m r (i+1) a else Nf v m r (i+1) a else Nf v m r (i+1) a
def Nd (a:List Bool):Nat->Int->List Int->Option (List Int)
 |0,_,out=>some out
 |n+1,c,out=>(SV 257 a c).bind fun x=>if x then(lI c).bind fun _=>(push out c).bind fun out=>Nd a n (c+1) out else Nd a n (c+1) out
def MM:List Bool:=true::List.replicate 256 false
def oI (c:aM Va) (v:List Int):Option (List Int):=(aN c.az).bind fun _=>(N3 v c.az 0 MM).bind fun a=>(aN c.fields).bind fun _=>(Nf v c.az.length c.fields 0 a).bind fun a=>Nd a 256 0 []
theorem HK {c:aM Va} {v:List Int} {r:List Int} (hm:oI c v=some r):Has Tryz.prog 232 [.agg (aC aL c),.aE false (v.map bM)] fun s=>s= .aE false (r.map GN):=by
 refine hs ae Tryz.f232 ?_
 unfold oI at hm
 refine z ?_
 obtain⟨hg1,hm⟩:=ah hm
 obtain⟨v2,hv2,hm⟩:=aa hm
 refine lg (α:=Nat×List Bool) ae (fun(iw,s1)=>(N3 v (List.drop iw c.az) (iw:Int) s1=some v2,⟨105,[(19,.int .i64 iw),(18,.int .i64 ↑c.az.length),(17,.aE false (List.map (dN aL) c.az)),(5,.ptr 1 0),(4,.ax),(2,.ptr 0 0),(1,.aE false (List.map bM v))]⟩,⟨[(1,.cells (s1.map .bool)),(0,.cells (aC aL c))],2,0,[],[]⟩,List.length c.az-iw)) ⟨(0,_),hv2⟩ ?_
 rintro⟨i2,s1_2⟩ hq2
 dsimp only at hq2
 refine z ?_
 refine zd ?_ ?_<;>intro h3
 obtain⟨x3,ex3,ed3⟩:=an h3
 rw[ed3,N3] at hq2
 refine z ?_
 refine bC (cF _) ex3 rfl (z ?_)
 obtain⟨j4,x4,en4,ex4,hq2⟩:=av hq2
 refine bF en4 ex4 rfl (z ?_)
 refine zd ?_ ?_<;>intro h5
 rw[Th h5] at hq2
 exact bk ⟨(i2+1,_),hq2⟩
 rw[Ti h5] at hq2
 refine dg ae [0,1,3,0,0,24,56,127,255,511,1023,0] [] (z ?_)
 refine bF en4 ex4 rfl (z ?_)
 obtain⟨j6,x6,en6,ex6,hq2⟩:=av hq2
 refine bF en6 ex6 rfl (z ?_)
 obtain⟨hg7,hq2⟩:=ah hq2
 obtain⟨v8,hv8,hq2⟩:=aa hq2
 refine lg (α:=Nat×List Bool) ae (fun(iw,s1)=>(Rd (List.drop iw x6.aF) s1=some v8,⟨105,[(40,.int .i64 iw),(39,.int .i64 ↑x6.aF.length),(38,.aE false (List.map cS x6.aF)),(19,.int .i64 ↑i2),(18,.int .i64 ↑c.az.length),(17,.aE false (List.map (dN aL) c.az)),(5,.ptr 1 0),(4,.ax),(2,.ptr 0 0),(1,.aE false (List.map bM v))]⟩,⟨[(2,.cells (fA x3)),(1,.cells (s1.map .bool)),(0,.cells (aC aL c))],3,0,[],[]⟩,List.length x6.aF-iw)) ⟨(0,_),hv8⟩ ?_
 rintro⟨i8,s1_8⟩ hq8
 dsimp only at hq8
 refine z ?_
 refine zd ?_ ?_<;>intro h9
 obtain⟨x9,ex9,ed9⟩:=an h9
 rw[ed9,Rd] at hq8
 refine z ?_
 obtain⟨hg10,hq8⟩:=ah hq8
 refine bq ex9 rfl (z ?_)
 refine dg ae [0,1,0,4,12,28,3,67,255,511] [⟨9,0,0,[1]⟩,⟨7,0,0,[1]⟩] (z ?_)
 obtain⟨j13,x13,en13,ej13,ex13,hq8⟩:=dX hq8
 refine cA en13 ej13 (z ?_)
 rw[dJ ex13 (by(show _+_*1=_;omega))]
 refine z ?_
 obtain⟨j14,x14,en14,ej14,ex14,hq8⟩:=dX hq8
 refine cA en14 ej14 (z ?_)
 rw[dJ ex14 (by(show _+_*1=_;omega))]
 refine z ?_
 exact bk ⟨(i8+1,_),hq8⟩
 rw[aq h9,Rd] at hq8
 cases hq8
 refine z ?_
 exact bk ⟨(i2+1,_),hq2⟩
 rw[aq h3,N3] at hq2
 cases hq2
 refine z ?_
 obtain⟨hg15,hm⟩:=ah hm
 refine aY rfl rfl ?_
 obtain⟨v16,hv16,hm⟩:=aa hm
 refine lg (α:=Nat×List Bool) ae (fun(iw,s1)=>(Nf v (↑c.az.length) (List.drop iw c.fields) (iw:Int) s1=some v16,⟨105,[(57,.int .i64 iw),(56,.int .i64 ↑c.fields.length),(55,.aE false (List.map (di aL) c.fields)),(5,.ptr 1 0),(4,.ax),(2,.ptr 0 0),(1,.aE false (List.map bM v))]⟩,⟨[(1,.cells (s1.map .bool)),(0,.cells (aC aL c))],2,0,[],[]⟩,List.length c.fields-iw)) ⟨(0,_),hv16⟩ ?_
 rintro⟨i16,s1_16⟩ hq16
 dsimp only at hq16
 refine z ?_
 refine zd ?_ ?_<;>intro h17
 obtain⟨x17,ex17,ed17⟩:=an h17
 rw[ed17,Nf] at hq16
 refine z ?_
 refine bC (cW _) ex17 rfl (z ?_)
 obtain⟨j18,x18,en18,ex18,hq16⟩:=av hq16
 refine bF en18 ex18 rfl (z ?_)
 refine zd ?_ ?_<;>intro h19
 rw[Th h19] at hq16
 obtain⟨hg20,hq16⟩:=ah hq16
 refine zd ?_ ?_<;>intro h21
 rw[Th h21] at hq16
 refine dg ae [0,1,0,7,0,16,0,112,240,496,15,1039,4095,8191] [⟨13,0,0,[1]⟩,⟨11,0,0,[1]⟩] (z ?_)
 obtain⟨j25,x25,en25,ex25,hq16⟩:=av hq16
 refine⟨_,_,en25,ex25,?_⟩
 refine z ?_
 refine⟨_,_,en25,ex25,?_⟩
 refine z ?_
 refine⟨⟨by have:=TA (x25);omega,by have:=TA (x25);omega⟩,?_⟩
 refine z ?_
 refine⟨⟨by have:=TA (x25);omega,by have:=TA (x25);omega⟩,?_⟩
 refine z ?_
 obtain⟨j26,x26,en26,ej26,ex26,hq16⟩:=dX hq16
 refine cA en26 ej26 (z ?_)
 rw[dJ ex26 (by(show _+_*1=_;omega))]
 refine z ?_
 obtain⟨j27,x27,en27,ej27,ex27,hq16⟩:=dX hq16
 refine cA en27 ej27 (z ?_)
 rw[dJ ex27 (by(show _+_*1=_;omega))]
 refine z ?_
 exact bk ⟨(i16+1,_),hq16⟩
 rw[Ti h21] at hq16
 exact bk ⟨(i16+1,_),hq16⟩
 rw[Ti h19] at hq16
 exact bk ⟨(i16+1,_),hq16⟩
 rw[aq h17,Nf] at hq16
 cases hq16
 refine z ?_
 refine aY rfl rfl ?_
 refine cy 13 1 rfl ?_
 refine lg (α:=Nat×List Int×Nat) ae (fun(iw,s1,ts1)=>(Nd v16 (256-iw) (iw:Int) s1=some r,⟨105,[(13,.own 2 ts1),(92,.int .i64 iw),(5,.ptr 1 0),(4,.ax)]⟩,⟨[(2,.row 1 (s1.map GN) ts1 false),(1,.cells ((v16).map .bool)),(0,.cells (aC aL c))],3,0,[],[]⟩,(256)-iw)) ⟨(0,_,(0)),hm⟩ ?_
 rintro⟨i28,s1_28,ts1_28⟩ hq28
 dsimp only at hq28
 refine z ?_
 refine zd ?_ ?_<;>intro h29
 have h29':(i28:Int)<(((256):Nat):Int):=by(try simp only[Tr,Ty,Tx,Tt] at h29);omega
 rw[c9 h29',Nd] at hq28
 refine z ?_
 obtain⟨j30,x30,en30,ej30,ex30,hq28⟩:=gS hq28
 refine cA en30 ej30 (z ?_)
 rw[eT ex30 (by(show _+_*1=_;omega)) rfl]
 refine z ?_
 refine zr ?_ ?_<;>intro h31
 rw[Th h31] at hq28
 obtain⟨hg32,hq28⟩:=ah hq28
 obtain⟨hg33,hq28⟩:=ay hq28
 refine z ?_
 refine aH (↑i28) rfl (z ?_)
 exact bk ⟨(i28+1,_,(ts1_28+1)),hq28⟩
 rw[Ti (nt h31)] at hq28
 exact bk ⟨(i28+1,_,ts1_28),hq28⟩
 have h29':¬(i28:Int)<(((256):Nat):Int):=by(try simp only[Tr,Ty,Tx,Tt] at h29);omega
 rw[c8 h29',Nd] at hq28
 refine z ?_
 cases hq28
 refine dy (z ?_)
 first|exact e2|exact rfl
def S0:Nat->Int->List Int->Option (List Int)
 |0,_,out=>some out
 |n+1,i,out=>(kS out i (-1)).bind fun out=>S0 n (i+1) out
def JA (b i:Int):List Sv.Edge->List Int->Option (List Int)
 |[],out=>some out
 |e::r,out=>if e.lo<=b then if b<=e.hi then(kS out i e.to).bind fun out=>JA b i r out else JA b i r out else JA b i r out
def Jz (v:List Int) (b:Int):List (dH Va)->Int->List Int->Option (List Int)
 |[],_,out=>some out
 |k::r,i,out=>(cN v i).bind fun s=>if s<0 then Jz v b r (i+1) out else(cN k.set s).bind fun x=>(aN x.aF).bind fun _=>(JA b i x.aF out).bind fun out=>Jz v b r (i+1) out
def Fm (v:List Int) (b m:Int):List (dO Va)->Int->List Int->Option (List Int)
 |[],_,out=>some out
 |f::r,i,out=>(cN v (m+i)).bind fun n=>if n>=0 then(aN f.label).bind fun _=>if n<(f.label.length:Int) then
   (cN f.label n).bind fun c=>if(c.toNat:Int)=b then(dV (n+1)).bind fun _=>(kS out (m+i) (n+1)).bind fun out=>Fm v b m r (i+1) out else Fm v b m r (i+1) out else Fm v b m r (i+1) out else Fm v b m r (i+1) out
def AF (c:aM Va) (v:List Int) (b:Int):Option (List Int):=(QC v).bind fun _=>(S0 v.length 0 (List.replicate v.length 0)).bind fun out=>(aN c.az).bind fun _=>(Jz v b c.az 0 out).bind fun out=>(aN c.fields).bind fun _=>Fm v b c.az.length c.fields 0 out
theorem Qb {c:aM Va} {v:List Int} {b:Int} {r:List Int} (hm:AF c v b=some r):Has Tryz.prog 233 [.agg (aC aL c),.aE false (v.map bM),.int .u8 b] fun s=>s= .aE false (r.map bM):=by
 refine hs ae Tryz.f233 ?_
 unfold AF at hm
 refine z ?_
 obtain⟨hg1,hm⟩:=ah hm
 refine⟨_,_,rfl,rfl,Tp _,by omega,?_⟩
 refine z ?_
 refine jV bM v.length (0) (by first|rfl|simp only[Tr]) rfl (z ?_)
 obtain⟨v2,hv2,hm⟩:=aa hm
 refine lg (α:=Nat×List Int×Nat) ae (fun(iw,s1,ts1)=>(S0 (v.length-iw) (iw:Int) s1=some v2,⟨115,[(22,.int .i64 iw),(21,.int .i64 ↑v.length),(7,.own 1 ts1),(6,.ax),(3,.ptr 0 0),(1,.aE false (List.map bM v)),(2,.int .u8 b)]⟩,⟨[(1,.row 1 (s1.map bM) ts1 false),(0,.cells (aC aL c))],2,0,[],[]⟩,v.length-iw)) ⟨(0,_,(0)),hv2⟩ ?_
 rintro⟨i2,s1_2,ts1_2⟩ hq2
 dsimp only at hq2
 refine z ?_
 refine zd ?_ ?_<;>intro h3
 have h3':(i2:Int)<(((v.length):Nat):Int):=by(try simp only[Tr,Ty,Tx,Tt] at h3);omega
 rw[c9 h3',S0] at hq2
 refine z ?_
 obtain⟨j4,x4,en4,ex4,hq2⟩:=cV hq2
 refine aK en4 ex4 (z ?_)
 refine cq _ (-1) ex4 rfl (z ?_)
 exact bk ⟨(i2+1,_,ts1_2),hq2⟩
 have h3':¬(i2:Int)<(((v.length):Nat):Int):=by(try simp only[Tr,Ty,Tx,Tt] at h3);omega
 rw[c8 h3',S0] at hq2
 cases hq2
 refine z ?_
 obtain⟨hg5,hm⟩:=ah hm
 refine aY rfl rfl ?_
 obtain⟨v6,hv6,hm⟩:=aa hm
 refine lg (α:=Nat×List Int×Nat) ae (fun(iw,s1,ts1)=>(Jz v b (List.drop iw c.az) (iw:Int) s1=some v6,⟨115,[(32,.int .i64 iw),(31,.int .i64 ↑c.az.length),(30,.aE false (List.map (dN aL) c.az)),(7,.own 1 ts1),(6,.ax),(3,.ptr 0 0),(1,.aE false (List.map bM v)),(2,.int .u8 b)]⟩,⟨[(1,.row 1 (s1.map bM) ts1 false),(0,.cells (aC aL c))],2,0,[],[]⟩,List.length c.az-iw)) ⟨(0,_,ts1_2),hv6⟩ ?_
 rintro⟨i6,s1_6,ts1_6⟩ hq6
 dsimp only at hq6
 refine z ?_
 refine zd ?_ ?_<;>intro h7
 obtain⟨x7,ex7,ed7⟩:=an h7
 rw[ed7,Jz] at hq6
 refine z ?_
 refine bC (cF _) ex7 rfl (z ?_)
 obtain⟨j8,x8,en8,ex8,hq6⟩:=av hq6
 refine bF en8 ex8 rfl (z ?_)
 refine zd ?_ ?_<;>intro h9
 rw[Th h9] at hq6
 exact bk ⟨(i6+1,_,ts1_6),hq6⟩
 rw[Ti h9] at hq6
 refine dg ae [0,1,3,0,0,24,56,127,255,511,1023,0] [] (z ?_)
 refine bF en8 ex8 rfl (z ?_)
 obtain⟨j10,x10,en10,ex10,hq6⟩:=av hq6
 refine bF en10 ex10 rfl (z ?_)
 obtain⟨hg11,hq6⟩:=ah hq6
 obtain⟨v12,hv12,hq6⟩:=aa hq6
 refine lg (α:=Nat×List Int×Nat) ae (fun(iw,s1,ts1)=>(JA b (↑i6) (List.drop iw x10.aF) s1=some v12,⟨115,[(53,.int .i64 iw),(52,.int .i64 ↑x10.aF.length),(51,.aE false (List.map cS x10.aF)),(9,.int .i64 ↑i6),(32,.int .i64 ↑i6),(31,.int .i64 ↑c.az.length),(30,.aE false (List.map (dN aL) c.az)),(7,.own 1 ts1),(6,.ax),(3,.ptr 0 0),(1,.aE false (List.map bM v)),(2,.int .u8 b)]⟩,⟨[(2,.cells (fA x7)),(1,.row 1 (s1.map bM) ts1 false),(0,.cells (aC aL c))],3,0,[],[]⟩,List.length x10.aF-iw)) ⟨(0,_,ts1_6),hv12⟩ ?_
 rintro⟨i12,s1_12,ts1_12⟩ hq12
 dsimp only at hq12
 refine z ?_
 refine zd ?_ ?_<;>intro h13
 obtain⟨x13,ex13,ed13⟩:=an h13
 rw[ed13,JA] at hq12
 refine z ?_
 refine bq ex13 rfl (z ?_)
 refine zd ?_ ?_<;>intro h14
 rw[Th h14] at hq12
 refine zd ?_ ?_<;>intro h15
 rw[Th h15] at hq12
 obtain⟨j16,x16,en16,ex16,hq12⟩:=cV hq12
 refine aK en16 ex16 (z ?_)
 refine cq _ x13.to ex16 rfl (z ?_)
 exact bk ⟨(i12+1,_,ts1_12),hq12⟩
 rw[Ti h15] at hq12
 exact bk ⟨(i12+1,_,ts1_12),hq12⟩
 rw[Ti h14] at hq12
 exact bk ⟨(i12+1,_,ts1_12),hq12⟩
 rw[aq h13,JA] at hq12
 cases hq12
 refine z ?_
 exact bk ⟨(i6+1,_,ts1_12),hq6⟩
 rw[aq h7,Jz] at hq6
 cases hq6
 refine z ?_
 obtain⟨hg17,hm⟩:=ah hm
 refine aY rfl rfl ?_
 refine lg (α:=Nat×List Int×Nat) ae (fun(iw,s1,ts1)=>(Fm v b (↑c.az.length) (List.drop iw c.fields) (iw:Int) s1=some r,⟨115,[(77,.int .i64 iw),(76,.int .i64 ↑c.fields.length),(75,.aE false (List.map (di aL) c.fields)),(7,.own 1 ts1),(6,.ax),(3,.ptr 0 0),(1,.aE false (List.map bM v)),(2,.int .u8 b)]⟩,⟨[(1,.row 1 (s1.map bM) ts1 false),(0,.cells (aC aL c))],2,0,[],[]⟩,List.length c.fields-iw)) ⟨(0,_,ts1_6),hm⟩ ?_
 rintro⟨i18,s1_18,ts1_18⟩ hq18
 dsimp only at hq18
 refine z ?_
 refine zd ?_ ?_<;>intro h19
 obtain⟨x19,ka,ed19⟩:=an h19
 rw[ed19,Fm] at hq18
 refine z ?_
 refine bC (cW _) ka rfl (z ?_)
 obtain⟨j20,x20,en20,ex20,hq18⟩:=av hq18
 refine bF en20 ex20 rfl (z ?_)
 refine zd ?_ ?_<;>intro h21
 rw[Th h21] at hq18
 obtain⟨hg22,hq18⟩:=ah hq18
 refine zd ?_ ?_<;>intro h23
 rw[Th h23] at hq18
 obtain⟨j24,x24,en24,ex24,hq18⟩:=av hq18
 refine⟨_,_,en24,ex24,?_⟩
 refine z ?_
 refine zd ?_ ?_<;>intro h25
 rw[Th h25] at hq18
 obtain⟨hg26,hq18⟩:=ah hq18
 obtain⟨j27,x27,en27,ex27,hq18⟩:=cV hq18
 refine aK en27 ex27 (z ?_)
 refine cq _ (x20+1) ex27 rfl (z ?_)
 exact bk ⟨(i18+1,_,ts1_18),hq18⟩
 rw[Ti h25] at hq18
 exact bk ⟨(i18+1,_,ts1_18),hq18⟩
 rw[Ti h23] at hq18
 exact bk ⟨(i18+1,_,ts1_18),hq18⟩
 rw[Ti h21] at hq18
 exact bk ⟨(i18+1,_,ts1_18),hq18⟩
 rw[aq h19,Fm] at hq18
 cases hq18
 refine dy (z ?_)
 first|exact e2|exact rfl
def C2 (c:aM Va) (v:List Int):List Int->List (List Int)->List (List UInt8×Unit)->Option (List (List Int)×List (List UInt8×Unit))
 |[],todo,seen=>some (todo,seen)
 |b::r,todo,seen=>(AF c v b).bind fun w=>(zX w).bind fun k=>match cH k seen with
  |some _=>C2 c v r todo seen
  |none=>(push todo w).bind fun todo=>C2 c v r todo (seen++[(k,())])
def EU (c:aM Va):Nat->List (List Int)->List (List UInt8×Unit)->Option Bool
 |0,_,_=>none
 |n+1,todo,seen=>(aN todo).bind fun _=>if(todo.length:Int)>0 then(cN todo (todo.length-1)).bind fun v=>(IJ c v).bind fun h=>if h=1 then
   (oI c v).bind fun bs=>(aN bs).bind fun _=>(C2 c v bs (todo.take (todo.length-1)) seen).bind fun p=>EU c n p.1 p.2
  else some false else some true
def G2 (c:aM Va):Nat:=1000000000
def SC (c:aM Va):Option Bool:=(aN c.az).bind fun _=>(aN c.fields).bind fun _=>(yf (c.az.length+c.fields.length<1000000000)).bind fun _=>
 (zX (List.replicate (c.az.length+c.fields.length) 0)).bind fun k=>EU c (G2 c) [List.replicate (c.az.length+c.fields.length) 0] [(k,())]
def EV (c:aM Va):List (dH Va)->Option Bool
 |[]=>SC c
 |k::r=>(aN k.set).bind fun _=>if(k.set.length:Int)=0 then some false else(gC k.set).bind fun ok=>if ok then EV c r else some false
def Mn (c:aM Va):Option Bool:=(aN c.az).bind fun _=>EV c c.az
theorem PL {c:aM Va} {r:Bool} (hm:Mn c=some r):bj Tryz.prog 206 [.agg (aC aL c)] fun s=>s= .bool r:=by
 refine ht ae Tryz.f206 ?_
 unfold Mn at hm
 refine z ?_
 obtain⟨hg1,hm⟩:=ah hm
 refine lg (α:=Nat) ae (fun iw=>(EV c (List.drop iw c.az)=some r,⟨89,[(15,.int .i64 iw),(14,.int .i64 ↑c.az.length),(13,.aE false (List.map (dN aL) c.az)),(2,.bool false),(1,.ptr 1 0)]⟩,⟨[(1,.cells (aC aL c)),(0,aX)],2,0,[],[]⟩,List.length c.az-iw)) ⟨(0),hm⟩ ?_
 intro i2 hq2
 dsimp only at hq2
 refine z ?_
 refine zd ?_ ?_<;>intro h3
 obtain⟨x3,ex3,ed3⟩:=an h3
 rw[ed3,EV] at hq2
 refine z ?_
 obtain⟨hg4,hq2⟩:=ah hq2
 refine bC (cF _) ex3 rfl (z ?_)
 refine zd ?_ ?_<;>intro h5
 rw[Th h5] at hq2
 cases hq2
 exact mst
 rw[Ti h5] at hq2
 obtain⟨v6,e6,hq2⟩:=aa hq2
 refine ct (qL e6) (z ?_)
 refine zm ?_ ?_<;>intro h7
 rw[Ti (nt h7)] at hq2
 cases hq2
 exact mst
 rw[Th h7] at hq2
 exact bk ⟨i2+1,hq2⟩
 rw[aq h3,EV] at hq2
 unfold SC at hq2
 refine z ?_
 obtain⟨hg8,hq2⟩:=ah hq2
 obtain⟨hg9,hq2⟩:=ah hq2
 obtain⟨hg10,hq2⟩:=ah hq2
 refine z ?_
 refine⟨_,_,rfl,rfl,Tp _,by omega,?_⟩
 refine z ?_
 refine jV bM (c.az.length+c.fields.length) (0) (by first|rfl|simp only[Tr]) rfl (z ?_)
 refine cA (j:=0) rfl (by simp) (z ?_)
 refine⟨_,rfl,?_⟩
 refine z ?_
 obtain⟨v12,e12,hq2⟩:=aa hq2
 refine ct (Lm e12) (z ?_)
 first|refine⟨(fun p hp=>by cases hp),.nil,?_⟩|refine⟨by first|trivial|rfl,(fun p hp=>by cases hp),.nil,?_⟩
 refine z ?_
 refine lg (α:=Nat×List (List Int)×List (List UInt8×Unit)×Nat) ae (fun(nw,s1,s2,ts1)=>(EU c nw s1 s2=some r,⟨89,[(6,.map 4),(5,.own 3 ts1),(2,.bool false),(1,.ptr 1 0)]⟩,⟨[(4,.map (jD .str (fun _=> .bool true) s2)),(3,.row 1 (s1.map gh) ts1 false),(2,.row 1 (List.map bM (List.replicate (c.az.length+c.fields.length) 0)) 0 true),(1,.cells (aC aL c)),(0,aX)],5,0,[],[]⟩,nw)) ⟨(_,_,_,(0)),hq2⟩ ?_
 rintro⟨n13,s1_13,s2_13,ts1_13⟩ hq13
 dsimp only at hq13
 rcases n13 with _|n13
 (unfold EU at hq13;cases hq13)
 unfold EU at hq13
 refine z ?_
 obtain⟨hg14,hq13⟩:=ah hq13
 refine zd ?_ ?_<;>intro h15
 rw[Th h15] at hq13
 obtain⟨j16,x16,en16,ex16,hq13⟩:=av hq13
 refine aK en16 ex16 (z ?_)
 refine bP ex16 (z ?_)
 refine⟨s1_13.length-1,by omega,by simp only[Tr];omega,?_⟩
 refine z ?_
 refine P5 (z ?_)
 obtain⟨v17,e17,hq13⟩:=aa hq13
 refine ce (O1 e17) (z ?_)
 refine zn ?_ ?_<;>intro h18
 rw[Ti h18] at hq13
 cases hq13
 exact mst
 rw[Th h18] at hq13
 obtain⟨v19,e19,hq13⟩:=aa hq13
 refine ce (HK e19) (z ?_)
 obtain⟨hg20,hq13⟩:=ah hq13
 obtain⟨v21,hv21,hq13⟩:=aa hq13
 refine lg (α:=Nat×List (List Int)×List (List UInt8×Unit)×Nat) ae (fun(iw,s1,s2,ts1)=>(C2 c x16 (List.drop iw v19) s1 s2=some v21,⟨89,[(68,.int .i64 iw),(67,.int .i64 ↑v19.length),(66,.aE false (List.map GN v19)),(5,.own 3 ts1),(7,.aE false (List.map bM x16)),(6,.map 4),(2,.bool false),(1,.ptr 1 0)]⟩,⟨[(4,.map (jD .str (fun _=> .bool true) s2)),(3,.row 1 (s1.map gh) ts1 false),(2,.row 1 (List.map bM (List.replicate (c.az.length+c.fields.length) 0)) 0 true),(1,.cells (aC aL c)),(0,aX)],5,0,[],[]⟩,List.length v19-iw)) ⟨(0,_,_,(ts1_13+1)),hv21⟩ ?_
 rintro⟨i21,s1_21,s2_21,ts1_21⟩ hq21
 dsimp only at hq21
 refine z ?_
 refine zd ?_ ?_<;>intro h22
 obtain⟨x22,ex22,ed22⟩:=an h22
 rw[ed22,C2] at hq21
 refine z ?_
 refine bq ex22 rfl (z ?_)
 obtain⟨v23,e23,hq21⟩:=aa hq21
 refine ce (Qb e23) (z ?_)
 obtain⟨v24,e24,hq21⟩:=aa hq21
 refine ct (Lm e24) (z ?_)
 refine nL (kf:=SVal.str) (g:=fun x=>SVal.bool true) (fun ef25=> ?_) (fun v25 q25 ef25=> ?_)
 rw[ef25] at hq21
 dsimp only at hq21
 refine z ?_
 refine(DW (kf:=SVal.str) (g:=fun x=>SVal.bool true) (v:=()) (by assumption) ?_).2.2
 refine z ?_
 obtain⟨hg26,hq21⟩:=ay hq21
 refine z ?_
 refine aH v23 rfl (z ?_)
 exact bk ⟨(i21+1,_,_,(ts1_21+1)),hq21⟩
 rw[ef25] at hq21
 dsimp only at hq21
 refine z ?_
 exact bk ⟨(i21+1,_,_,ts1_21),hq21⟩
 rw[aq h22,C2] at hq21
 cases hq21
 dsimp only at hq13
 refine z ?_
 exact bk ⟨(n13,_,_,ts1_21),hq13⟩
 rw[Ti h15] at hq13
 cases hq13
 exact mst
end Go.Proofs.YtaagahmkmcnhaaaGreatDoor
