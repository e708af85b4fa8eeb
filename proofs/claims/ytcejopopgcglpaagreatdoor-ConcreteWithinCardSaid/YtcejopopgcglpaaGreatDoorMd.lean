/- For ConcreteWithin: functions of the program, walked beside Lean functions that say what they compute. -/
import Derived.Test.YtcejopopgcglpaaGreatDoorMc
set_option linter.unusedVariables false
set_option linter.unusedSimpArgs false
set_option linter.unusedSectionVars false
namespace Go.Proofs.YtcejopopgcglpaaGreatDoor
open Sv
set_option maxRecDepth 100000
set_option maxHeartbeats 2000000
section
variable {α:Type}
def K2:List (List α)->Int->Option Int
 |[],n=>some n
 |l::r,n=>(aR l).bind fun _=>(dD (n+l.length)).bind fun _=>if n+l.length<0 then none else K2 r (n+l.length)
def xl:List (List α)->List α->Option (List α)
 |[],out=>some out
 |l::r,out=>(mu out l).bind fun out=>xl r out
def Sl (ll:List (List α)):Option (List α):=(aR ll).bind fun _=>(K2 ll 0).bind fun n=>(zf (n<1000000000)).bind fun _=>if n<0 then none else xl ll []
end
def ik {α:Type} (f:α->List SVal) (l:List α):List SVal:=[.aK false (l.map f)]
instance {α:Type} (f:α->List SVal) [Cl f]:Cl (ik f):=⟨fun l=>by simp only[ik,aB,closed,eM f,V3]⟩
theorem Si {ll:List (List Sv.Span)} {r:List Sv.Span} (hm:Sl ll=some r):Has Tryz.prog 105 [.aK false (ll.map (ik cD))] fun s=>s= .aK false (r.map cD):=by
 refine hs ae Tryz.f105 ?_
 unfold Sl at hm
 refine z ?_
 obtain⟨hg1,hm⟩:=ah hm
 obtain⟨v2,hv2,hm⟩:=aa hm
 refine lg (α:=Nat×Int) ae (fun(iw,s1)=>(K2 (List.drop iw ll) s1=some v2,⟨36,[(11,.int .i64 iw),(10,.int .i64 ↑ll.length),(9,.aK false (List.map (ik cD) ll)),(3,.int .i64 s1),(2,.aD),(0,.aK false (List.map (ik cD) ll))]⟩,⟨[],0,0,[],[]⟩,List.length ll-iw)) ⟨(0,_),hv2⟩ ?_
 rintro⟨i2,s1_2⟩ hq2
 dsimp only at hq2
 refine z ?_
 refine zd ?_ ?_<;>intro h3
 obtain⟨x3,ex3,ed3⟩:=av h3
 rw[ed3,K2] at hq2
 refine z ?_
 obtain⟨hg4,hq2⟩:=ah hq2
 obtain⟨hg5,hq2⟩:=ah hq2
 refine bx ex3 rfl (z ?_)
 refine zd ?_ ?_<;>intro h6
 rw[HP h6] at hq2
 cases hq2
 rw[TP h6] at hq2
 exact bk ⟨(i2+1,_),hq2⟩
 rw[aA h3,K2] at hq2
 cases hq2
 refine z ?_
 refine ci ae Tryz.f143 (z ?_)
 obtain⟨hg7,hm⟩:=ah hm
 refine zd ?_ ?_<;>intro h8
 rw[HP h8] at hm
 cases hm
 rw[TP h8] at hm
 refine gO (z ?_)
 refine⟨by simp only[ym,V4,WA,V5,Ws,V7];omega,?_⟩
 refine z ?_
 refine⟨by simp only[ym,V4,WA,V5,Ws,V7];omega,?_⟩
 refine z ?_
 refine zd ?_ ?_<;>intro h9
 refine⟨v2.toNat,by simp only[WA] at*;omega,by simp only[WA] at*;omega,by omega,G9 cD ⟨0,0⟩ rfl ?_⟩
 refine z ?_
 refine gO (z ?_)
 refine⟨0,rfl,Wd _,Ps (List.map cD []) rfl ?_⟩
 refine z ?_
 refine ei (z ?_)
 refine lg (α:=Nat×List Span×Nat) ae (fun(iw,s1,ts1)=>(xl (List.drop iw ll) s1=some r,⟨36,[(27,.int .i64 iw),(26,.int .i64 ↑ll.length),(25,.aK false (List.map (ik cD) ll)),(6,.own 0 ts1),(2,.aD)]⟩,⟨[(0,.row 2 (s1.map cD) ts1 false)],1,0,[],[]⟩,List.length ll-iw)) ⟨(0,_,(1)),hm⟩ ?_
 rintro⟨i10,s1_10,ts1_10⟩ hq10
 dsimp only at hq10
 refine z ?_
 refine zd ?_ ?_<;>intro h11
 obtain⟨x11,ex11,ed11⟩:=av h11
 rw[ed11,xl] at hq10
 refine z ?_
 refine bx ex11 rfl (z ?_)
 obtain⟨hg12,hq10⟩:=eu hq10
 refine z ?_
 refine jY (z ?_)
 exact bk ⟨(i10+1,_,(ts1_10+1)),hq10⟩
 rw[aA h11,xl] at hq10
 cases hq10
 refine dH (z ?_)
 first|exact e2|exact rfl
 refine z ?_
 refine ei (z ?_)
 refine cr 6 2 rfl ?_
 refine lg (α:=Nat×List Span×Nat) ae (fun(iw,s1,ts1)=>(xl (List.drop iw ll) s1=some r,⟨36,[(6,.own 0 ts1),(27,.int .i64 iw),(26,.int .i64 ↑ll.length),(25,.aK false (List.map (ik cD) ll)),(2,.aD)]⟩,⟨[(0,.row 2 (s1.map cD) ts1 false)],1,0,[],[]⟩,List.length ll-iw)) ⟨(0,_,(0)),hm⟩ ?_
 rintro⟨i13,s1_13,ts1_13⟩ hq13
 dsimp only at hq13
 refine z ?_
 refine zd ?_ ?_<;>intro h14
 obtain⟨x14,ex14,ed14⟩:=av h14
 rw[ed14,xl] at hq13
 refine z ?_
 refine bx ex14 rfl (z ?_)
 obtain⟨hg15,hq13⟩:=eu hq13
 refine z ?_
 refine jY (z ?_)
 exact bk ⟨(i13+1,_,(ts1_13+1)),hq13⟩
 rw[aA h14,xl] at hq13
 cases hq13
 refine dH (z ?_)
 first|exact e2|exact rfl
theorem qq {c:Prop} [Decidable c] (h:c):zf c=some ():=by unfold zf;rw[HP h]
theorem IH (n:Int) (h1:0<=n) (h2:n<=1000000000):dD n=some ():=qq ⟨by omega,by omega⟩
theorem So {α:Type} {a b:List α} (h:a.length+b.length<1000000000):xl [a,b] []=some (a++b):=by
 simp only[xl,mu]
 rw[HP (by simp;omega),VU,HP (by simp;omega),VU,Xg]
theorem Sm {α:Type} {a b:List α} (h:a.length+b.length<1000000000):K2 [a,b] 0=some (0+(a.length:Int)+b.length):=by
 have g2:aR a=some ():=qq ii
 have g3:aR b=some ():=qq ii
 simp only[K2]
 rw[g2,g3,VU,IH _ ii ii,VU,TP ii,VU,IH _ ii ii,VU,TP ii]
theorem Sk {α:Type} {a b:List α} (h:a.length+b.length<1000000000):Sl [a,b]=some (a++b):=by
 have g1:aR [a,b]=some ():=qq (by simp)
 have g2:zf (0+(a.length:Int)+b.length<1000000000)=some ():=qq ii
 unfold Sl
 rw[g1,VU,Sm h,VU,g2,VU,TP ii,So h]
def kJ {α:Type} (a b:List α):Option (List α):=if a.length+b.length<1000000000 then some (a++b) else none
theorem wj {α:Type} {a b r:List α} (h:kJ a b=some r):Sl [a,b]=some r:=by
 unfold kJ at h
 by_cases hl:a.length+b.length<1000000000
 ·rw[HP hl] at h;rw[Sk hl];exact h
 ·rw[TP hl] at h;cases h
theorem zB {a b r:List Sv.Span} (hm:kJ a b=some r):Has Tryz.prog 105 [.aK false [[a7 a],[a7 b]]] fun s=>s=a7 r:=Si (wj hm)
section
variable {α:Type}
def kC (cmp:α->α->Option Int) (a:Int):Nat->List α->Int->Option (List α)
 |0,_,_=>none
 |n+1,l,j=>if j>a then(cJ l j).bind fun x=>(dD (j-1)).bind fun _=>(cJ l (j-1)).bind fun y=>(cmp x y).bind fun c=>if c<0 then
   (cJ l (j-1)).bind fun y=>(cJ l j).bind fun x=>(kZ l j y).bind fun l=>(kZ l (j-1) x).bind fun l=>kC cmp a n l (j-1) else some l else some l
def fy (cmp:α->α->Option Int) (a b:Int):Nat->List α->Int->Option (List α)
 |0,_,_=>none
 |n+1,l,i=>if i<b then(kC cmp a (l.length+1) l i).bind fun l=>(dD (i+1)).bind fun _=>fy cmp a b n l (i+1) else some l
def gC (cmp:α->α->Option Int) (l:List α):Option (List α):=(aR l).bind fun _=>if(l.length:Int)<=12 then fy cmp 0 l.length (l.length+1) l 1 else none
end
theorem N7 {fn:FuncId} {cmp:Sv.Span->Sv.Span->Option Int} (hg:∀{x y r},cmp x y=some r->Has Tryz.prog fn [.agg (cD x),.agg (cD y)] fun s=>s= .int .i64 r) {l r:List Sv.Span} {s:Nat} {n:Int} (hm:fy cmp 0 n (l.length+1) l 1=some r):
  lY Tryz.prog 272 (.row 2 (l.map cD) s false) [.own 1 s,.int .i64 0,.int .i64 n,.func (.func fn) [] []] fun v o=>v= .dZ []/\o= .row 2 (r.map cD) s false:=by
 refine dV ae (fn:=Tryz.f272) rfl (by simp only[bH,aL,eM,cl]) (by simp only[nb,cX,c9,cG,V3];rfl) (z ?_)
 refine lg (α:=Nat×List Span×Int) ae (fun(nw,s1,s2)=>(fy cmp (0) n nw s1 s2=some r,⟨53,[(8,.int .i64 s2),(0,.own 1 s),(1,.int .i64 0),(2,.int .i64 n),(3,.func (.func fn) [] [])]⟩,⟨[(0,ba),(1,.row 2 (s1.map cD) s false)],2,0,[],[]⟩,nw)) ⟨(_,_,_),hm⟩ ?_
 rintro⟨n1,s1_1,s2_1⟩ hq1
 dsimp only at hq1
 rcases n1 with _|n1
 ·(unfold fy at hq1;cases hq1)
 unfold fy at hq1
 refine z ?_
 refine zd ?_ ?_<;>intro h2
 ·rw[HP h2] at hq1
  refine bd rfl rfl ?_
  obtain⟨v3,hv3,hq1⟩:=aa hq1
  refine lg (α:=Nat×List Span×Int) ae (fun(nw,s1,s2)=>(kC cmp (0) nw s1 s2=some v3,⟨53,[(9,.int .i64 s2),(8,.int .i64 s2_1),(0,.own 1 s),(1,.int .i64 0),(2,.int .i64 n),(3,.func (.func fn) [] [])]⟩,⟨[(0,ba),(1,.row 2 (s1.map cD) s false)],2,0,[],[]⟩,nw)) ⟨(_,_,_),hv3⟩ ?_
  rintro⟨n3,s1_3,s2_3⟩ hq3
  dsimp only at hq3
  rcases n3 with _|n3
  ·(unfold kC at hq3;cases hq3)
  unfold kC at hq3
  refine z ?_
  refine dg ae [0,0,3,7,15,15,15,111,239,15,15,1039,3599,7695,16383,32767,65535] [] (z ?_)
  refine zd ?_ ?_<;>intro h4
  ·rw[HP h4] at hq3
   obtain⟨j5,x5,en5,ex5,hq3⟩:=az hq3
   refine aP en5 ex5 (z ?_)
   refine bT ex5 (z ?_)
   obtain⟨hg6,hq3⟩:=ah hq3
   refine z ?_
   obtain⟨j8,x8,en8,ex8,hq3⟩:=az hq3
   refine aP en8 ex8 (z ?_)
   refine bT ex8 (z ?_)
   obtain⟨v9,e9,hq3⟩:=aa hq3
   refine ce (hg e9) (z ?_)
   refine zd ?_ ?_<;>intro h10
   ·rw[HP h10] at hq3
    refine dg ae [0,0,0,0,8,0,0,64,224,480,0,0,3072,7168,16355,32739,65535,131071] [⟨17,0,0,[1]⟩,⟨15,0,0,[1]⟩] (z ?_)
    obtain⟨j15,x15,en15,ex15,hq3⟩:=az hq3
    refine aP en15 ex15 (z ?_)
    refine bT ex15 (z ?_)
    obtain⟨j16,x16,en16,ex16,hq3⟩:=az hq3
    refine aP en16 ex16 (z ?_)
    refine bT ex16 (z ?_)
    obtain⟨j17,x17,en17,ex17,hq3⟩:=cO hq3
    refine aP en17 ex17 (z ?_)
    refine cw _ x15 ex17 rfl (z ?_)
    obtain⟨j18,x18,en18,ex18,hq3⟩:=cO hq3
    refine aP en18 ex18 (z ?_)
    refine cw _ x16 ex18 rfl (z ?_)
    exact bk ⟨(n3,_,_),hq3⟩
   ·rw[TP h10] at hq3
    cases hq3
    refine z ?_
    obtain⟨hg19,hq1⟩:=ah hq1
    refine z ?_
    exact bk ⟨(n1,_,_),hq1⟩
  ·rw[TP h4] at hq3
   cases hq3
   refine z ?_
   obtain⟨hg20,hq1⟩:=ah hq1
   refine z ?_
   exact bk ⟨(n1,_,_),hq1⟩
 ·rw[TP h2] at hq1
  cases hq1
  exact mso
theorem M7 {fn:FuncId} {cmp:Sv.Span->Sv.Span->Option Int} (hg:∀{x y r},cmp x y=some r->Has Tryz.prog fn [.agg (cD x),.agg (cD y)] fun s=>s= .int .i64 r) {l r:List Sv.Span} {s:Nat} {n lim:Int} (h0:0<=n) (h12:n<=12) (hm:fy cmp 0 n (l.length+1) l 1=some r):
  lY Tryz.prog 219 (.row 2 (l.map cD) s false) [.own 1 s,.int .i64 0,.int .i64 n,.int .i64 lim,.func (.func fn) [] []] fun v o=>v= .dZ []/\o= .row 2 (r.map cD) s false:=by
 refine dV ae (fn:=Tryz.f219) rfl (by simp only[bH,aL,eM,cl]) (by simp only[nb,cX,c9,cG,V3];rfl) (z ?_)
 refine bE ae ?_
 refine z ?_
 have h1:((n-0:Int)<=12):=by omega
 refine LA h1 (z ?_)
 replace hm:=aJ hm
 obtain⟨v2,e2,hm⟩:=aa hm
 refine dq 1 (N7 hg e2) rfl rfl rfl rfl (z ?_)
 cases hm
 exact mso
def vB (n:Int):Option Int:=if 0<=n/\n<=12 then some (([0,1,2,2,3,3,3,3,4,4,4,4,4]:List Int).getD n.toNat 0) else none
theorem NQ {n r:Int} (hm:vB n=some r):Has Tryz.prog 243 [.int .u64 n] fun s=>s= .int .i64 r:=by
 have h:n=0\/n=1\/n=2\/n=3\/n=4\/n=5\/n=6\/n=7\/n=8\/n=9\/n=10\/n=11\/n=12:=by
  unfold vB at hm
  by_cases h:0<=n/\n<=12
  ·omega
  ·rw[TP h] at hm;cases hm
 rcases h with rfl|rfl|rfl|rfl|rfl|rfl|rfl|rfl|rfl|rfl|rfl|rfl|rfl
 ·replace hm:some (0:Int)=some r:=hm
  refine hs ae Tryz.f243 (z ?_)
  refine⟨0,0,rfl,rfl,?_⟩
  refine z ?_
  refine⟨⟨by have:=We (0);omega,by have:=We (0);omega⟩,?_⟩
  refine z ?_
  refine⟨⟨by have:=We (0);omega,by have:=We (0);omega⟩,?_⟩
  refine z ?_
  cases hm
  exact fc
 ·replace hm:some (1:Int)=some r:=hm
  refine hs ae Tryz.f243 (z ?_)
  refine⟨1,1,rfl,rfl,?_⟩
  refine z ?_
  refine⟨⟨by have:=We (1);omega,by have:=We (1);omega⟩,?_⟩
  refine z ?_
  refine⟨⟨by have:=We (1);omega,by have:=We (1);omega⟩,?_⟩
  refine z ?_
  cases hm
  exact fc
 ·replace hm:some (2:Int)=some r:=hm
  refine hs ae Tryz.f243 (z ?_)
  refine⟨2,2,rfl,rfl,?_⟩
  refine z ?_
  refine⟨⟨by have:=We (2);omega,by have:=We (2);omega⟩,?_⟩
  refine z ?_
  refine⟨⟨by have:=We (2);omega,by have:=We (2);omega⟩,?_⟩
  refine z ?_
  cases hm
  exact fc
 ·replace hm:some (2:Int)=some r:=hm
  refine hs ae Tryz.f243 (z ?_)
  refine⟨3,2,rfl,rfl,?_⟩
  refine z ?_
  refine⟨⟨by have:=We (2);omega,by have:=We (2);omega⟩,?_⟩
  refine z ?_
  refine⟨⟨by have:=We (2);omega,by have:=We (2);omega⟩,?_⟩
  refine z ?_
  cases hm
  exact fc
 ·replace hm:some (3:Int)=some r:=hm
  refine hs ae Tryz.f243 (z ?_)
  refine⟨4,3,rfl,rfl,?_⟩
  refine z ?_
  refine⟨⟨by have:=We (3);omega,by have:=We (3);omega⟩,?_⟩
  refine z ?_
  refine⟨⟨by have:=We (3);omega,by have:=We (3);omega⟩,?_⟩
  refine z ?_
  cases hm
  exact fc
 ·replace hm:some (3:Int)=some r:=hm
  refine hs ae Tryz.f243 (z ?_)
  refine⟨5,3,rfl,rfl,?_⟩
  refine z ?_
  refine⟨⟨by have:=We (3);omega,by have:=We (3);omega⟩,?_⟩
  refine z ?_
  refine⟨⟨by have:=We (3);omega,by have:=We (3);omega⟩,?_⟩
  refine z ?_
  cases hm
  exact fc
 ·replace hm:some (3:Int)=some r:=hm
  refine hs ae Tryz.f243 (z ?_)
  refine⟨6,3,rfl,rfl,?_⟩
  refine z ?_
  refine⟨⟨by have:=We (3);omega,by have:=We (3);omega⟩,?_⟩
  refine z ?_
  refine⟨⟨by have:=We (3);omega,by have:=We (3);omega⟩,?_⟩
  refine z ?_
  cases hm
  exact fc
 ·replace hm:some (3:Int)=some r:=hm
  refine hs ae Tryz.f243 (z ?_)
  refine⟨7,3,rfl,rfl,?_⟩
  refine z ?_
  refine⟨⟨by have:=We (3);omega,by have:=We (3);omega⟩,?_⟩
  refine z ?_
  refine⟨⟨by have:=We (3);omega,by have:=We (3);omega⟩,?_⟩
  refine z ?_
  cases hm
  exact fc
 ·replace hm:some (4:Int)=some r:=hm
  refine hs ae Tryz.f243 (z ?_)
  refine⟨8,4,rfl,rfl,?_⟩
  refine z ?_
  refine⟨⟨by have:=We (4);omega,by have:=We (4);omega⟩,?_⟩
  refine z ?_
  refine⟨⟨by have:=We (4);omega,by have:=We (4);omega⟩,?_⟩
  refine z ?_
  cases hm
  exact fc
 ·replace hm:some (4:Int)=some r:=hm
  refine hs ae Tryz.f243 (z ?_)
  refine⟨9,4,rfl,rfl,?_⟩
  refine z ?_
  refine⟨⟨by have:=We (4);omega,by have:=We (4);omega⟩,?_⟩
  refine z ?_
  refine⟨⟨by have:=We (4);omega,by have:=We (4);omega⟩,?_⟩
  refine z ?_
  cases hm
  exact fc
 ·replace hm:some (4:Int)=some r:=hm
  refine hs ae Tryz.f243 (z ?_)
  refine⟨10,4,rfl,rfl,?_⟩
  refine z ?_
  refine⟨⟨by have:=We (4);omega,by have:=We (4);omega⟩,?_⟩
  refine z ?_
  refine⟨⟨by have:=We (4);omega,by have:=We (4);omega⟩,?_⟩
  refine z ?_
  cases hm
  exact fc
 ·replace hm:some (4:Int)=some r:=hm
  refine hs ae Tryz.f243 (z ?_)
  refine⟨11,4,rfl,rfl,?_⟩
  refine z ?_
  refine⟨⟨by have:=We (4);omega,by have:=We (4);omega⟩,?_⟩
  refine z ?_
  refine⟨⟨by have:=We (4);omega,by have:=We (4);omega⟩,?_⟩
  refine z ?_
  cases hm
  exact fc
 ·replace hm:some (4:Int)=some r:=hm
  refine hs ae Tryz.f243 (z ?_)
  refine⟨12,4,rfl,rfl,?_⟩
  refine z ?_
  refine⟨⟨by have:=We (4);omega,by have:=We (4);omega⟩,?_⟩
  refine z ?_
  refine⟨⟨by have:=We (4);omega,by have:=We (4);omega⟩,?_⟩
  refine z ?_
  cases hm
  exact fc
theorem tJ {n r:Int} (hm:vB n=some r):Has Tryz.prog 207 [.int .u64 n] fun s=>s= .int .i64 r:=by
 refine hs ae Tryz.f207 (z ?_)
 replace hm:=aJ hm
 obtain⟨v1,e1,hm⟩:=aa hm
 refine ce (NQ e1) (z ?_)
 cases hm
 exact fc
theorem JV {fn:FuncId} {cmp:Sv.Span->Sv.Span->Option Int} (hg:∀{x y r},cmp x y=some r->Has Tryz.prog fn [.agg (cD x),.agg (cD y)] fun s=>s= .int .i64 r) {l r:List Sv.Span} {s:Nat} (hm:gC cmp l=some r):
  lY Tryz.prog 185 (.row 2 (l.map cD) s false) [.own 1 s,.func (.func fn) [] []] fun v o=>v= .dZ []/\o= .row 2 (r.map cD) s false:=by
 refine dV ae (fn:=Tryz.f185) rfl (by simp only[bH,aL,eM,cl]) (by simp only[nb,cX,c9,cG,V3];rfl) ?_
 unfold gC at hm
 obtain⟨hg1,hm⟩:=ah hm
 by_cases h12:(l.length:Int)<=12
 ·rw[HP h12] at hm
  replace hm:(some ()).bind (fun _=>(vB l.length).bind fun k=>(fy cmp 0 l.length (l.length+1) l 1).bind fun l=>some l)=some r:=by
   rw[vB,HP ⟨by omega,h12⟩]
   simpa using hm
  dsimp only[Option.bind_some] at hm
  refine z ?_
  obtain⟨v1,e1,hm⟩:=aa hm
  refine ce (tJ e1) (z ?_)
  obtain⟨v2,e2,hm⟩:=aa hm
  refine dq 1 (M7 hg ii h12 e2) rfl rfl rfl rfl (z ?_)
  cases hm
  exact mso
 ·rw[TP h12] at hm;cases hm
theorem KO {fn:FuncId} {cap:List SVal} (hc:aB cap=true) (hw:cH cap=cap) {cmp:cW Va->cW Va->Option Int} (hg:∀{x y r},cmp x y=some r->bp Tryz.prog fn (.agg (fI x):: .agg (fI y)::cap) fun s=>s= .int .i64 r) {l r:List (cW Va)} {s:Nat} {n:Int} (hm:fy cmp 0 n (l.length+1) l 1=some r):
  lY Tryz.prog 234 (.row 19 (l.map (dI aN)) s false) [.own 1 s,.int .i64 0,.int .i64 n,.func (.func fn) [] cap] fun v o=>v= .dZ []/\o= .row 19 (r.map (dI aN)) s false:=by
 refine dV ae (fn:=Tryz.f234) rfl (by simp only[bH,aL,eM,cl]) (by simp only[nb,cX,c9,cG,bq _ _ hc,V3];rfl) (z ?_)
 refine lg (α:=Nat×List (cW Va)×Int) ae (fun(nw,s1,s2)=>(fy cmp (0) n nw s1 s2=some r,⟨53,[(8,.int .i64 s2),(0,.own 1 s),(1,.int .i64 0),(2,.int .i64 n),(3,.func (.func fn) [] cap)]⟩,⟨[(0,ba),(1,.row 19 (s1.map (dI aN)) s false)],2,0,[],[]⟩,nw)) ⟨(_,_,_),hm⟩ ?_
 rintro⟨n1,s1_1,s2_1⟩ hq1
 dsimp only at hq1
 rcases n1 with _|n1
 ·(unfold fy at hq1;cases hq1)
 unfold fy at hq1
 refine z ?_
 refine zd ?_ ?_<;>intro h2
 ·rw[HP h2] at hq1
  refine bd rfl rfl ?_
  obtain⟨v3,hv3,hq1⟩:=aa hq1
  refine lg (α:=Nat×List (cW Va)×Int) ae (fun(nw,s1,s2)=>(kC cmp (0) nw s1 s2=some v3,⟨53,[(9,.int .i64 s2),(8,.int .i64 s2_1),(0,.own 1 s),(1,.int .i64 0),(2,.int .i64 n),(3,.func (.func fn) [] cap)]⟩,⟨[(0,ba),(1,.row 19 (s1.map (dI aN)) s false)],2,0,[],[]⟩,nw)) ⟨(_,_,_),hv3⟩ ?_
  rintro⟨n3,s1_3,s2_3⟩ hq3
  dsimp only at hq3
  rcases n3 with _|n3
  ·(unfold kC at hq3;cases hq3)
  unfold kC at hq3
  refine z ?_
  refine dg ae [0,0,3,7,15,15,15,111,239,15,15,1039,3599,7695,16383,32767,65535] [] (z ?_)
  refine zd ?_ ?_<;>intro h4
  ·rw[HP h4] at hq3
   obtain⟨j5,x5,en5,ex5,hq3⟩:=az hq3
   refine aP en5 ex5 (z ?_)
   refine pY (cB _) ex5 (z ?_)
   obtain⟨hg6,hq3⟩:=ah hq3
   refine z ?_
   obtain⟨j8,x8,en8,ex8,hq3⟩:=az hq3
   refine aP en8 ex8 (z ?_)
   refine pY (cB _) ex8 (z ?_)
   obtain⟨v9,e9,hq3⟩:=aa hq3
   refine jb (hg e9) (by(simp only[cH,kh,hw];try rfl)) rfl (z ?_)
   refine zd ?_ ?_<;>intro h10
   ·rw[HP h10] at hq3
    refine dg ae [0,0,0,0,8,0,0,64,224,480,0,0,3072,7168,16355,32739,65535,131071] [⟨17,0,0,[1]⟩,⟨15,0,0,[1]⟩] (z ?_)
    obtain⟨j15,x15,en15,ex15,hq3⟩:=az hq3
    refine aP en15 ex15 (z ?_)
    refine pY (cB _) ex15 (z ?_)
    obtain⟨j16,x16,en16,ex16,hq3⟩:=az hq3
    refine aP en16 ex16 (z ?_)
    refine pY (cB _) ex16 (z ?_)
    obtain⟨j17,x17,en17,ex17,hq3⟩:=cO hq3
    refine aP en17 ex17 (z ?_)
    refine FG _ x15 (cB _) (cB _) ex17 rfl (z ?_)
    obtain⟨j18,x18,en18,ex18,hq3⟩:=cO hq3
    refine aP en18 ex18 (z ?_)
    refine FG _ x16 (cB _) (cB _) ex18 rfl (z ?_)
    exact bk ⟨(n3,_,_),hq3⟩
   ·rw[TP h10] at hq3
    cases hq3
    refine z ?_
    obtain⟨hg19,hq1⟩:=ah hq1
    refine z ?_
    exact bk ⟨(n1,_,_),hq1⟩
  ·rw[TP h4] at hq3
   cases hq3
   refine z ?_
   obtain⟨hg20,hq1⟩:=ah hq1
   refine z ?_
   exact bk ⟨(n1,_,_),hq1⟩
 ·rw[TP h2] at hq1
  cases hq1
  exact mso
theorem Kl {fn:FuncId} {cap:List SVal} (hc:aB cap=true) (hw:cH cap=cap) {cmp:cW Va->cW Va->Option Int} (hg:∀{x y r},cmp x y=some r->bp Tryz.prog fn (.agg (fI x):: .agg (fI y)::cap) fun s=>s= .int .i64 r) {l r:List (cW Va)} {s:Nat} {n lim:Int} (h0:0<=n) (h12:n<=12) (hm:fy cmp 0 n (l.length+1) l 1=some r):
  lY Tryz.prog 206 (.row 19 (l.map (dI aN)) s false) [.own 1 s,.int .i64 0,.int .i64 n,.int .i64 lim,.func (.func fn) [] cap] fun v o=>v= .dZ []/\o= .row 19 (r.map (dI aN)) s false:=by
 refine dV ae (fn:=Tryz.f206) rfl (by simp only[bH,aL,eM,cl]) (by simp only[nb,cX,c9,cG,bq _ _ hc,V3];rfl) (z ?_)
 refine bE ae ?_
 refine z ?_
 have h1:((n-0:Int)<=12):=by omega
 refine LA h1 (z ?_)
 replace hm:=aJ hm
 obtain⟨v2,e2,hm⟩:=aa hm
 refine dq 1 (KO hc hw hg e2) (by simp only[cH,kh,cz,du,xR,hw,bW _ _ hc];rfl) rfl rfl rfl (z ?_)
 cases hm
 exact mso
theorem FY {fn:FuncId} {cap:List SVal} (hc:aB cap=true) (hw:cH cap=cap) {cmp:cW Va->cW Va->Option Int} (hg:∀{x y r},cmp x y=some r->bp Tryz.prog fn (.agg (fI x):: .agg (fI y)::cap) fun s=>s= .int .i64 r) {l r:List (cW Va)} {s:Nat} (hm:gC cmp l=some r):
  lY Tryz.prog 162 (.row 19 (l.map (dI aN)) s false) [.own 1 s,.func (.func fn) [] cap] fun v o=>v= .dZ []/\o= .row 19 (r.map (dI aN)) s false:=by
 refine dV ae (fn:=Tryz.f162) rfl (by simp only[bH,aL,eM,cl]) (by simp only[nb,cX,c9,cG,bq _ _ hc,V3];rfl) ?_
 unfold gC at hm
 obtain⟨hg1,hm⟩:=ah hm
 by_cases h12:(l.length:Int)<=12
 ·rw[HP h12] at hm
  replace hm:(some ()).bind (fun _=>(vB l.length).bind fun k=>(fy cmp 0 l.length (l.length+1) l 1).bind fun l=>some l)=some r:=by
   rw[vB,HP ⟨by omega,h12⟩]
   simpa using hm
  dsimp only[Option.bind_some] at hm
  refine z ?_
  obtain⟨v1,e1,hm⟩:=aa hm
  refine ce (tJ e1) (z ?_)
  obtain⟨v2,e2,hm⟩:=aa hm
  refine dq 1 (Kl hc hw hg ii h12 e2) (by simp only[cH,kh,cz,du,xR,hw,bW _ _ hc];rfl) rfl rfl rfl (z ?_)
  cases hm
  exact mso
 ·rw[TP h12] at hm;cases hm
theorem N9 {fn:FuncId} {cap:List SVal} (hc:aB cap=true) (hw:cH cap=cap) {cmp:aV Va->aV Va->Option Int} (hg:∀{x y r},cmp x y=some r->bp Tryz.prog fn (.agg (aS aN x):: .agg (aS aN y)::cap) fun s=>s= .int .i64 r) {l r:List (aV Va)} {s:Nat} {n:Int} (hm:fy cmp 0 n (l.length+1) l 1=some r):
  lY Tryz.prog 246 (.row 2 (l.map (aS aN)) s false) [.own 1 s,.int .i64 0,.int .i64 n,.func (.func fn) [] cap] fun v o=>v= .dZ []/\o= .row 2 (r.map (aS aN)) s false:=by
 refine dV ae (fn:=Tryz.f246) rfl (by simp only[bH,aL,eM,cl]) (by simp only[nb,cX,c9,cG,bq _ _ hc,V3];rfl) (z ?_)
 refine lg (α:=Nat×List (aV Va)×Int) ae (fun(nw,s1,s2)=>(fy cmp (0) n nw s1 s2=some r,⟨53,[(8,.int .i64 s2),(0,.own 1 s),(1,.int .i64 0),(2,.int .i64 n),(3,.func (.func fn) [] cap)]⟩,⟨[(0,ba),(1,.row 2 (s1.map (aS aN)) s false)],2,0,[],[]⟩,nw)) ⟨(_,_,_),hm⟩ ?_
 rintro⟨n1,s1_1,s2_1⟩ hq1
 dsimp only at hq1
 rcases n1 with _|n1
 ·(unfold fy at hq1;cases hq1)
 unfold fy at hq1
 refine z ?_
 refine zd ?_ ?_<;>intro h2
 ·rw[HP h2] at hq1
  refine bd rfl rfl ?_
  obtain⟨v3,hv3,hq1⟩:=aa hq1
  refine lg (α:=Nat×List (aV Va)×Int) ae (fun(nw,s1,s2)=>(kC cmp (0) nw s1 s2=some v3,⟨53,[(9,.int .i64 s2),(8,.int .i64 s2_1),(0,.own 1 s),(1,.int .i64 0),(2,.int .i64 n),(3,.func (.func fn) [] cap)]⟩,⟨[(0,ba),(1,.row 2 (s1.map (aS aN)) s false)],2,0,[],[]⟩,nw)) ⟨(_,_,_),hv3⟩ ?_
  rintro⟨n3,s1_3,s2_3⟩ hq3
  dsimp only at hq3
  rcases n3 with _|n3
  ·(unfold kC at hq3;cases hq3)
  unfold kC at hq3
  refine z ?_
  refine dg ae [0,0,3,7,15,15,15,111,239,15,15,1039,3599,7695,16383,32767,65535] [] (z ?_)
  refine zd ?_ ?_<;>intro h4
  ·rw[HP h4] at hq3
   obtain⟨j5,x5,en5,ex5,hq3⟩:=az hq3
   refine aP en5 ex5 (z ?_)
   refine bT ex5 (z ?_)
   obtain⟨hg6,hq3⟩:=ah hq3
   refine z ?_
   obtain⟨j8,x8,en8,ex8,hq3⟩:=az hq3
   refine aP en8 ex8 (z ?_)
   refine bT ex8 (z ?_)
   obtain⟨v9,e9,hq3⟩:=aa hq3
   refine jb (hg e9) (by(simp only[cH,kh,hw];try rfl)) rfl (z ?_)
   refine zd ?_ ?_<;>intro h10
   ·rw[HP h10] at hq3
    refine dg ae [0,0,0,0,8,0,0,64,224,480,0,0,3072,7168,16355,32739,65535,131071] [⟨17,0,0,[1]⟩,⟨15,0,0,[1]⟩] (z ?_)
    obtain⟨j15,x15,en15,ex15,hq3⟩:=az hq3
    refine aP en15 ex15 (z ?_)
    refine bT ex15 (z ?_)
    obtain⟨j16,x16,en16,ex16,hq3⟩:=az hq3
    refine aP en16 ex16 (z ?_)
    refine bT ex16 (z ?_)
    obtain⟨j17,x17,en17,ex17,hq3⟩:=cO hq3
    refine aP en17 ex17 (z ?_)
    refine cw _ x15 ex17 rfl (z ?_)
    obtain⟨j18,x18,en18,ex18,hq3⟩:=cO hq3
    refine aP en18 ex18 (z ?_)
    refine cw _ x16 ex18 rfl (z ?_)
    exact bk ⟨(n3,_,_),hq3⟩
   ·rw[TP h10] at hq3
    cases hq3
    refine z ?_
    obtain⟨hg19,hq1⟩:=ah hq1
    refine z ?_
    exact bk ⟨(n1,_,_),hq1⟩
  ·rw[TP h4] at hq3
   cases hq3
   refine z ?_
   obtain⟨hg20,hq1⟩:=ah hq1
   refine z ?_
   exact bk ⟨(n1,_,_),hq1⟩
 ·rw[TP h2] at hq1
  cases hq1
  exact mso
theorem M9 {fn:FuncId} {cap:List SVal} (hc:aB cap=true) (hw:cH cap=cap) {cmp:aV Va->aV Va->Option Int} (hg:∀{x y r},cmp x y=some r->bp Tryz.prog fn (.agg (aS aN x):: .agg (aS aN y)::cap) fun s=>s= .int .i64 r) {l r:List (aV Va)} {s:Nat} {n lim:Int} (h0:0<=n) (h12:n<=12) (hm:fy cmp 0 n (l.length+1) l 1=some r):
  lY Tryz.prog 211 (.row 2 (l.map (aS aN)) s false) [.own 1 s,.int .i64 0,.int .i64 n,.int .i64 lim,.func (.func fn) [] cap] fun v o=>v= .dZ []/\o= .row 2 (r.map (aS aN)) s false:=by
 refine dV ae (fn:=Tryz.f211) rfl (by simp only[bH,aL,eM,cl]) (by simp only[nb,cX,c9,cG,bq _ _ hc,V3];rfl) (z ?_)
 refine bE ae ?_
 refine z ?_
 have h1:((n-0:Int)<=12):=by omega
 refine LA h1 (z ?_)
 replace hm:=aJ hm
 obtain⟨v2,e2,hm⟩:=aa hm
 refine dq 1 (N9 hc hw hg e2) (by simp only[cH,kh,cz,du,xR,hw,bW _ _ hc];rfl) rfl rfl rfl (z ?_)
 cases hm
 exact mso
theorem JX {fn:FuncId} {cap:List SVal} (hc:aB cap=true) (hw:cH cap=cap) {cmp:aV Va->aV Va->Option Int} (hg:∀{x y r},cmp x y=some r->bp Tryz.prog fn (.agg (aS aN x):: .agg (aS aN y)::cap) fun s=>s= .int .i64 r) {l r:List (aV Va)} {s:Nat} (hm:gC cmp l=some r):
  lY Tryz.prog 165 (.row 2 (l.map (aS aN)) s false) [.own 1 s,.func (.func fn) [] cap] fun v o=>v= .dZ []/\o= .row 2 (r.map (aS aN)) s false:=by
 refine dV ae (fn:=Tryz.f165) rfl (by simp only[bH,aL,eM,cl]) (by simp only[nb,cX,c9,cG,bq _ _ hc,V3];rfl) ?_
 unfold gC at hm
 obtain⟨hg1,hm⟩:=ah hm
 by_cases h12:(l.length:Int)<=12
 ·rw[HP h12] at hm
  replace hm:(some ()).bind (fun _=>(vB l.length).bind fun k=>(fy cmp 0 l.length (l.length+1) l 1).bind fun l=>some l)=some r:=by
   rw[vB,HP ⟨by omega,h12⟩]
   simpa using hm
  dsimp only[Option.bind_some] at hm
  refine z ?_
  obtain⟨v1,e1,hm⟩:=aa hm
  refine ce (tJ e1) (z ?_)
  obtain⟨v2,e2,hm⟩:=aa hm
  refine dq 1 (M9 hc hw hg ii h12 e2) (by simp only[cH,kh,cz,du,xR,hw,bW _ _ hc];rfl) rfl rfl rfl (z ?_)
  cases hm
  exact mso
 ·rw[TP h12] at hm;cases hm
theorem N8 {fn:FuncId} {cap:List SVal} (hc:aB cap=true) (hw:cH cap=cap) {cmp:aF Va->aF Va->Option Int} (hg:∀{x y r},cmp x y=some r->bp Tryz.prog fn (.agg (aG aN x):: .agg (aG aN y)::cap) fun s=>s= .int .i64 r) {l r:List (aF Va)} {s:Nat} {n:Int} (hm:fy cmp 0 n (l.length+1) l 1=some r):
  lY Tryz.prog 264 (.row 2 (l.map (aG aN)) s false) [.own 1 s,.int .i64 0,.int .i64 n,.func (.func fn) [] cap] fun v o=>v= .dZ []/\o= .row 2 (r.map (aG aN)) s false:=by
 refine dV ae (fn:=Tryz.f264) rfl (by simp only[bH,aL,eM,cl]) (by simp only[nb,cX,c9,cG,bq _ _ hc,V3];rfl) (z ?_)
 refine lg (α:=Nat×List (aF Va)×Int) ae (fun(nw,s1,s2)=>(fy cmp (0) n nw s1 s2=some r,⟨53,[(8,.int .i64 s2),(0,.own 1 s),(1,.int .i64 0),(2,.int .i64 n),(3,.func (.func fn) [] cap)]⟩,⟨[(0,ba),(1,.row 2 (s1.map (aG aN)) s false)],2,0,[],[]⟩,nw)) ⟨(_,_,_),hm⟩ ?_
 rintro⟨n1,s1_1,s2_1⟩ hq1
 dsimp only at hq1
 rcases n1 with _|n1
 ·(unfold fy at hq1;cases hq1)
 unfold fy at hq1
 refine z ?_
 refine zd ?_ ?_<;>intro h2
 ·rw[HP h2] at hq1
  refine bd rfl rfl ?_
  obtain⟨v3,hv3,hq1⟩:=aa hq1
  refine lg (α:=Nat×List (aF Va)×Int) ae (fun(nw,s1,s2)=>(kC cmp (0) nw s1 s2=some v3,⟨53,[(9,.int .i64 s2),(8,.int .i64 s2_1),(0,.own 1 s),(1,.int .i64 0),(2,.int .i64 n),(3,.func (.func fn) [] cap)]⟩,⟨[(0,ba),(1,.row 2 (s1.map (aG aN)) s false)],2,0,[],[]⟩,nw)) ⟨(_,_,_),hv3⟩ ?_
  rintro⟨n3,s1_3,s2_3⟩ hq3
  dsimp only at hq3
  rcases n3 with _|n3
  ·(unfold kC at hq3;cases hq3)
  unfold kC at hq3
  refine z ?_
  refine dg ae [0,0,3,7,15,15,15,111,239,15,15,1039,3599,7695,16383,32767,65535] [] (z ?_)
  refine zd ?_ ?_<;>intro h4
  ·rw[HP h4] at hq3
   obtain⟨j5,x5,en5,ex5,hq3⟩:=az hq3
   refine aP en5 ex5 (z ?_)
   refine bT ex5 (z ?_)
   obtain⟨hg6,hq3⟩:=ah hq3
   refine z ?_
   obtain⟨j8,x8,en8,ex8,hq3⟩:=az hq3
   refine aP en8 ex8 (z ?_)
   refine bT ex8 (z ?_)
   obtain⟨v9,e9,hq3⟩:=aa hq3
   refine jb (hg e9) (by(simp only[cH,kh,hw];try rfl)) rfl (z ?_)
   refine zd ?_ ?_<;>intro h10
   ·rw[HP h10] at hq3
    refine dg ae [0,0,0,0,8,0,0,64,224,480,0,0,3072,7168,16355,32739,65535,131071] [⟨17,0,0,[1]⟩,⟨15,0,0,[1]⟩] (z ?_)
    obtain⟨j15,x15,en15,ex15,hq3⟩:=az hq3
    refine aP en15 ex15 (z ?_)
    refine bT ex15 (z ?_)
    obtain⟨j16,x16,en16,ex16,hq3⟩:=az hq3
    refine aP en16 ex16 (z ?_)
    refine bT ex16 (z ?_)
    obtain⟨j17,x17,en17,ex17,hq3⟩:=cO hq3
    refine aP en17 ex17 (z ?_)
    refine cw _ x15 ex17 rfl (z ?_)
    obtain⟨j18,x18,en18,ex18,hq3⟩:=cO hq3
    refine aP en18 ex18 (z ?_)
    refine cw _ x16 ex18 rfl (z ?_)
    exact bk ⟨(n3,_,_),hq3⟩
   ·rw[TP h10] at hq3
    cases hq3
    refine z ?_
    obtain⟨hg19,hq1⟩:=ah hq1
    refine z ?_
    exact bk ⟨(n1,_,_),hq1⟩
  ·rw[TP h4] at hq3
   cases hq3
   refine z ?_
   obtain⟨hg20,hq1⟩:=ah hq1
   refine z ?_
   exact bk ⟨(n1,_,_),hq1⟩
 ·rw[TP h2] at hq1
  cases hq1
  exact mso
theorem M8 {fn:FuncId} {cap:List SVal} (hc:aB cap=true) (hw:cH cap=cap) {cmp:aF Va->aF Va->Option Int} (hg:∀{x y r},cmp x y=some r->bp Tryz.prog fn (.agg (aG aN x):: .agg (aG aN y)::cap) fun s=>s= .int .i64 r) {l r:List (aF Va)} {s:Nat} {n lim:Int} (h0:0<=n) (h12:n<=12) (hm:fy cmp 0 n (l.length+1) l 1=some r):
  lY Tryz.prog 213 (.row 2 (l.map (aG aN)) s false) [.own 1 s,.int .i64 0,.int .i64 n,.int .i64 lim,.func (.func fn) [] cap] fun v o=>v= .dZ []/\o= .row 2 (r.map (aG aN)) s false:=by
 refine dV ae (fn:=Tryz.f213) rfl (by simp only[bH,aL,eM,cl]) (by simp only[nb,cX,c9,cG,bq _ _ hc,V3];rfl) (z ?_)
 refine bE ae ?_
 refine z ?_
 have h1:((n-0:Int)<=12):=by omega
 refine LA h1 (z ?_)
 replace hm:=aJ hm
 obtain⟨v2,e2,hm⟩:=aa hm
 refine dq 1 (N8 hc hw hg e2) (by simp only[cH,kh,cz,du,xR,hw,bW _ _ hc];rfl) rfl rfl rfl (z ?_)
 cases hm
 exact mso
theorem JW {fn:FuncId} {cap:List SVal} (hc:aB cap=true) (hw:cH cap=cap) {cmp:aF Va->aF Va->Option Int} (hg:∀{x y r},cmp x y=some r->bp Tryz.prog fn (.agg (aG aN x):: .agg (aG aN y)::cap) fun s=>s= .int .i64 r) {l r:List (aF Va)} {s:Nat} (hm:gC cmp l=some r):
  lY Tryz.prog 169 (.row 2 (l.map (aG aN)) s false) [.own 1 s,.func (.func fn) [] cap] fun v o=>v= .dZ []/\o= .row 2 (r.map (aG aN)) s false:=by
 refine dV ae (fn:=Tryz.f169) rfl (by simp only[bH,aL,eM,cl]) (by simp only[nb,cX,c9,cG,bq _ _ hc,V3];rfl) ?_
 unfold gC at hm
 obtain⟨hg1,hm⟩:=ah hm
 by_cases h12:(l.length:Int)<=12
 ·rw[HP h12] at hm
  replace hm:(some ()).bind (fun _=>(vB l.length).bind fun k=>(fy cmp 0 l.length (l.length+1) l 1).bind fun l=>some l)=some r:=by
   rw[vB,HP ⟨by omega,h12⟩]
   simpa using hm
  dsimp only[Option.bind_some] at hm
  refine z ?_
  obtain⟨v1,e1,hm⟩:=aa hm
  refine ce (tJ e1) (z ?_)
  obtain⟨v2,e2,hm⟩:=aa hm
  refine dq 1 (M8 hc hw hg ii h12 e2) (by simp only[cH,kh,cz,du,xR,hw,bW _ _ hc];rfl) rfl rfl rfl (z ?_)
  cases hm
  exact mso
 ·rw[TP h12] at hm;cases hm
structure cL where
 ints:List Sv.Span
 bC:List Sv.Span
def cN (n:cL):List SVal:=[a7 n.ints,a7 n.bC]
instance :Cl cN:=⟨fun n=>by simp only[cN,aB,bN,V3]⟩
abbrev mx (a b:Int):Int:=if b>a then b else a
abbrev mn (a b:Int):Int:=if b<a then b else a
def zG (a b:Sv.Span):Option Int:=(K9 a.lo b.lo).bind fun r=>some r
theorem OW {a b:Sv.Span} {r:Int} (hm:zG a b=some r):Has Tryz.prog 186 [.agg (cD a),.agg (cD b)] fun s=>s= .int .i64 r:=by
 refine hs ae Tryz.f186 ?_
 unfold zG at hm
 refine z ?_
 obtain⟨v1,e1,hm⟩:=aa hm
 refine ce (SC e1) (z ?_)
 cases hm
 exact fc
/-! numset -/
def whole (n:Int):Option Int:=(dD (n+1)).bind fun _=>some (n+1)
theorem B0 {n r:Int} (hm:whole n=some r):Has Tryz.prog 141 [.int .i64 n] fun s=>s= .int .i64 r:=by
 refine hs ae Tryz.f141 ?_
 unfold whole at hm
 refine z ?_
 obtain⟨hg1,hm⟩:=ah hm
 refine z ?_
 cases hm
 exact fc
def back (n:Int):Option Int:=(dD (n-1)).bind fun _=>some (n-1)
theorem SR {n r:Int} (hm:back n=some r):Has Tryz.prog 193 [.int .i64 n] fun s=>s= .int .i64 r:=by
 refine hs ae Tryz.f193 ?_
 unfold back at hm
 refine z ?_
 obtain⟨hg1,hm⟩:=ah hm
 refine z ?_
 cases hm
 exact fc
def after (u:Int):Option Int:=(dD (u+1)).bind fun _=>if(u+1).tmod 10000=0 then(dD (u+2)).bind fun _=>some (u+2) else some (u+1)
theorem E6 {n r:Int} (hm:after n=some r):Has Tryz.prog 142 [.int .i64 n] fun s=>s= .int .i64 r:=by
 refine hs ae Tryz.f142 ?_
 unfold after at hm
 refine z ?_
 obtain⟨hg1,hm⟩:=ah hm
 refine z ?_
 refine zd ?_ ?_<;>intro h2
 rw[HP h2] at hm
 obtain⟨hg3,hm⟩:=ah hm
 refine z ?_
 cases hm
 exact fc
 rw[TP h2] at hm
 cases hm
 exact fc
def before (u:Int):Option Int:=(dD (u-1)).bind fun _=>if(u-1).tmod 10000=0 then(dD (u-2)).bind fun _=>some (u-2) else some (u-1)
theorem Lz {n r:Int} (hm:before n=some r):Has Tryz.prog 194 [.int .i64 n] fun s=>s= .int .i64 r:=by
 refine hs ae Tryz.f194 ?_
 unfold before at hm
 refine z ?_
 obtain⟨hg1,hm⟩:=ah hm
 refine z ?_
 refine zd ?_ ?_<;>intro h2
 rw[HP h2] at hm
 obtain⟨hg3,hm⟩:=ah hm
 refine z ?_
 cases hm
 exact fc
 rw[TP h2] at hm
 cases hm
 exact fc
def iI (next:Int->Option Int):List Sv.Span->List Sv.Span->Option (List Sv.Span)
 |[],out=>some out
 |s::r,out=>(aR out).bind fun _=>if(out.length:Int)>0 then(cJ out (out.length-1)).bind fun p=>(next p.hi).bind fun q=>if s.lo<=q then
    (cJ out (out.length-1)).bind fun p=>(ot out (out.length-1) fun z=>⟨z.lo,mx p.hi s.hi⟩).bind fun out=>iI next r out
   else(push out s).bind fun out=>iI next r out
  else(push out s).bind fun out=>iI next r out
def jS (next:Int->Option Int) (l:List Sv.Span):Option (List Sv.Span):=(Tx l).bind fun _=>(gC zG l).bind fun l=>(aR l).bind fun _=>iI next l []
theorem yZ {fn:FuncId} {next:Int->Option Int} (hg:∀{x r},next x=some r->Has Tryz.prog fn [.int .i64 x] fun s=>s= .int .i64 r) {l r:List Sv.Span} (hm:jS next l=some r):bp Tryz.prog 140 [a7 l,.func (.func fn) [] []] fun s=>s=a7 r:=by
 refine ht ae Tryz.f140 ?_
 unfold jS at hm
 refine z ?_
 obtain⟨hg1,hm⟩:=ah hm
 refine⟨_,_,rfl,rfl,V2 _,by omega,?_⟩
 refine z ?_
 refine G9 cD ⟨_,_⟩ rfl (z ?_)
 refine⟨by simp only[V4,Wc],?_⟩
 refine z ?_
 refine E1 (z ?_)
 obtain⟨v3,e3,hm⟩:=aa hm
 refine dq 1 (JV OW e3) rfl rfl rfl rfl (z ?_)
 obtain⟨hg4,hm⟩:=ah hm
 refine cr 6 2 rfl ?_
 refine lg (α:=Nat×List Span×Nat) ae (fun(iw,s1,ts1)=>(iI next (List.drop iw v3) s1=some r,⟨61,[(6,.own 2 ts1),(20,.int .i64 iw),(19,.int .i64 ↑v3.length),(18,.own 1 0),(4,.aD),(1,.func (.func fn) [] [])]⟩,⟨[(2,.row 2 (s1.map cD) ts1 false),(1,.row 2 (List.map cD v3) 0 false),(0,ba)],3,0,[],[]⟩,List.length v3-iw)) ⟨(0,_,(0)),hm⟩ ?_
 rintro⟨i5,s1_5,ts1_5⟩ hq5
 dsimp only at hq5
 refine z ?_
 refine zd ?_ ?_<;>intro h6
 obtain⟨x6,ex6,ed6⟩:=av h6
 rw[ed6,iI] at hq5
 refine z ?_
 obtain⟨hg7,hq5⟩:=ah hq5
 refine aP rfl ex6 (z ?_)
 refine bT ex6 (z ?_)
 refine dg ae [0,1,3,7,15,7,7,7,135,455,967,1991,4071,8191,16383] [] (z ?_)
 refine zd ?_ ?_<;>intro h8
 rw[HP h8] at hq5
 obtain⟨j9,x9,en9,ex9,hq5⟩:=az hq5
 refine aP en9 ex9 (z ?_)
 refine bT ex9 (z ?_)
 obtain⟨v10,e10,hq5⟩:=aa hq5
 refine ce (hg e10) (z ?_)
 refine zd ?_ ?_<;>intro h11
 rw[HP h11] at hq5
 refine dg ae [0,0,2,0,0,16,56,120,248,0,512,2040,4095,8191,16383] [] (z ?_)
 obtain⟨j12,x12,en12,ex12,hq5⟩:=az hq5
 refine aP en12 ex12 (z ?_)
 refine bT ex12 (z ?_)
 obtain⟨j13,x13,en13,ex13,hq5⟩:=bY hq5
 refine aP en13 ex13 (z ?_)
 refine cw _ ({lo:=x13.lo,hi:=mx x12.hi x6.hi}) ex13 rfl (z ?_)
 exact bk ⟨(i5+1,_,ts1_5),hq5⟩
 rw[TP h11] at hq5
 obtain⟨hg14,hq5⟩:=aC hq5
 refine z ?_
 refine aM x6 rfl (z ?_)
 exact bk ⟨(i5+1,_,(ts1_5+1)),hq5⟩
 rw[TP h8] at hq5
 obtain⟨hg15,hq5⟩:=aC hq5
 refine z ?_
 refine aM x6 rfl (z ?_)
 exact bk ⟨(i5+1,_,(ts1_5+1)),hq5⟩
 rw[aA h6,iI] at hq5
 cases hq5
 refine a8 (z ?_)
 exact mt
def LS:List Sv.Span->List Sv.Span->Option (List Sv.Span)
 |[],out=>some out
 |x::r,out=>if mx x.lo (-100000000000)<=mn x.hi 100000000000 then(push out ⟨mx x.lo (-100000000000),mn x.hi 100000000000⟩).bind fun out=>LS r out else LS r out
def Cu (n:Int):Option Int:=if n.tmod 10000=0 then(dD (n+1)).bind fun _=>some (n+1) else some n
def As (n:Int):Option Int:=if n.tmod 10000=0 then(dD (n-1)).bind fun _=>some (n-1) else some n
def LU:List Sv.Span->List Sv.Span->Option (List Sv.Span)
 |[],out=>some out
 |x::r,out=>(Cu (mx x.lo (-1000000000000000))).bind fun lo=>(As (mn x.hi 1000000000000000)).bind fun hi=>if lo<=hi then(push out ⟨lo,hi⟩).bind fun out=>LU r out else LU r out
def fZ (s:cL):Option cL:=(aR s.ints).bind fun _=>(LS s.ints []).bind fun i=>(aR s.bC).bind fun _=>(LU s.bC []).bind fun f=>
 (jS whole i).bind fun i=>(jS after f).bind fun f=>some ⟨i,f⟩
theorem fx {s r:cL} (hm:fZ s=some r):bp Tryz.prog 104 [.agg (cN s)] fun v=>v= .agg (cN r):=by
 refine ht ae Tryz.f104 ?_
 unfold fZ at hm
 refine z ?_
 obtain⟨hg1,hm⟩:=ah hm
 obtain⟨v2,hv2,hm⟩:=aa hm
 refine cr 3 2 rfl ?_
 refine lg (α:=Nat×List Span×Nat) ae (fun(iw,s1,ts1)=>(LS (List.drop iw s.ints) s1=some v2,⟨78,[(3,.own 3 ts1),(12,.int .i64 iw),(11,.int .i64 ↑s.ints.length),(10,a7 s.ints),(4,.aD),(2,.ptr 2 0),(1,.ptr 1 0)]⟩,⟨[(3,.row 2 (s1.map cD) ts1 false),(2,.cells [.aD,.aD]),(1,.cells (cN s)),(0,ba)],4,0,[],[]⟩,List.length s.ints-iw)) ⟨(0,_,(0)),hv2⟩ ?_
 rintro⟨i2,s1_2,ts1_2⟩ hq2
 dsimp only at hq2
 refine z ?_
 refine zd ?_ ?_<;>intro h3
 obtain⟨x3,ex3,ed3⟩:=av h3
 rw[ed3,LS] at hq2
 refine z ?_
 refine bx ex3 rfl (z ?_)
 refine zd ?_ ?_<;>intro h4
 rw[HP h4] at hq2
 obtain⟨hg5,hq2⟩:=aC hq2
 refine z ?_
 refine aM ({lo:=mx x3.lo (-100000000000),hi:=mn x3.hi 100000000000}) rfl (z ?_)
 exact bk ⟨(i2+1,_,(ts1_2+1)),hq2⟩
 rw[TP h4] at hq2
 exact bk ⟨(i2+1,_,ts1_2),hq2⟩
 rw[aA h3,LS] at hq2
 cases hq2
 refine z ?_
 obtain⟨hg6,hm⟩:=ah hm
 refine bd rfl rfl ?_
 obtain⟨v7,hv7,hm⟩:=aa hm
 refine cr 4 2 rfl ?_
 refine lg (α:=Nat×List Span×Nat) ae (fun(iw,s1,ts1)=>(LU (List.drop iw s.bC) s1=some v7,⟨78,[(4,.own 4 ts1),(36,.int .i64 iw),(35,.int .i64 ↑s.bC.length),(34,a7 s.bC),(3,.own 3 ts1_2),(2,.ptr 2 0)]⟩,⟨[(4,.row 2 (s1.map cD) ts1 false),(3,.row 2 (List.map cD v2) ts1_2 false),(2,.cells [.aD,.aD]),(1,.cells (cN s)),(0,ba)],5,0,[],[]⟩,List.length s.bC-iw)) ⟨(0,_,(0)),hv7⟩ ?_
 rintro⟨i7,s1_7,ts1_7⟩ hq7
 dsimp only at hq7
 refine z ?_
 refine zd ?_ ?_<;>intro h8
 obtain⟨x8,ex8,ed8⟩:=av h8
 rw[ed8,LU] at hq7
 unfold Cu at hq7
 refine z ?_
 refine bx ex8 rfl (z ?_)
 refine zd ?_ ?_<;>intro h9
 rw[HP h9] at hq7
 rw[VY] at hq7
 refine z ?_
 obtain⟨hg10,hq7⟩:=ah hq7
 dsimp only[Option.bind_some] at hq7
 unfold As at hq7
 refine⟨by simp only[ym,V4,WA,V5,Ws,V7];omega,?_⟩
 refine z ?_
 refine zd ?_ ?_<;>intro h12
 rw[HP h12] at hq7
 rw[VY] at hq7
 refine z ?_
 obtain⟨hg13,hq7⟩:=ah hq7
 dsimp only[Option.bind_some] at hq7
 refine⟨by simp only[ym,V4,WA,V5,Ws,V7];omega,?_⟩
 refine z ?_
 refine zd ?_ ?_<;>intro h14
 rw[HP h14] at hq7
 obtain⟨hg15,hq7⟩:=aC hq7
 refine z ?_
 refine aM ({lo:=mx x8.lo (-1000000000000000)+1,hi:=mn x8.hi 1000000000000000-1}) rfl (z ?_)
 exact bk ⟨(i7+1,_,(ts1_7+1)),hq7⟩
 rw[TP h14] at hq7
 exact bk ⟨(i7+1,_,ts1_7),hq7⟩
 rw[TP h12] at hq7
 dsimp only[Option.bind_some] at hq7
 refine z ?_
 refine zd ?_ ?_<;>intro h16
 rw[HP h16] at hq7
 obtain⟨hg17,hq7⟩:=aC hq7
 refine z ?_
 refine aM ({lo:=mx x8.lo (-1000000000000000)+1,hi:=mn x8.hi 1000000000000000}) rfl (z ?_)
 exact bk ⟨(i7+1,_,(ts1_7+1)),hq7⟩
 rw[TP h16] at hq7
 exact bk ⟨(i7+1,_,ts1_7),hq7⟩
 rw[TP h9] at hq7
 dsimp only[Option.bind_some] at hq7
 unfold As at hq7
 refine z ?_
 refine zd ?_ ?_<;>intro h18
 rw[HP h18] at hq7
 rw[VY] at hq7
 refine z ?_
 obtain⟨hg19,hq7⟩:=ah hq7
 dsimp only[Option.bind_some] at hq7
 refine⟨by simp only[ym,V4,WA,V5,Ws,V7];omega,?_⟩
 refine z ?_
 refine zd ?_ ?_<;>intro h20
 rw[HP h20] at hq7
 obtain⟨hg21,hq7⟩:=aC hq7
 refine z ?_
 refine aM ({lo:=mx x8.lo (-1000000000000000),hi:=mn x8.hi 1000000000000000-1}) rfl (z ?_)
 exact bk ⟨(i7+1,_,(ts1_7+1)),hq7⟩
 rw[TP h20] at hq7
 exact bk ⟨(i7+1,_,ts1_7),hq7⟩
 rw[TP h18] at hq7
 dsimp only[Option.bind_some] at hq7
 refine z ?_
 refine zd ?_ ?_<;>intro h22
 rw[HP h22] at hq7
 obtain⟨hg23,hq7⟩:=aC hq7
 refine z ?_
 refine aM ({lo:=mx x8.lo (-1000000000000000),hi:=mn x8.hi 1000000000000000}) rfl (z ?_)
 exact bk ⟨(i7+1,_,(ts1_7+1)),hq7⟩
 rw[TP h22] at hq7
 exact bk ⟨(i7+1,_,ts1_7),hq7⟩
 rw[aA h8,LU] at hq7
 cases hq7
 refine z ?_
 obtain⟨v24,e24,hm⟩:=aa hm
 refine bI (yZ B0 e24) (z ?_)
 obtain⟨v25,e25,hm⟩:=aa hm
 refine bI (yZ E6 e25) (z ?_)
 cases hm
 exact mst
abbrev FW (x y:Sv.Span):Bool:=decide (x.lo=y.lo)&&(decide (x.hi=y.hi)&&true)
def iP (b:List Sv.Span):List Sv.Span->Int->Option Bool
 |[],_=>some true
 |x::r,i=>(cJ b i).bind fun y=>if FW x y then iP b r (i+1) else some false
def fH (a b:List Sv.Span):Option Bool:=
 if(a.length:Int)=b.length then(aR a).bind fun _=>iP b a 0 else some false
theorem lz {a b:List Sv.Span} {r:Bool} (hm:fH a b=some r):Has Tryz.prog 178 [a7 a,a7 b] fun s=>s= .bool r:=by
 refine hs ae Tryz.f178 ?_
 unfold fH at hm
 refine z ?_
 refine zn ?_ ?_<;>intro h1
 rw[TP h1] at hm
 cases hm
 exact fc
 rw[HP h1] at hm
 obtain⟨hg2,hm⟩:=ah hm
 refine lg (α:=Nat) ae (fun iw=>(iP b (List.drop iw a) (iw:Int)=some r,⟨26,[(13,.int .i64 iw),(12,.int .i64 ↑a.length),(4,.bool false),(0,a7 a),(1,a7 b)]⟩,⟨[],0,0,[],[]⟩,List.length a-iw)) ⟨(0),hm⟩ ?_
 intro i3 hq3
 dsimp only at hq3
 refine z ?_
 refine zd ?_ ?_<;>intro h4
 obtain⟨x4,ex4,ed4⟩:=av h4
 rw[ed4,iP] at hq3
 refine z ?_
 refine dg ae [0,0,3,7,0,0,48,112,255] [] (z ?_)
 refine bx ex4 rfl (z ?_)
 obtain⟨j5,x5,en5,ex5,hq3⟩:=az hq3
 refine bD en5 ex5 rfl (z ?_)
 refine zm ?_ ?_<;>intro h6
 rw[TP (nt h6)] at hq3
 cases hq3
 exact fc
 rw[HP h6] at hq3
 exact bk ⟨i3+1,hq3⟩
 rw[aA h4,iP] at hq3
 cases hq3
 exact fc
def yH (a b:cL):Option Bool:=(fH a.ints b.ints).bind fun p=>if p then fH a.bC b.bC else some false
theorem MP {a b:cL} {r:Bool} (hm:yH a b=some r):Has Tryz.prog 218 [.agg (cN a),.agg (cN b)] fun s=>s= .bool r:=by
 refine hs ae Tryz.f218 ?_
 unfold yH at hm
 refine z ?_
 obtain⟨v1,e1,hm⟩:=aa hm
 refine ce (lz e1) (z ?_)
 refine zr ?_ ?_<;>intro h2
 rw[HP h2] at hm
 replace hm:=aJ hm
 obtain⟨v3,e3,hm⟩:=aa hm
 refine ce (lz e3) (z ?_)
 cases hm
 exact fc
 rw[TP (nt h2)] at hm
 cases hm
 exact fc
def kU (a:cL):Option Bool:=(fZ a).bind fun b=>yH a b
theorem JN {a:cL} {r:Bool} (hm:kU a=some r):bp Tryz.prog 184 [.agg (cN a)] fun s=>s= .bool r:=by
 refine ht ae Tryz.f184 ?_
 unfold kU at hm
 refine z ?_
 refine dg ae [0,0,2,7,15] [] (z ?_)
 obtain⟨v1,e1,hm⟩:=aa hm
 refine ct (fx e1) (z ?_)
 replace hm:=aJ hm
 obtain⟨v2,e2,hm⟩:=aa hm
 refine ce (MP e2) (z ?_)
 cases hm
 exact mst
def DK:Option cL:=some ⟨[⟨-100000000000,100000000000⟩],[]⟩
theorem N6 {r:cL} (hm:DK=some r):Has Tryz.prog 224 [] fun s=>s= .agg (cN r):=by
 refine hs ae Tryz.f224 ?_
 unfold DK at hm
 refine z ?_
 cases hm
 refine dH (z ?_)
 first|exact rfl|exact⟨rfl,rfl⟩
def LG:Option cL:=DK.bind fun s=>some ⟨s.ints,[⟨-999999999999999,999999999999999⟩]⟩
theorem Jo {r:cL} (hm:LG=some r):Has Tryz.prog 190 [] fun s=>s= .agg (cN r):=by
 refine hs ae Tryz.f190 ?_
 unfold LG at hm
 refine z ?_
 obtain⟨v1,e1,hm⟩:=aa hm
 refine ce (N6 e1) (z ?_)
 cases hm
 refine dH (z ?_)
 first|exact e2|exact rfl
def oN (x:Sv.Span):List Sv.Span->List Sv.Span->Option (List Sv.Span)
 |[],out=>some out
 |y::r,out=>if mx x.lo y.lo<=mn x.hi y.hi then(push out ⟨mx x.lo y.lo,mn x.hi y.hi⟩).bind fun out=>oN x r out else oN x r out
def Bp (b:List Sv.Span):List Sv.Span->List Sv.Span->Option (List Sv.Span)
 |[],out=>some out
 |x::r,out=>(aR b).bind fun _=>(oN x b out).bind fun out=>Bp b r out
def jK (a b:List Sv.Span):Option (List Sv.Span):=(aR a).bind fun _=>Bp b a []
theorem zD {a b r:List Sv.Span} (hm:jK a b=some r):Has Tryz.prog 195 [a7 a,a7 b] fun s=>s=a7 r:=by
 refine hs ae Tryz.f195 ?_
 unfold jK at hm
 refine z ?_
 obtain⟨hg1,hm⟩:=ah hm
 refine cr 5 2 rfl ?_
 refine lg (α:=Nat×List Span×Nat) ae (fun(iw,s1,ts1)=>(Bp b (List.drop iw a) s1=some r,⟨46,[(5,.own 0 ts1),(13,.int .i64 iw),(12,.int .i64 ↑a.length),(11,a7 a),(4,.aD),(1,a7 b)]⟩,⟨[(0,.row 2 (s1.map cD) ts1 false)],1,0,[],[]⟩,List.length a-iw)) ⟨(0,_,(0)),hm⟩ ?_
 rintro⟨i2,s1_2,ts1_2⟩ hq2
 dsimp only at hq2
 refine z ?_
 refine zd ?_ ?_<;>intro h3
 obtain⟨x3,ex3,ed3⟩:=av h3
 rw[ed3,Bp] at hq2
 refine z ?_
 obtain⟨hg4,hq2⟩:=ah hq2
 refine bx ex3 rfl (z ?_)
 obtain⟨v5,hv5,hq2⟩:=aa hq2
 refine lg (α:=Nat×List Span×Nat) ae (fun(iw,s1,ts1)=>(oN x3 (List.drop iw b) s1=some v5,⟨46,[(19,.int .i64 iw),(18,.int .i64 ↑b.length),(17,a7 b),(7,.ptr 1 0),(5,.own 0 ts1),(13,.int .i64 ↑i2),(12,.int .i64 ↑a.length),(11,a7 a),(4,.aD),(1,a7 b)]⟩,⟨[(1,.cells [.int .i64 x3.lo,.int .i64 x3.hi]),(0,.row 2 (s1.map cD) ts1 false)],2,0,[],[]⟩,List.length b-iw)) ⟨(0,_,ts1_2),hv5⟩ ?_
 rintro⟨i5,s1_5,ts1_5⟩ hq5
 dsimp only at hq5
 refine z ?_
 refine zd ?_ ?_<;>intro h6
 obtain⟨x6,ex6,ed6⟩:=av h6
 rw[ed6,oN] at hq5
 refine z ?_
 refine bx ex6 rfl (z ?_)
 refine zd ?_ ?_<;>intro h7
 rw[HP h7] at hq5
 obtain⟨hg8,hq5⟩:=aC hq5
 refine z ?_
 refine aM ({lo:=mx x3.lo x6.lo,hi:=mn x3.hi x6.hi}) rfl (z ?_)
 exact bk ⟨(i5+1,_,(ts1_5+1)),hq5⟩
 rw[TP h7] at hq5
 exact bk ⟨(i5+1,_,ts1_5),hq5⟩
 rw[aA h6,oN] at hq5
 cases hq5
 refine z ?_
 exact bk ⟨(i2+1,_,ts1_5),hq2⟩
 rw[aA h3,Bp] at hq2
 cases hq2
 refine dH (z ?_)
 first|exact e2|exact rfl
def He (a b:cL):Option cL:=(fZ a).bind fun x=>(fZ b).bind fun y=>(jK x.ints y.ints).bind fun i=>(jK x.bC y.bC).bind fun f=>fZ ⟨i,f⟩
theorem SX {a b r:cL} (hm:He a b=some r):bp Tryz.prog 152 [.agg (cN a),.agg (cN b)] fun s=>s= .agg (cN r):=by
 refine ht ae Tryz.f152 ?_
 unfold He at hm
 refine z ?_
 refine dg ae [0,1,0,7,0,0,63,127] [] (z ?_)
 obtain⟨v1,e1,hm⟩:=aa hm
 refine ct (fx e1) (z ?_)
 obtain⟨v2,e2,hm⟩:=aa hm
 refine ct (fx e2) (z ?_)
 refine dg ae [0,1,0,4,15,0,32,0,128,511,1023,2047,4095] [] (z ?_)
 obtain⟨v3,e3,hm⟩:=aa hm
 refine ce (zD e3) (z ?_)
 obtain⟨v4,e4,hm⟩:=aa hm
 refine ce (zD e4) (z ?_)
 replace hm:=aJ hm
 obtain⟨v5,e5,hm⟩:=aa hm
 refine ct (fx e5) (z ?_)
 cases hm
 exact mst
def orN (a b:cL):Option cL:=(kJ a.ints b.ints).bind fun i=>(kJ a.bC b.bC).bind fun f=>fZ ⟨i,f⟩
theorem Ue {a b r:cL} (hm:orN a b=some r):bp Tryz.prog 80 [.agg (cN a),.agg (cN b)] fun s=>s= .agg (cN r):=by
 refine ht ae Tryz.f80 ?_
 unfold orN at hm
 refine z ?_
 refine dg ae [0,1,0,4,15,31,0,64,0,256,960,2047,4095,8191,16383] [] (z ?_)
 obtain⟨v1,e1,hm⟩:=aa hm
 refine fR (zB e1) (z ?_)
 obtain⟨v2,e2,hm⟩:=aa hm
 refine fR (zB e2) (z ?_)
 replace hm:=aJ hm
 obtain⟨v3,e3,hm⟩:=aa hm
 refine ct (fx e3) (z ?_)
 cases hm
 exact mst
def zg:Option Unit:=some ()
theorem IL {fn fp:FuncId} {l:List Sv.Span} {all:Sv.Span} {r:Unit} (hm:zg=some r):Has Tryz.prog 192 [a7 l,.agg (cD all),.func (.func fn) [] [],.func (.func fp) [] []] fun s=>s= .func (.func 226) [] [.bR (cD all) 0,.bR [a7 l] 0,.bR [.func (.func fp) [] []] 0,.bR [.func (.func fn) [] []] 0]:=by
 refine hs ae Tryz.f192 ?_
 unfold zg at hm
 refine z ?_
 cases hm
 refine dH (z ?_)
 first|exact e2|exact rfl
def Gk (a:cL):Option cL:=(fZ a).bind fun x=>LG.bind fun al=>(cJ al.ints 0).bind fun ai=>zg.bind fun _=>(oO whole back x.ints ai).bind fun i=>(cJ al.bC 0).bind fun af=>zg.bind fun _=>(oO after before x.bC af).bind fun f=>fZ ⟨i,f⟩
theorem Rp {a r:cL} (hm:Gk a=some r):bp Tryz.prog 150 [.agg (cN a)] fun s=>s= .agg (cN r):=by
 refine ht ae Tryz.f150 ?_
 unfold Gk at hm
 refine z ?_
 obtain⟨v1,e1,hm⟩:=aa hm
 refine ct (fx e1) (z ?_)
 obtain⟨v2,e2,hm⟩:=aa hm
 refine ce (Jo e2) (z ?_)
 refine dg ae [0,1,0,4,12,28,63,127,0,256,0,1024,3072,7168,16383,32767,65535,131071,262143] [] (z ?_)
 obtain⟨j3,x3,en3,ex3,hm⟩:=az hm
 refine bD en3 ex3 rfl (z ?_)
 obtain⟨v4,e4,hm⟩:=aa hm
 refine ce (IL e4) (z ?_)
 obtain⟨v5,e5,hm⟩:=aa hm
 refine ce (I1 B0 SR e5) (z ?_)
 obtain⟨j6,x6,en6,ex6,hm⟩:=az hm
 refine bD en6 ex6 rfl (z ?_)
 obtain⟨v7,e7,hm⟩:=aa hm
 refine ce (IL e7) (z ?_)
 obtain⟨v8,e8,hm⟩:=aa hm
 refine ce (I1 E6 Lz e8) (z ?_)
 replace hm:=aJ hm
 obtain⟨v9,e9,hm⟩:=aa hm
 refine ct (fx e9) (z ?_)
 cases hm
 exact mst
def ld (a b:cL):Option cL:=(Gk b).bind fun c=>He a c
theorem rn {a b r:cL} (hm:ld a b=some r):bp Tryz.prog 111 [.agg (cN a),.agg (cN b)] fun s=>s= .agg (cN r):=by
 refine ht ae Tryz.f111 ?_
 unfold ld at hm
 refine z ?_
 refine dg ae [0,0,2,7,15] [] (z ?_)
 obtain⟨v1,e1,hm⟩:=aa hm
 refine ct (Rp e1) (z ?_)
 replace hm:=aJ hm
 obtain⟨v2,e2,hm⟩:=aa hm
 refine ct (SX e2) (z ?_)
 cases hm
 exact mst
def rk (u v:Int):Option Bool:=(dD (0-u)).bind fun _=>(dD (0-v)).bind fun _=>if mx u (0-u)<mx v (0-v) then some true else if mx u (0-u)=mx v (0-v) then some (decide (u>v)) else some false
theorem rj {u v:Int} {r:Bool} (hm:rk u v=some r):Has Tryz.prog 145 [.int .i64 u,.int .i64 v] fun s=>s= .bool r:=by
 refine hs ae Tryz.f145 ?_
 unfold rk at hm
 refine z ?_
 obtain⟨hg1,hm⟩:=ah hm
 obtain⟨hg2,hm⟩:=ah hm
 refine z ?_
 refine zd ?_ ?_<;>intro h3
 rw[HP h3] at hm
 cases hm
 exact fc
 rw[TP h3] at hm
 refine zd ?_ ?_<;>intro h4
 rw[HP h4] at hm
 cases hm
 exact fc
 rw[TP h4] at hm
 cases hm
 exact fc
def nearest (s:Sv.Span) (m:Int):Option Int:=if s.lo>0 then some s.lo else if s.hi<0 then some s.hi else some m
theorem vg {s:Sv.Span} {m r:Int} (hm:nearest s m=some r):Has Tryz.prog 146 [.agg (cD s),.int .i64 m] fun v=>v= .int .i64 r:=by
 refine hs ae Tryz.f146 ?_
 unfold nearest at hm
 refine z ?_
 refine zd ?_ ?_<;>intro h1
 rw[HP h1] at hm
 cases hm
 exact fc
 rw[TP h1] at hm
 refine zd ?_ ?_<;>intro h2
 rw[HP h2] at hm
 cases hm
 exact fc
 rw[TP h2] at hm
 cases hm
 exact fc
def take (u best:Int) (found:Bool):Option (Int×Bool):=if found then(rk u best).bind fun c=>if c then some (u,true) else some (best,found) else some (u,true)
def A4:List Sv.Span->Int->Bool->Option (Int×Bool)
 |[],best,found=>some (best,found)
 |y::r,best,found=>(nearest y 0).bind fun n=>(dD (n*10000)).bind fun _=>(take (n*10000) best found).bind fun p=>A4 r p.1 p.2
def A3:List Sv.Span->Int->Bool->Option (Int×Bool)
 |[],best,found=>some (best,found)
 |y::r,best,found=>(nearest y 1).bind fun n=>(take n best found).bind fun p=>A3 r p.1 p.2
def lk (s:cL):Option (Int×Bool):=(fZ s).bind fun x=>(aR x.ints).bind fun _=>(A4 x.ints 0 false).bind fun p=>(aR x.bC).bind fun _=>A3 x.bC p.1 p.2
theorem rr {s:cL} {r:Int×Bool} (hm:lk s=some r):bp Tryz.prog 106 [.agg (cN s)] fun v=>v= .dZ [.int .i64 r.1,.bool r.2]:=by
 refine ht ae Tryz.f106 ?_
 unfold lk at hm
 refine z ?_
 obtain⟨v1,e1,hm⟩:=aa hm
 refine ct (fx e1) (z ?_)
 obtain⟨hg2,hm⟩:=ah hm
 obtain⟨v3,hv3,hm⟩:=aa hm
 refine lg (α:=Nat×Int×Bool) ae (fun(iw,s1,s2)=>(A4 (List.drop iw v1.ints) s1 s2=some v3,⟨42,[(18,.int .i64 iw),(17,.int .i64 ↑v1.ints.length),(16,a7 v1.ints),(7,.func (.func 144) [] [.ptr 4 0,.ptr 3 0]),(6,.ptr 4 0),(5,.ptr 3 0),(4,.ptr 2 0),(3,.bool false),(2,.int .i64 0)]⟩,⟨[(4,.cells [.bool s2]),(3,.cells [.int .i64 s1]),(2,.cells [a7 v1.ints,a7 v1.bC]),(1,.cells (cN s)),(0,ba)],5,0,[],[]⟩,List.length v1.ints-iw)) ⟨(0,_,_),hv3⟩ ?_
 rintro⟨i3,s1_3,s2_3⟩ hq3
 dsimp only at hq3
 refine z ?_
 refine zd ?_ ?_<;>intro h4
 obtain⟨x4,ex4,ed4⟩:=av h4
 rw[ed4,A4] at hq3
 refine z ?_
 refine bx ex4 rfl (z ?_)
 obtain⟨v5,e5,hq3⟩:=aa hq3
 refine ce (vg e5) (z ?_)
 obtain⟨hg6,hq3⟩:=ah hq3
 unfold take at hq3
 refine z ?_
 refine ci ae Tryz.f144 (z ?_)
 refine zm ?_ ?_<;>intro h8
 rw[TP (nt h8)] at hq3
 dsimp only[Option.bind_some] at hq3
 refine z ?_
 refine ei (z ?_)
 exact bk ⟨(i3+1,_,_),hq3⟩
 rw[HP h8] at hq3
 rw[VY] at hq3
 refine z ?_
 obtain⟨v9,e9,hq3⟩:=aa hq3
 refine ce (rj e9) (z ?_)
 refine zr ?_ ?_<;>intro h10
 rw[HP h10] at hq3
 dsimp only[Option.bind_some] at hq3
 refine z ?_
 refine ei (z ?_)
 exact bk ⟨(i3+1,_,_),hq3⟩
 rw[TP (nt h10)] at hq3
 dsimp only[Option.bind_some] at hq3
 refine z ?_
 refine ei (z ?_)
 exact bk ⟨(i3+1,_,_),hq3⟩
 rw[aA h4,A4] at hq3
 cases hq3
 dsimp only at hm
 refine z ?_
 obtain⟨hg11,hm⟩:=ah hm
 refine bd rfl rfl ?_
 refine lg (α:=Nat×Int×Bool) ae (fun(iw,s1,s2)=>(A3 (List.drop iw v1.bC) s1 s2=some r,⟨42,[(31,.int .i64 iw),(30,.int .i64 ↑v1.bC.length),(29,a7 v1.bC),(7,.func (.func 144) [] [.ptr 4 0,.ptr 3 0]),(6,.ptr 4 0),(5,.ptr 3 0),(3,.bool false),(2,.int .i64 0)]⟩,⟨[(4,.cells [.bool s2]),(3,.cells [.int .i64 s1]),(2,.cells [a7 v1.ints,a7 v1.bC]),(1,.cells (cN s)),(0,ba)],5,0,[],[]⟩,List.length v1.bC-iw)) ⟨(0,_,_),hm⟩ ?_
 rintro⟨i12,s1_12,s2_12⟩ hq12
 dsimp only at hq12
 refine z ?_
 refine zd ?_ ?_<;>intro h13
 obtain⟨x13,ex13,ed13⟩:=av h13
 rw[ed13,A3] at hq12
 refine z ?_
 refine bx ex13 rfl (z ?_)
 obtain⟨v14,e14,hq12⟩:=aa hq12
 refine ce (vg e14) ?_
 unfold take at hq12
 refine z ?_
 refine ci ae Tryz.f144 (z ?_)
 refine zm ?_ ?_<;>intro h15
 rw[TP (nt h15)] at hq12
 dsimp only[Option.bind_some] at hq12
 refine z ?_
 refine ei (z ?_)
 exact bk ⟨(i12+1,_,_),hq12⟩
 rw[HP h15] at hq12
 rw[VY] at hq12
 refine z ?_
 obtain⟨v16,e16,hq12⟩:=aa hq12
 refine ce (rj e16) (z ?_)
 refine zr ?_ ?_<;>intro h17
 rw[HP h17] at hq12
 dsimp only[Option.bind_some] at hq12
 refine z ?_
 refine ei (z ?_)
 exact bk ⟨(i12+1,_,_),hq12⟩
 rw[TP (nt h17)] at hq12
 dsimp only[Option.bind_some] at hq12
 refine z ?_
 refine ei (z ?_)
 exact bk ⟨(i12+1,_,_),hq12⟩
 rw[aA h13,A3] at hq12
 refine dg ae [0,0,1,7] [] (z ?_)
 cases hq12
 exact mst
def OY (a b:cL):Option Int:=(ld a b).bind fun x=>(lk x).bind fun p=>(ld b a).bind fun y=>(lk y).bind fun q=>
 if p.2 then if q.2 then(rk p.1 q.1).bind fun c=>if c then some (-1) else some 1 else some (-1)
 else if q.2 then some 1 else some 0
theorem SA {a b:cL} {r:Int} (hm:OY a b=some r):bp Tryz.prog 215 [.agg (cN a),.agg (cN b)] fun s=>s= .int .i64 r:=by
 refine ht ae Tryz.f215 ?_
 unfold OY at hm
 refine z ?_
 obtain⟨v1,e1,hm⟩:=aa hm
 refine ct (rn e1) (z ?_)
 obtain⟨v2,e2,hm⟩:=aa hm
 refine ct (rr e2) (z ?_)
 obtain⟨v3,e3,hm⟩:=aa hm
 refine ct (rn e3) (z ?_)
 obtain⟨v4,e4,hm⟩:=aa hm
 refine ct (rr e4) (z ?_)
 refine zm ?_ ?_<;>intro h5
 rw[TP (nt h5)] at hm
 refine zm ?_ ?_<;>intro h6
 rw[TP (nt h6)] at hm
 cases hm
 exact mst
 rw[HP h6] at hm
 refine bmf h6 (z ?_)
 refine brf h5 (z ?_)
 cases hm
 exact mst
 rw[HP h5] at hm
 refine zm ?_ ?_<;>intro h7
 rw[TP (nt h7)] at hm
 cases hm
 exact mst
 rw[HP h7] at hm
 refine brt h5 (z ?_)
 obtain⟨v8,e8,hm⟩:=aa hm
 refine ce (rj e8) (z ?_)
 refine zr ?_ ?_<;>intro h9
 rw[HP h9] at hm
 cases hm
 exact mst
 rw[TP (nt h9)] at hm
 cases hm
 exact mst
def wz (x y:List UInt8):Option Int:=(NA x).bind fun a=>(NA y).bind fun b=>if a then if b then some 0 else some (-1) else if b then some 1 else if Op.bytesLess x y then some (-1) else if Op.bytesLess x y||decide (x=y) then some 0 else some 1
theorem I3 {x y:List UInt8} {r:Int} (hm:wz x y=some r):Has Tryz.prog 210 [.str x,.str y] fun s=>s= .int .i64 r:=by
 refine hs ae Tryz.f210 ?_
 unfold wz at hm
 refine z ?_
 obtain⟨v1,e1,hm⟩:=aa hm
 refine ce (Im e1) (z ?_)
 obtain⟨v2,e2,hm⟩:=aa hm
 refine ce (Im e2) (z ?_)
 refine zr ?_ ?_<;>intro h3
 rw[HP h3] at hm
 refine zr ?_ ?_<;>intro h4
 rw[HP h4] at hm
 cases hm
 exact fc
 rw[TP (nt h4)] at hm
 cases hm
 exact fc
 rw[TP (nt h3)] at hm
 refine zr ?_ ?_<;>intro h5
 rw[HP h5] at hm
 cases hm
 exact fc
 rw[TP (nt h5)] at hm
 refine zr ?_ ?_<;>intro h6
 rw[HP h6] at hm
 cases hm
 exact fc
 rw[TP (nt h6)] at hm
 refine zm ?_ ?_<;>intro h7
 rw[TP (nt h7)] at hm
 cases hm
 exact fc
 rw[HP h7] at hm
 cases hm
 exact fc
def Ko:List Int->Option Int
 |[]=>some 0
 |x::r=>if x=0 then Ko r else some x
def orI (l:List Int):Option Int:=(aR l).bind fun _=>Ko l
theorem Uf {l:List Int} {r:Int} (hm:orI l=some r):Has Tryz.prog 208 [.aK false (l.map bQ)] fun s=>s= .int .i64 r:=by
 refine hs ae Tryz.f208 ?_
 unfold orI at hm
 refine z ?_
 obtain⟨hg1,hm⟩:=ah hm
 refine lg (α:=Nat) ae (fun iw=>(Ko (List.drop iw l)=some r,⟨18,[(8,.int .i64 iw),(7,.int .i64 ↑l.length),(6,.aK false (List.map bQ l)),(3,.int .i64 0),(2,.int .i64 0)]⟩,⟨[],0,0,[],[]⟩,List.length l-iw)) ⟨(0),hm⟩ ?_
 intro i2 hq2
 dsimp only at hq2
 refine z ?_
 refine zd ?_ ?_<;>intro h3
 obtain⟨x3,ex3,ed3⟩:=av h3
 rw[ed3,Ko] at hq2
 refine z ?_
 refine bx ex3 rfl (z ?_)
 refine zn ?_ ?_<;>intro h4
 rw[TP h4] at hq2
 cases hq2
 exact fc
 rw[HP h4] at hq2
 exact bk ⟨i2+1,hq2⟩
 rw[aA h3,Ko] at hq2
 cases hq2
 exact fc
def EF (a b:List bj):Option Int:=(fq a).bind fun a=>(fq b).bind fun b=>(jP a b).bind fun x=>(ln x).bind fun p=>(jP b a).bind fun y=>(ln y).bind fun q=>
 if p.2 then if q.2 then(aR p.1).bind fun _=>(aR q.1).bind fun _=>(wC p.1.length q.1.length).bind fun c=>(wz p.1 q.1).bind fun d=>orI [c,d] else some (-1) else if q.2 then some 1 else some 0
theorem Bs {a b:List bj} {r:Int} (hm:EF a b=some r):bp Tryz.prog 164 [.agg [aE a],.agg [aE b]] fun s=>s= .int .i64 r:=by
 refine ht ae Tryz.f164 ?_
 unfold EF at hm
 refine z ?_
 refine dg ae [0,1,0,7,15,31] [] (z ?_)
 obtain⟨v1,e1,hm⟩:=aa hm
 refine ct (ic e1) (z ?_)
 obtain⟨v2,e2,hm⟩:=aa hm
 refine ct (ic e2) (z ?_)
 obtain⟨v3,e3,hm⟩:=aa hm
 refine ct (nK e3) (z ?_)
 obtain⟨v4,e4,hm⟩:=aa hm
 refine ct (ru e4) (z ?_)
 obtain⟨v5,e5,hm⟩:=aa hm
 refine ct (nK e5) (z ?_)
 obtain⟨v6,e6,hm⟩:=aa hm
 refine ct (ru e6) (z ?_)
 refine zm ?_ ?_<;>intro h7
 rw[TP (nt h7)] at hm
 refine zm ?_ ?_<;>intro h8
 rw[TP (nt h8)] at hm
 cases hm
 exact mst
 rw[HP h8] at hm
 refine bmf h8 (z ?_)
 refine bmt h7 (z ?_)
 cases hm
 exact mst
 rw[HP h7] at hm
 refine zm ?_ ?_<;>intro h9
 rw[TP (nt h9)] at hm
 cases hm
 exact mst
 rw[HP h9] at hm
 obtain⟨hg10,hm⟩:=ah hm
 obtain⟨hg11,hm⟩:=ah hm
 refine bmf h7 (z ?_)
 obtain⟨v12,e12,hm⟩:=aa hm
 refine ce (Bt e12) (z ?_)
 obtain⟨v13,e13,hm⟩:=aa hm
 refine ce (I3 e13) (z ?_)
 replace hm:=aJ hm
 obtain⟨v14,e14,hm⟩:=aa hm
 refine b6 (Uf e14) rfl (z ?_)
 cases hm
 exact mst
def ya (u:Int):Option Bool:=if u>= -1000000000000000 then some (decide (u<=1000000000000000)) else some false
theorem IN {u:Int} {r:Bool} (hm:ya u=some r):Has Tryz.prog 87 [.int .i64 u] fun s=>s= .bool r:=by
 refine hs ae Tryz.f87 ?_
 unfold ya at hm
 refine z ?_
 refine zd ?_ ?_<;>intro h1
 rw[HP h1] at hm
 cases hm
 exact fc
 rw[TP h1] at hm
 cases hm
 exact fc
def lr (u:Int):Option Int:=(dD (u.tdiv 10000)).bind fun _=>if u.tmod 10000<0 then(dD (u.tdiv 10000-1)).bind fun _=>some (u.tdiv 10000-1) else some (u.tdiv 10000)
theorem vT {u r:Int} (hm:lr u=some r):Has Tryz.prog 149 [.int .i64 u] fun s=>s= .int .i64 r:=by
 refine hs ae Tryz.f149 ?_
 unfold lr at hm
 refine z ?_
 obtain⟨hg1,hm⟩:=ah hm
 refine z ?_
 refine zd ?_ ?_<;>intro h2
 rw[HP h2] at hm
 obtain⟨hg3,hm⟩:=ah hm
 refine z ?_
 cases hm
 exact fc
 rw[TP h2] at hm
 cases hm
 exact fc
def vJ (v:List UInt8):List (List UInt8)->Int->Option Int
 |[],_=>some (-1)
 |x::r,i=>if v=x then some i else vJ v r (i+1)
def RO (l:List (List UInt8)) (v:List UInt8):Option Int:=(aR l).bind fun _=>vJ v l 0
theorem RN {l:List (List UInt8)} {v:List UInt8} {r:Int} (hm:RO l v=some r):Has Tryz.prog 189 [.aK false (l.map lB),.str v] fun s=>s= .int .i64 r:=by
 refine hs ae Tryz.f189 ?_
 unfold RO at hm
 refine z ?_
 obtain⟨hg1,hm⟩:=ah hm
 refine lg (α:=Nat) ae (fun iw=>(vJ v (List.drop iw l) (iw:Int)=some r,⟨19,[(8,.int .i64 iw),(7,.int .i64 ↑l.length),(4,.int .i64 0),(0,.aK false (List.map lB l)),(1,.str v)]⟩,⟨[],0,0,[],[]⟩,List.length l-iw)) ⟨(0),hm⟩ ?_
 intro i2 hq2
 dsimp only at hq2
 refine z ?_
 refine zd ?_ ?_<;>intro h3
 obtain⟨x3,ex3,ed3⟩:=av h3
 rw[ed3,vJ] at hq2
 refine z ?_
 refine bx ex3 rfl (z ?_)
 refine zd ?_ ?_<;>intro h4
 rw[HP h4] at hq2
 cases hq2
 exact fc
 rw[TP h4] at hq2
 exact bk ⟨i2+1,hq2⟩
 rw[aA h3,vJ] at hq2
 cases hq2
 exact fc
def K6 (l:List (List UInt8)) (v:List UInt8):Option Bool:=(RO l v).bind fun i=>some (decide (i>=0))
theorem Ss {l:List (List UInt8)} {v:List UInt8} {r:Bool} (hm:K6 l v=some r):Has Tryz.prog 148 [.aK false (l.map lB),.str v] fun s=>s= .bool r:=by
 refine hs ae Tryz.f148 ?_
 unfold K6 at hm
 refine z ?_
 obtain⟨v1,e1,hm⟩:=aa hm
 refine ce (RN e1) (z ?_)
 cases hm
 exact fc
def oD (s:List UInt8):Nat->Int->List bj->Option (List bj)
 |0,_,out=>some out
 |n+1,i,out=>(cJ s i).bind fun b=>(push out ⟨false,[⟨b.toNat,b.toNat,i+1⟩]⟩).bind fun out=>oD s n (i+1) out
def pL (s:List UInt8):Option (List bj):=(aR s).bind fun _=>(oD s s.length 0 []).bind fun out=>push out ⟨true,[]⟩
theorem Ht {s:List UInt8} {r:List bj} (hm:pL s=some r):Has Tryz.prog 72 [.str s] fun v=>v= .agg [aE r]:=by
 refine hs ae Tryz.f72 ?_
 unfold pL at hm
 refine z ?_
 obtain⟨hg1,hm⟩:=ah hm
 obtain⟨v2,hv2,hm⟩:=aa hm
 refine bK 1 0 2 rfl rfl ?_
 refine lg (α:=Nat×List bj×Nat) ae (fun(iw,s1,ts1)=>(oD s (s.length-iw) (iw:Int) s1=some v2,⟨34,[(7,.int .i64 iw),(6,.int .i64 ↑s.length),(3,.ptr 1 0),(2,.ptr 0 0),(0,.str s)]⟩,⟨[(2,.row 2 (s1.map gT) ts1 false),(1,.cells [.own 2 ts1]),(0,.cells [.aD])],3,0,[],[]⟩,s.length-iw)) ⟨(0,_,(0)),hv2⟩ ?_
 rintro⟨i2,s1_2,ts1_2⟩ hq2
 dsimp only at hq2
 refine z ?_
 refine zd ?_ ?_<;>intro h3
 have h3':(i2:Int)<(((s.length):Nat):Int):=by(try simp only[V4,Wc,Wb,V7] at h3);omega
 rw[df h3',oD] at hq2
 refine z ?_
 refine dg ae [0,1,0,0,12,0,0,96,0,256,1020,2044,4092,8188,16383,32767,65535] [⟨16,0,0,[1]⟩,⟨14,0,0,[2]⟩,⟨13,0,0,[3]⟩] (z ?_)
 obtain⟨j6,x6,en6,ex6,hq2⟩:=az hq2
 refine⟨_,_,en6,ex6,?_⟩
 refine z ?_
 refine⟨_,_,en6,ex6,?_⟩
 refine z ?_
 obtain⟨hg7,hq2⟩:=aC hq2
 refine z ?_
 refine aM ({acc:=false,aI:=[{lo:=↑x6.toNat,hi:=↑x6.toNat,to:=↑i2+1}]}) rfl (z ?_)
 exact bk ⟨(i2+1,_,(ts1_2+1)),hq2⟩
 have h3':¬(i2:Int)<(((s.length):Nat):Int):=by(try simp only[V4,Wc,Wb,V7] at h3);omega
 rw[de h3',oD] at hq2
 cases hq2
 refine z ?_
 replace hm:=aJ hm
 obtain⟨hg9,hm⟩:=aC hm
 refine z ?_
 refine aM ({acc:=true,aI:=[]}) rfl (z ?_)
 cases hm
 refine dH (z ?_)
 first|exact e2|exact rfl
def ku (d:dt bA):Option Bool:=if d.str=[] then if(d.items.length:Int)=0 then some (decide ((d.members.length:Int)=0)) else some false else some false
def kt (d:dt bA):Option Bool:=(aR d.items).bind fun _=>(aR d.members).bind fun _=>
 if d.kind=2 then ku d else if d.kind=3 then ku d else
 if d.kind=4 then if d.num=0 then if(d.items.length:Int)=0 then some (decide ((d.members.length:Int)=0)) else some false else some false else
 if d.kind=5 then if d.num=0 then if d.str=[] then some (decide ((d.members.length:Int)=0)) else some false else some false else
 if d.kind=6 then if d.num=0 then if d.str=[] then if(d.items.length:Int)=0 then some true else some false else some false else some false else
 if d.kind=1 then if d.num=0 then ku d else some false else some false
theorem Nr {d:dt bA} {r:Bool} (hm:kt d=some r):Has Tryz.prog 86 [.agg (iC dP d)] fun s=>s= .bool r:=by
 refine hs ae Tryz.f86 ?_
 unfold kt at hm
 refine z ?_
 refine dg ae [0,1,3,0,8,24,0,64,192,448,0,1024,3072,7168,7,16447,50175,131071] [] (z ?_)
 obtain⟨hg1,hm⟩:=ah hm
 obtain⟨hg2,hm⟩:=ah hm
 refine zd ?_ ?_<;>intro h3
 rw[HP h3] at hm
 unfold ku at hm
 refine z ?_
 refine zd ?_ ?_<;>intro h4
 rw[HP h4] at hm
 refine zd ?_ ?_<;>intro h5
 rw[HP h5] at hm
 cases hm
 exact fc
 rw[TP h5] at hm
 cases hm
 exact fc
 rw[TP h4] at hm
 cases hm
 exact fc
 rw[TP h3] at hm
 refine zd ?_ ?_<;>intro h6
 rw[HP h6] at hm
 unfold ku at hm
 refine z ?_
 refine zd ?_ ?_<;>intro h7
 rw[HP h7] at hm
 refine zd ?_ ?_<;>intro h8
 rw[HP h8] at hm
 cases hm
 exact fc
 rw[TP h8] at hm
 cases hm
 exact fc
 rw[TP h7] at hm
 cases hm
 exact fc
 rw[TP h6] at hm
 refine zd ?_ ?_<;>intro h9
 rw[HP h9] at hm
 refine zd ?_ ?_<;>intro h10
 rw[HP h10] at hm
 refine zd ?_ ?_<;>intro h11
 rw[HP h11] at hm
 cases hm
 exact fc
 rw[TP h11] at hm
 cases hm
 exact fc
 rw[TP h10] at hm
 cases hm
 exact fc
 rw[TP h9] at hm
 refine zd ?_ ?_<;>intro h12
 rw[HP h12] at hm
 refine zd ?_ ?_<;>intro h13
 rw[HP h13] at hm
 refine zd ?_ ?_<;>intro h14
 rw[HP h14] at hm
 cases hm
 exact fc
 rw[TP h14] at hm
 cases hm
 exact fc
 rw[TP h13] at hm
 cases hm
 exact fc
 rw[TP h12] at hm
 refine zd ?_ ?_<;>intro h15
 rw[HP h15] at hm
 refine zd ?_ ?_<;>intro h16
 rw[HP h16] at hm
 refine zd ?_ ?_<;>intro h17
 rw[HP h17] at hm
 refine zd ?_ ?_<;>intro h18
 rw[HP h18] at hm
 cases hm
 exact fc
 rw[TP h18] at hm
 cases hm
 exact fc
 rw[TP h17] at hm
 cases hm
 exact fc
 rw[TP h16] at hm
 cases hm
 exact fc
 rw[TP h15] at hm
 refine zd ?_ ?_<;>intro h19
 rw[HP h19] at hm
 refine zd ?_ ?_<;>intro h20
 rw[HP h20] at hm
 unfold ku at hm
 refine z ?_
 refine zd ?_ ?_<;>intro h21
 rw[HP h21] at hm
 refine zd ?_ ?_<;>intro h22
 rw[HP h22] at hm
 cases hm
 exact fc
 rw[TP h22] at hm
 cases hm
 exact fc
 rw[TP h21] at hm
 cases hm
 exact fc
 rw[TP h20] at hm
 cases hm
 exact fc
 rw[TP h19] at hm
 cases hm
 exact fc
def iN (l:List (Mem bA)):Nat->Int->Option Int
 |0,_=>none
 |n+1,i=>if i<(l.length:Int) then(dD (i-1)).bind fun _=>(cJ l (i-1)).bind fun x=>(cJ l i).bind fun y=>if Op.bytesLess x.label y.label then iN l n (i+1) else some 6 else some 0
def xU (d:dt bA):Option Int:=(kt d).bind fun ok=>if ok then
  if d.kind=2 then if d.num=0 then(aR d.members).bind fun _=>iN d.members (d.members.length+1) 1 else if d.num=1 then(aR d.members).bind fun _=>iN d.members (d.members.length+1) 1 else some 1
  else if d.kind=3 then(ya d.num).bind fun ok=>if ok then(aR d.members).bind fun _=>iN d.members (d.members.length+1) 1 else some 1
  else(aR d.members).bind fun _=>iN d.members (d.members.length+1) 1
 else some 11
theorem Rd {d:dt bA} {r:Int} (hm:xU d=some r):Has Tryz.prog 61 [.agg (iC dP d)] fun s=>s= .int .i64 r:=by
 refine hs ae Tryz.f61 ?_
 unfold xU at hm
 refine z ?_
 obtain⟨v1,e1,hm⟩:=aa hm
 refine ce (Nr e1) (z ?_)
 refine zm ?_ ?_<;>intro h2
 rw[TP (nt h2)] at hm
 cases hm
 exact fc
 rw[HP h2] at hm
 refine zd ?_ ?_<;>intro h3
 rw[HP h3] at hm
 refine zn ?_ ?_<;>intro h4
 rw[TP h4] at hm
 refine zn ?_ ?_<;>intro h5
 rw[TP h5] at hm
 cases hm
 exact fc
 rw[HP h5] at hm
 obtain⟨hg6,hm⟩:=ah hm
 have h7:¬((d.kind:Int)=3):=by omega
 refine BV h7 (z ?_)
 refine lg (α:=Nat×Int) ae (fun(nw,s1)=>(iN d.members nw s1=some r,⟨54,[(3,.int .i64 s1),(2,.int .i64 0),(1,.ptr 0 0)]⟩,⟨[(0,.cells (iC dP d))],1,0,[],[]⟩,nw)) ⟨(_,_),hm⟩ ?_
 rintro⟨n8,s1_8⟩ hq8
 dsimp only at hq8
 rcases n8 with _|n8
 (unfold iN at hq8;cases hq8)
 unfold iN at hq8
 refine z ?_
 refine zd ?_ ?_<;>intro h9
 rw[HP h9] at hq8
 refine dg ae [0,1,0,4,15,31,63,0,128,0,896,1920,3968,8191] [] (z ?_)
 obtain⟨hg10,hq8⟩:=ah hq8
 refine z ?_
 obtain⟨j12,x12,en12,ex12,hq8⟩:=az hq8
 refine bP (bJ _) en12 ex12 rfl (z ?_)
 obtain⟨j13,x13,en13,ex13,hq8⟩:=az hq8
 refine bP (bJ _) en13 ex13 rfl (z ?_)
 refine zm ?_ ?_<;>intro h14
 rw[TP (nt h14)] at hq8
 cases hq8
 exact fc
 rw[HP h14] at hq8
 exact bk ⟨(n8,_),hq8⟩
 rw[TP h9] at hq8
 cases hq8
 exact fc
 rw[HP h4] at hm
 obtain⟨hg15,hm⟩:=ah hm
 have h16:¬((d.kind:Int)=3):=by omega
 refine BV h16 (z ?_)
 refine lg (α:=Nat×Int) ae (fun(nw,s1)=>(iN d.members nw s1=some r,⟨54,[(3,.int .i64 s1),(2,.int .i64 0),(1,.ptr 0 0)]⟩,⟨[(0,.cells (iC dP d))],1,0,[],[]⟩,nw)) ⟨(_,_),hm⟩ ?_
 rintro⟨n17,s1_17⟩ hq17
 dsimp only at hq17
 rcases n17 with _|n17
 (unfold iN at hq17;cases hq17)
 unfold iN at hq17
 refine z ?_
 refine zd ?_ ?_<;>intro h18
 rw[HP h18] at hq17
 refine dg ae [0,1,0,4,15,31,63,0,128,0,896,1920,3968,8191] [] (z ?_)
 obtain⟨hg19,hq17⟩:=ah hq17
 refine z ?_
 obtain⟨j21,x21,en21,ex21,hq17⟩:=az hq17
 refine bP (bJ _) en21 ex21 rfl (z ?_)
 obtain⟨j22,x22,en22,ex22,hq17⟩:=az hq17
 refine bP (bJ _) en22 ex22 rfl (z ?_)
 refine zm ?_ ?_<;>intro h23
 rw[TP (nt h23)] at hq17
 cases hq17
 exact fc
 rw[HP h23] at hq17
 exact bk ⟨(n17,_),hq17⟩
 rw[TP h18] at hq17
 cases hq17
 exact fc
 rw[TP h3] at hm
 refine zd ?_ ?_<;>intro h24
 rw[HP h24] at hm
 obtain⟨v25,e25,hm⟩:=aa hm
 refine ce (IN e25) (z ?_)
 refine zm ?_ ?_<;>intro h26
 rw[TP (nt h26)] at hm
 cases hm
 exact fc
 rw[HP h26] at hm
 obtain⟨hg27,hm⟩:=ah hm
 refine lg (α:=Nat×Int) ae (fun(nw,s1)=>(iN d.members nw s1=some r,⟨54,[(3,.int .i64 s1),(2,.int .i64 0),(1,.ptr 0 0)]⟩,⟨[(0,.cells (iC dP d))],1,0,[],[]⟩,nw)) ⟨(_,_),hm⟩ ?_
 rintro⟨n28,s1_28⟩ hq28
 dsimp only at hq28
 rcases n28 with _|n28
 (unfold iN at hq28;cases hq28)
 unfold iN at hq28
 refine z ?_
 refine zd ?_ ?_<;>intro h29
 rw[HP h29] at hq28
 refine dg ae [0,1,0,4,15,31,63,0,128,0,896,1920,3968,8191] [] (z ?_)
 obtain⟨hg30,hq28⟩:=ah hq28
 refine z ?_
 obtain⟨j32,x32,en32,ex32,hq28⟩:=az hq28
 refine bP (bJ _) en32 ex32 rfl (z ?_)
 obtain⟨j33,x33,en33,ex33,hq28⟩:=az hq28
 refine bP (bJ _) en33 ex33 rfl (z ?_)
 refine zm ?_ ?_<;>intro h34
 rw[TP (nt h34)] at hq28
 cases hq28
 exact fc
 rw[HP h34] at hq28
 exact bk ⟨(n28,_),hq28⟩
 rw[TP h29] at hq28
 cases hq28
 exact fc
 rw[TP h24] at hm
 obtain⟨hg35,hm⟩:=ah hm
 refine lg (α:=Nat×Int) ae (fun(nw,s1)=>(iN d.members nw s1=some r,⟨54,[(3,.int .i64 s1),(2,.int .i64 0),(1,.ptr 0 0)]⟩,⟨[(0,.cells (iC dP d))],1,0,[],[]⟩,nw)) ⟨(_,_),hm⟩ ?_
 rintro⟨n36,s1_36⟩ hq36
 dsimp only at hq36
 rcases n36 with _|n36
 (unfold iN at hq36;cases hq36)
 unfold iN at hq36
 refine z ?_
 refine zd ?_ ?_<;>intro h37
 rw[HP h37] at hq36
 refine dg ae [0,1,0,4,15,31,63,0,128,0,896,1920,3968,8191] [] (z ?_)
 obtain⟨hg38,hq36⟩:=ah hq36
 refine z ?_
 obtain⟨j40,x40,en40,ex40,hq36⟩:=az hq36
 refine bP (bJ _) en40 ex40 rfl (z ?_)
 obtain⟨j41,x41,en41,ex41,hq36⟩:=az hq36
 refine bP (bJ _) en41 ex41 rfl (z ?_)
 refine zm ?_ ?_<;>intro h42
 rw[TP (nt h42)] at hq36
 cases hq36
 exact fc
 rw[HP h42] at hq36
 exact bk ⟨(n36,_),hq36⟩
 rw[TP h37] at hq36
 cases hq36
 exact fc
def P3:List (Mem bA)->List bA->Option (List bA)
 |[],out=>some out
 |m::r,out=>(push out m.data).bind fun out=>P3 r out
def rQ (d:dt bA):Option (List bA):=(aR d.items).bind fun _=>(aR d.members).bind fun _=>P3 d.members d.items
theorem Lc {d:dt bA} {r:List bA} (hm:rQ d=some r):Has Tryz.prog 62 [.agg (iC dP d)] fun s=>s= .aK false (r.map dP):=by
 obtain⟨k,n,s,items,m⟩:=d
 rcases items with _|⟨x,items⟩
 change Has Tryz.prog _ [.agg [.int .i64 k,.int .i64 n,.str s,.aK false [],.aK false (List.map (jV dP) m)]] _
 refine hs ae Tryz.f62 ?_
 unfold rQ at hm
 dsimp only at hm
 refine z ?_
 refine ce yg (z ?_)
 obtain⟨hg1,hm⟩:=ah hm
 obtain⟨hg2,hm⟩:=ah hm
 refine Gq 3 5 rfl ?_
 refine lg (α:=Nat×List bA×Nat) ae (fun(iw,s1,ts1)=>(P3 (List.drop iw m) s1=some r,⟨23,[(3,.own 1 ts1),(12,.int .i64 iw),(11,.int .i64 ↑m.length),(10,.aK false (List.map (jV dP) m)),(2,.aD)]⟩,⟨[(1,.row 5 (s1.map dP) ts1 false),(0,.cells [.int .i64 k,.int .i64 n,.str s,.aK false [],.aK false (List.map (jV dP) m)])],2,0,[],[]⟩,List.length m-iw)) ⟨(0,_,(0)),hm⟩ ?_
 rintro⟨i3,s1_3,ts1_3⟩ hq3
 dsimp only at hq3
 refine z ?_
 refine zd ?_ ?_<;>intro h4
 obtain⟨x4,ex4,ed4⟩:=av h4
 rw[ed4,P3] at hq3
 refine z ?_
 refine bF (bJ _) ex4 rfl (z ?_)
 obtain⟨hg5,hq3⟩:=aC hq3
 refine z ?_
 refine aM x4.data (eo _) (z ?_)
 exact bk ⟨(i3+1,_,(ts1_3+1)),hq3⟩
 rw[aA h4,P3] at hq3
 cases hq3
 refine dH (z ?_)
 first|exact e2|exact rfl
 change Has Tryz.prog _ [.agg [.int .i64 k,.int .i64 n,.str s,.aK false (List.map dP (x::items)),.aK false (List.map (jV dP) m)]] _
 refine hs ae Tryz.f62 ?_
 unfold rQ at hm
 dsimp only at hm
 refine z ?_
 refine ci ae Tryz.f88 (z ?_)
 obtain⟨hg1,hm⟩:=ah hm
 obtain⟨hg2,hm⟩:=ah hm
 refine z ?_
 refine wZ (z ?_)
 refine ei (z ?_)
 refine lg (α:=Nat×List bA×Nat) ae (fun(iw,s1,ts1)=>(P3 (List.drop iw m) s1=some r,⟨23,[(12,.int .i64 iw),(11,.int .i64 ↑m.length),(10,.aK false (List.map (jV dP) m)),(3,.own 1 ts1),(2,.aD)]⟩,⟨[(1,.row 5 (s1.map dP) ts1 false),(0,.cells [.int .i64 k,.int .i64 n,.str s,.aK false (List.map dP (x::items)),.aK false (List.map (jV dP) m)])],2,0,[],[]⟩,List.length m-iw)) ⟨(0,_,(1)),hm⟩ ?_
 rintro⟨i3,s1_3,ts1_3⟩ hq3
 dsimp only at hq3
 refine z ?_
 refine zd ?_ ?_<;>intro h4
 obtain⟨x4,ex4,ed4⟩:=av h4
 rw[ed4,P3] at hq3
 refine z ?_
 refine bF (bJ _) ex4 rfl (z ?_)
 obtain⟨hg5,hq3⟩:=aC hq3
 refine z ?_
 refine aM x4.data (eo _) (z ?_)
 exact bk ⟨(i3+1,_,(ts1_3+1)),hq3⟩
 rw[aA h4,P3] at hq3
 cases hq3
 refine dH (z ?_)
 first|exact e2|exact rfl
def pz (rec:bA->Int->Option Int) (level:Int):List bA->Option Int
 |[]=>some 0
 |x::r=>(dD (level+1)).bind fun _=>(rec x (level+1)).bind fun e=>if e=0 then pz rec level r else some e
def jW:Nat->bA->Int->Option Int
 |0,_,_=>none
 |n+1,d,level=>if level>16 then some 9 else(xU d.c).bind fun e=>if e=0 then(rQ d.c).bind fun l=>(aR l).bind fun _=>pz (jW n) level l else some e
theorem Ld:∀{n:Nat} {d:bA} {level r:Int} (hm:jW n d level=some r),Has Tryz.prog 35 [.agg (cS d),.int .i64 level] fun s=>s= .int .i64 r:=by
 intro n
 induction n with
 |zero=>intro d level r hm;cases hm
 |succ n ih=>
  intro d level r hm
  refine hs ae Tryz.f35 ?_
  unfold jW at hm
  refine z ?_
  refine zd ?_ ?_<;>intro h1
  ·rw[HP h1] at hm
   cases hm
   exact fc
  ·rw[TP h1] at hm
   obtain⟨v2,e2,hm⟩:=aa hm
   refine ce (Rd e2) (z ?_)
   refine zn ?_ ?_<;>intro h3
   ·rw[TP h3] at hm
    cases hm
    exact fc
   ·rw[HP h3] at hm
    obtain⟨v4,e4,hm⟩:=aa hm
    refine ce (Lc e4) (z ?_)
    obtain⟨hg5,hm⟩:=ah hm
    refine lg (α:=Nat) ae (fun iw=>(pz (jW n) level (List.drop iw v4)=some r,⟨31,[(19,.int .i64 iw),(18,.int .i64 ↑v4.length),(17,.aK false (List.map dP v4)),(4,.int .i64 0),(1,.int .i64 level)]⟩,⟨[(0,.cells (cS d))],1,0,[],[]⟩,List.length v4-iw)) ⟨(0),hm⟩ ?_
    intro i6 hq6
    dsimp only at hq6
    refine z ?_
    refine zd ?_ ?_<;>intro h7
    ·obtain⟨x7,ex7,ed7⟩:=av h7
     rw[ed7,pz] at hq6
     refine z ?_
     obtain⟨hg8,hq6⟩:=ah hq6
     refine bF (eo _) ex7 rfl (z ?_)
     obtain⟨v9,e9,hq6⟩:=aa hq6
     refine ce (ih e9) (z ?_)
     refine zn ?_ ?_<;>intro h10
     ·rw[TP h10] at hq6
      cases hq6
      exact fc
     ·rw[HP h10] at hq6
      exact bk ⟨i6+1,hq6⟩
    ·rw[aA h7,pz] at hq6
     cases hq6
     exact fc
def mR (d:bA):Option Int:=jW 18 d 1
theorem BD {d:bA} {r:Int} (hm:mR d=some r):Has Tryz.prog 22 [.agg (cS d)] fun s=>s= .int .i64 r:=by
 refine hs ae Tryz.f22 ?_
 unfold mR at hm
 refine z ?_
 replace hm:=aJ hm
 obtain⟨v1,e1,hm⟩:=aa hm
 refine ce (Ld e1) (z ?_)
 cases hm
 exact fc
abbrev sEq:List UInt8:=[61,61]
def opsN:List (List UInt8):=[[60],[60,61],[62],[62,61],[61,61],[33,61]]
def pD (u:Int):Option (cL×Int):=(K6 opsN sEq).bind fun c=>if c then(ya u).bind fun ok=>if ok then
  (dD (u-1)).bind fun _=>(lr (u-1)).bind fun f1=>(fZ ⟨[⟨-100000000000,f1⟩],[⟨-1000000000000000,u-1⟩]⟩).bind fun less=>
  (dD (0-u)).bind fun _=>(lr (0-u)).bind fun g=>(dD (0-g)).bind fun _=>(lr u).bind fun h=>(fZ ⟨[⟨0-g,h⟩],[⟨u,u⟩]⟩).bind fun one=>some (one,0)
 else some (⟨[],[]⟩,1) else some (⟨[],[]⟩,8)
theorem Lw {u:Int} {r:cL×Int} (hm:pD u=some r):bp Tryz.prog 108 [.str sEq,.int .i64 u] fun s=>s= .dZ [.agg (cN r.1),.int .i64 r.2]:=by
 refine ht ae Tryz.f108 ?_
 unfold pD at hm
 refine z ?_
 obtain⟨v1,e1,hm⟩:=aa hm
 refine b6 (Ss e1) rfl (z ?_)
 refine zm ?_ ?_<;>intro h2
 rw[TP (nt h2)] at hm
 cases hm
 refine a8 (z ?_)
 exact mt
 rw[HP h2] at hm
 obtain⟨v3,e3,hm⟩:=aa hm
 refine ce (IN e3) (z ?_)
 refine zm ?_ ?_<;>intro h4
 rw[TP (nt h4)] at hm
 cases hm
 refine a8 (z ?_)
 exact mt
 rw[HP h4] at hm
 obtain⟨hg5,hm⟩:=ah hm
 refine z ?_
 obtain⟨v7,e7,hm⟩:=aa hm
 refine ce (vT e7) (z ?_)
 obtain⟨v8,e8,hm⟩:=aa hm
 refine bI (fx e8) (z ?_)
 obtain⟨hg9,hm⟩:=ah hm
 obtain⟨v10,e10,hm⟩:=aa hm
 refine ce (vT e10) (z ?_)
 obtain⟨hg11,hm⟩:=ah hm
 refine z ?_
 obtain⟨v13,e13,hm⟩:=aa hm
 refine ce (vT e13) (z ?_)
 obtain⟨v14,e14,hm⟩:=aa hm
 refine bI (fx e14) (z ?_)
 cases hm
 exact mst
def wU (s:List UInt8):Option (List bj×Int):=(pL s).bind fun l=>some (l,0)
theorem Lx {s:List UInt8} {r:List bj×Int} (hm:wU s=some r):bp Tryz.prog 109 [.str sEq,.str s] fun v=>v= .dZ [.agg [aE r.1],.int .i64 r.2]:=by
 refine ht ae Tryz.f109 ?_
 unfold wU at hm
 refine z ?_
 obtain⟨v1,e1,hm⟩:=aa hm
 refine ce (Ht e1) (z ?_)
 cases hm
 exact mst
def scN (n:cL):bM:=⟨false,false,false,n.ints,n.bC,[]⟩
def scL (l:List bj):bM:=⟨false,false,false,[],[],l⟩
def jA (d:dt bA):Option (bM×Int):=if d.kind=3 then(pD d.num).bind fun p=>some (scN p.1,p.2) else(wU d.str).bind fun p=>some (scL p.1,p.2)
theorem u7 {d:dt bA} {r:bM×Int} (hm:jA d=some r):bp Tryz.prog 89 [.str sEq,.agg (iC dP d)] fun v=>v= .dZ [.agg (cq r.1),.int .i64 r.2]:=by
 refine ht ae Tryz.f89 ?_
 unfold jA at hm
 refine z ?_
 refine zd ?_ ?_<;>intro h1
 rw[HP h1] at hm
 obtain⟨v2,e2,hm⟩:=aa hm
 refine ct (Lw e2) (z ?_)
 cases hm
 refine a8 (z ?_)
 exact mt
 rw[TP h1] at hm
 obtain⟨v3,e3,hm⟩:=aa hm
 refine ct (Lx e3) (z ?_)
 cases hm
 refine a8 (z ?_)
 exact mt
def Gj (d:bA):Option (bM×Int):=(mR d).bind fun e=>if e=0 then
  if d.c.kind=1 then some (⟨true,false,false,[],[],[]⟩,0) else
  if d.c.kind=2 then some (⟨false,decide (d.c.num=0),decide (d.c.num=1),[],[],[]⟩,0) else
  if d.c.kind=3 then jA d.c else if d.c.kind=4 then jA d.c else some (et,11)
 else some (et,e)
theorem Gi {d:bA} {r:bM×Int} (hm:Gj d=some r):bp Tryz.prog 63 [.agg (cS d)] fun v=>v= .dZ [.agg (cq r.1),.int .i64 r.2]:=by
 refine ht ae Tryz.f63 ?_
 unfold Gj at hm
 refine z ?_
 obtain⟨v1,e1,hm⟩:=aa hm
 refine ce (BD e1) (z ?_)
 refine zn ?_ ?_<;>intro h2
 rw[TP h2] at hm
 cases hm
 refine a8 (z ?_)
 exact mt
 rw[HP h2] at hm
 refine zd ?_ ?_<;>intro h3
 rw[HP h3] at hm
 cases hm
 refine a8 (z ?_)
 exact mt
 rw[TP h3] at hm
 refine zd ?_ ?_<;>intro h4
 rw[HP h4] at hm
 cases hm
 refine a8 (z ?_)
 exact mt
 rw[TP h4] at hm
 refine zd ?_ ?_<;>intro h5
 rw[HP h5] at hm
 refine LA h5 (z ?_)
 replace hm:=aJ hm
 obtain⟨v6,e6,hm⟩:=aa hm
 refine ct (u7 e6) (z ?_)
 cases hm
 exact mst
 rw[TP h5] at hm
 refine zd ?_ ?_<;>intro h7
 rw[HP h7] at hm
 replace hm:=aJ hm
 obtain⟨v8,e8,hm⟩:=aa hm
 refine ct (u7 e8) (z ?_)
 cases hm
 exact mst
 rw[TP h7] at hm
 cases hm
 refine a8 (z ?_)
 exact mt
def nums (s:bM):cL:=⟨s.ints,s.bC⟩
def je (s:bM):Option Bool:=(kU ⟨s.ints,s.bC⟩).bind fun c=>if c then iA s.strs else some false
theorem ng {s:bM} {r:Bool} (hm:je s=some r):bp Tryz.prog 139 [.agg (cq s)] fun v=>v= .bool r:=by
 refine ht ae Tryz.f139 ?_
 unfold je at hm
 refine z ?_
 obtain⟨v1,e1,hm⟩:=aa hm
 refine ct (JN e1) (z ?_)
 refine zr ?_ ?_<;>intro h2
 rw[HP h2] at hm
 replace hm:=aJ hm
 obtain⟨v3,e3,hm⟩:=aa hm
 refine ct (qW e3) (z ?_)
 cases hm
 exact mst
 rw[TP (nt h2)] at hm
 cases hm
 exact mst
def qu (s:bM):Option bM:=(je s).bind fun c=>if c then some s else some et
theorem vN {s r:bM} (hm:qu s=some r):bp Tryz.prog 103 [.agg (cq s)] fun v=>v= .agg (cq r):=by
 refine ht ae Tryz.f103 ?_
 unfold qu at hm
 refine z ?_
 obtain⟨v1,e1,hm⟩:=aa hm
 refine ct (ng e1) (z ?_)
 refine zm ?_ ?_<;>intro h2
 rw[TP (nt h2)] at hm
 cases hm
 refine a8 (z ?_)
 exact mt
 rw[HP h2] at hm
 cases hm
 exact mst
def S1:Option bM:=LG.bind fun n=>S2.bind fun l=>some ⟨true,true,true,n.ints,n.bC,l⟩
theorem S0 {r:bM} (hm:S1=some r):bp Tryz.prog 173 [] fun v=>v= .agg (cq r):=by
 refine ht ae Tryz.f173 ?_
 unfold S1 at hm
 refine z ?_
 obtain⟨v1,e1,hm⟩:=aa hm
 refine ce (Jo e1) (z ?_)
 obtain⟨v2,e2,hm⟩:=aa hm
 refine ce (Jp e2) (z ?_)
 cases hm
 exact mst
def combine (is:Bool->Bool->Option Bool) (ns:cL->cL->Option cL) (ls:List bj->List bj->Option (List bj)) (a b:bM):Option bM:=
 (qu a).bind fun a=>(qu b).bind fun b=>(is a.null b.null).bind fun x=>(is a.sE b.sE).bind fun y=>(is a.rY b.rY).bind fun z=>
 (ns ⟨a.ints,a.bC⟩ ⟨b.ints,b.bC⟩).bind fun n=>(ls a.strs b.strs).bind fun l=>some ⟨x,y,z,n.ints,n.bC,l⟩
theorem wu {fi fn fs:FuncId} {is:Bool->Bool->Option Bool} {ns:cL->cL->Option cL} {ls:List bj->List bj->Option (List bj)}
  (hi:∀{x y r},is x y=some r->Has Tryz.prog fi [.bool x,.bool y] fun s=>s= .bool r) (hn:∀{x y r},ns x y=some r->bp Tryz.prog fn [.agg (cN x),.agg (cN y)] fun s=>s= .agg (cN r))
  (hs:∀{x y r},ls x y=some r->bp Tryz.prog fs [.agg [aE x],.agg [aE y]] fun s=>s= .agg [aE r]) {a b r:bM} (hm:combine is ns ls a b=some r):
  bp Tryz.prog 78 [.agg (cq a),.agg (cq b),.func (.func fi) [] [],.func (.func fn) [] [],.func (.func fs) [] []] fun v=>v= .agg (cq r):=by
 refine ht ae Tryz.f78 ?_
 unfold combine at hm
 refine z ?_
 refine dg ae [0,1,0,7,15,31] [] (z ?_)
 obtain⟨v1,e1,hm⟩:=aa hm
 refine ct (vN e1) (z ?_)
 obtain⟨v2,e2,hm⟩:=aa hm
 refine ct (vN e2) (z ?_)
 refine dg ae [0,0,2,0,8,31,0,0,128,0,512,2047,0,0,8192,0,32768,131071,0,0,524288,0,2097152,8388607,0,0,33554432,0,134217728,536870911,1073741823,2147483647] [] (z ?_)
 obtain⟨v3,e3,hm⟩:=aa hm
 refine ce (hi e3) (z ?_)
 obtain⟨v4,e4,hm⟩:=aa hm
 refine ce (hi e4) (z ?_)
 obtain⟨v5,e5,hm⟩:=aa hm
 refine ce (hi e5) (z ?_)
 obtain⟨v6,e6,hm⟩:=aa hm
 refine ct (hn e6) (z ?_)
 obtain⟨v7,e7,hm⟩:=aa hm
 refine ct (hs e7) (z ?_)
 cases hm
 exact mst
theorem QI {x y r:Bool} (hm:Tq x y=some r):Has Tryz.prog 79 [.bool x,.bool y] fun s=>s= .bool r:=by
 refine hs ae Tryz.f79 ?_
 unfold Tq at hm
 refine z ?_
 refine zr ?_ ?_<;>intro h1
 rw[HP h1] at hm
 cases hm
 exact fc
 rw[TP (nt h1)] at hm
 cases hm
 exact fc
theorem FZ {x y r:Bool} (hm:lh x y=some r):Has Tryz.prog 110 [.bool x,.bool y] fun s=>s= .bool r:=by
 refine hs ae Tryz.f110 ?_
 unfold lh at hm
 refine z ?_
 refine zr ?_ ?_<;>intro h1
 rw[HP h1] at hm
 cases hm
 exact fc
 rw[TP (nt h1)] at hm
 cases hm
 exact fc
def orS (a b:bM):Option bM:=combine Tq orN Tp a b
theorem Nf {a b r:bM} (hm:orS a b=some r):bp Tryz.prog 52 [.agg (cq a),.agg (cq b)] fun v=>v= .agg (cq r):=by
 refine ht ae Tryz.f52 ?_
 unfold orS at hm
 refine z ?_
 replace hm:=aJ hm
 obtain⟨v1,e1,hm⟩:=aa hm
 refine ct (wu QI Ue AJ e1) (z ?_)
 cases hm
 exact mst
def pa (a b:bM):Option bM:=combine lh ld jP a b
theorem KB {a b r:bM} (hm:pa a b=some r):bp Tryz.prog 90 [.agg (cq a),.agg (cq b)] fun v=>v= .agg (cq r):=by
 refine ht ae Tryz.f90 ?_
 unfold pa at hm
 refine z ?_
 replace hm:=aJ hm
 obtain⟨v1,e1,hm⟩:=aa hm
 refine ct (wu FZ rn nK e1) (z ?_)
 cases hm
 exact mst
def jv (k n:Int) (s:List UInt8):bA:= .mk ⟨k,n,s,[],[]⟩
def mH (s:bM):Option (bA×Bool):=(qu s).bind fun s=>(lk ⟨s.ints,s.bC⟩).bind fun p=>(ln s.strs).bind fun q=>
 if s.null then some (jv 1 0 [],true) else if s.sE then some (jv 2 0 [],true) else if s.rY then some (jv 2 1 [],true) else
 if p.2 then some (jv 3 p.1 [],true) else if q.2 then some (jv 4 0 q.1,true) else some (jv 0 0 [],false)
theorem yW {s:bM} {r:bA×Bool} (hm:mH s=some r):bp Tryz.prog 83 [.agg (cq s)] fun v=>v= .dZ [.agg (cS r.1),.bool r.2]:=by
 refine ht ae Tryz.f83 ?_
 unfold mH at hm
 refine z ?_
 obtain⟨v1,e1,hm⟩:=aa hm
 refine ct (vN e1) (z ?_)
 obtain⟨v2,e2,hm⟩:=aa hm
 refine ct (rr e2) (z ?_)
 obtain⟨v3,e3,hm⟩:=aa hm
 refine ct (ru e3) (z ?_)
 refine zr ?_ ?_<;>intro h4
 rw[HP h4] at hm
 cases hm
 refine a8 (z ?_)
 exact mt
 rw[TP (nt h4)] at hm
 refine zr ?_ ?_<;>intro h5
 rw[HP h5] at hm
 cases hm
 refine a8 (z ?_)
 exact mt
 rw[TP (nt h5)] at hm
 refine zr ?_ ?_<;>intro h6
 rw[HP h6] at hm
 cases hm
 refine a8 (z ?_)
 exact mt
 rw[TP (nt h6)] at hm
 refine zr ?_ ?_<;>intro h7
 rw[HP h7] at hm
 cases hm
 refine a8 (z ?_)
 exact mt
 rw[TP (nt h7)] at hm
 refine zr ?_ ?_<;>intro h8
 rw[HP h8] at hm
 cases hm
 refine a8 (z ?_)
 exact mt
 rw[TP (nt h8)] at hm
 cases hm
 refine a8 (z ?_)
 exact mt
def lA (s:bM):Option Bool:=(mH s).bind fun p=>some (!p.2)
theorem oc {s:bM} {r:Bool} (hm:lA s=some r):bp Tryz.prog 58 [.agg (cq s)] fun v=>v= .bool r:=by
 refine ht ae Tryz.f58 ?_
 unfold lA at hm
 refine z ?_
 obtain⟨v1,e1,hm⟩:=aa hm
 refine ct (yW e1) (z ?_)
 cases hm
 exact mst
def fE (a b:bM):Option Bool:=(pa a b).bind fun s=>lA s
theorem oV {a b:bM} {r:Bool} (hm:fE a b=some r):bp Tryz.prog 64 [.agg (cq a),.agg (cq b)] fun v=>v= .bool r:=by
 refine ht ae Tryz.f64 ?_
 unfold fE at hm
 refine z ?_
 obtain⟨v1,e1,hm⟩:=aa hm
 refine ct (KB e1) (z ?_)
 replace hm:=aJ hm
 obtain⟨v2,e2,hm⟩:=aa hm
 refine ct (oc e2) (z ?_)
 cases hm
 exact mst
def kY (s:bM):Option (bA×Bool):=(mH s).bind fun p=>if p.2 then(Gj p.1).bind fun q=>(fE s q.1).bind fun c=>if c then some (p.1,true) else some (jv 0 0 [],false) else some (jv 0 0 [],false)
theorem uA {s:bM} {r:bA×Bool} (hm:kY s=some r):bp Tryz.prog 57 [.agg (cq s)] fun v=>v= .dZ [.agg (cS r.1),.bool r.2]:=by
 refine ht ae Tryz.f57 ?_
 unfold kY at hm
 refine z ?_
 obtain⟨v1,e1,hm⟩:=aa hm
 refine ct (yW e1) (z ?_)
 refine zm ?_ ?_<;>intro h2
 rw[TP (nt h2)] at hm
 cases hm
 refine a8 (z ?_)
 exact mt
 rw[HP h2] at hm
 obtain⟨v3,e3,hm⟩:=aa hm
 refine ct (Gi e3) (z ?_)
 obtain⟨v4,e4,hm⟩:=aa hm
 refine ct (oV e4) (z ?_)
 refine zm ?_ ?_<;>intro h5
 rw[TP (nt h5)] at hm
 cases hm
 refine a8 (z ?_)
 exact mt
 rw[HP h5] at hm
 cases hm
 exact mst
def tri (a b:Bool) (k:Option Int):Option Int:=if(a==true&&(b==false&&true)) then some (-1) else if(a==false&&(b==true&&true)) then some 1 else k
def wy (a b:bM):Option Int:=(je a).bind fun x=>if x then(je b).bind fun y=>if y then
  tri a.null b.null (tri a.sE b.sE (tri a.rY b.rY ((OY ⟨a.ints,a.bC⟩ ⟨b.ints,b.bC⟩).bind fun c=>if c=0 then EF a.strs b.strs else some c)))
 else some 0 else some 0
theorem EC {a b:bM} {r:Int} (hm:wy a b=some r):bp Tryz.prog 172 [.agg (cq a),.agg (cq b)] fun v=>v= .int .i64 r:=by
 refine ht ae Tryz.f172 ?_
 unfold wy at hm
 refine z ?_
 obtain⟨v1,e1,hm⟩:=aa hm
 refine ct (ng e1) (z ?_)
 refine zm ?_ ?_<;>intro h2
 rw[TP (nt h2)] at hm
 cases hm
 exact mst
 rw[HP h2] at hm
 obtain⟨v3,e3,hm⟩:=aa hm
 refine ct (ng e3) (z ?_)
 refine zm ?_ ?_<;>intro h4
 rw[TP (nt h4)] at hm
 cases hm
 exact mst
 rw[HP h4] at hm
 unfold tri at hm
 refine z ?_
 refine bE ae ?_
 refine z ?_
 refine cC (j:=0) rfl ii (z ?_)
 refine zr ?_ ?_<;>intro h5
 rw[HP h5] at hm
 cases hm
 exact mst
 rw[TP (nt h5)] at hm
 refine zr ?_ ?_<;>intro h6
 rw[HP h6] at hm
 cases hm
 exact mst
 rw[TP (nt h6)] at hm
 refine bE ae ?_
 refine z ?_
 refine cC (j:=1) rfl ii (z ?_)
 refine zr ?_ ?_<;>intro h7
 rw[HP h7] at hm
 cases hm
 exact mst
 rw[TP (nt h7)] at hm
 refine zr ?_ ?_<;>intro h8
 rw[HP h8] at hm
 cases hm
 exact mst
 rw[TP (nt h8)] at hm
 refine bE ae ?_
 refine z ?_
 refine cC (j:=2) rfl ii (z ?_)
 refine zr ?_ ?_<;>intro h9
 rw[HP h9] at hm
 cases hm
 exact mst
 rw[TP (nt h9)] at hm
 refine zr ?_ ?_<;>intro h10
 rw[HP h10] at hm
 cases hm
 exact mst
 rw[TP (nt h10)] at hm
 refine bE ae ?_
 refine z ?_
 obtain⟨v11,e11,hm⟩:=aa hm
 refine ct (SA e11) (z ?_)
 refine zn ?_ ?_<;>intro h12
 rw[TP h12] at hm
 cases hm
 exact mst
 rw[HP h12] at hm
 replace hm:=aJ hm
 obtain⟨v13,e13,hm⟩:=aa hm
 refine ct (Bs e13) (z ?_)
 cases hm
 exact mst
abbrev zV:bt Va:=TL Va
abbrev JA:Va:= .mk (TL Va) (TL Va)
def sw (s:bM):Option Bool:=if s.null then some false else if s.sE then some false else if s.rY then some false else
 (aR s.ints).bind fun _=>(aR s.bC).bind fun _=>(aR s.strs).bind fun _=>some (decide ((s.ints.length:Int)+s.bC.length+s.strs.length=0))
theorem Di {s:bM} {r:Bool} (hm:sw s=some r):Has Tryz.prog 82 [.agg (cq s)] fun v=>v= .bool r:=by
 refine hs ae Tryz.f82 ?_
 unfold sw at hm
 refine z ?_
 refine zm ?_ ?_<;>intro h1
 rw[TP (nt h1)] at hm
 refine zm ?_ ?_<;>intro h2
 rw[TP (nt h2)] at hm
 refine zm ?_ ?_<;>intro h3
 rw[TP (nt h3)] at hm
 obtain⟨hg4,hm⟩:=ah hm
 obtain⟨hg5,hm⟩:=ah hm
 obtain⟨hg6,hm⟩:=ah hm
 refine z ?_
 cases hm
 exact fc
 rw[HP h3] at hm
 cases hm
 exact fc
 rw[HP h2] at hm
 cases hm
 exact fc
 rw[HP h1] at hm
 cases hm
 exact fc
def mI (v:bt Va):Option Bool:=if v.any then some false else(aR v.lists).bind fun _=>(aR v.structs).bind fun _=>
 if(v.lists.length:Int)+v.structs.length=0 then(sw v.sc).bind fun c=>if c then some true else lA v.sc else some false
theorem kA {v:bt Va} {r:Bool} (hm:mI v=some r):bp Tryz.prog 56 [.agg (cg aN v)] fun s=>s= .bool r:=by
 refine ht ae Tryz.f56 ?_
 unfold mI at hm
 refine z ?_
 refine zm ?_ ?_<;>intro h1
 rw[TP (nt h1)] at hm
 obtain⟨hg2,hm⟩:=ah hm
 obtain⟨hg3,hm⟩:=ah hm
 refine z ?_
 refine zd ?_ ?_<;>intro h4
 rw[HP h4] at hm
 obtain⟨v5,e5,hm⟩:=aa hm
 refine ce (Di e5) (z ?_)
 refine zr ?_ ?_<;>intro h6
 rw[HP h6] at hm
 cases hm
 exact mst
 rw[TP (nt h6)] at hm
 replace hm:=aJ hm
 obtain⟨v7,e7,hm⟩:=aa hm
 refine ct (oc e7) (z ?_)
 cases hm
 exact mst
 rw[TP h4] at hm
 cases hm
 exact mst
 rw[HP h1] at hm
 cases hm
 exact mst
def y7 (x:Va):Option Bool:=if x.v.any then some x.d.any else some false
theorem DJ {x:Va} {r:Bool} (hm:y7 x=some r):Has Tryz.prog 216 [.agg (ec x)] fun s=>s= .bool r:=by
 refine hs ae Tryz.f216 ?_
 unfold y7 at hm
 refine z ?_
 refine zr ?_ ?_<;>intro h1
 rw[HP h1] at hm
 cases hm
 exact fc
 rw[TP (nt h1)] at hm
 cases hm
 exact fc
def plain (v:bt Va):Option Va:=some (.mk v v)
theorem ko {v:bt Va} {r:Va} (hm:plain v=some r):Has Tryz.prog 17 [.agg (cg aN v)] fun s=>s= .agg (ec r):=by
 refine hs ae Tryz.f17 ?_
 unfold plain at hm
 refine z ?_
 cases hm
 exact fc
def T2:Option Va:=plain ⟨true,et,[],[]⟩
theorem Qy {r:Va} (hm:T2=some r):Has Tryz.prog 29 [] fun s=>s= .agg (ec r):=by
 refine hs ae Tryz.f29 ?_
 unfold T2 at hm
 refine z ?_
 replace hm:=aJ hm
 obtain⟨v1,e1,hm⟩:=aa hm
 refine ce (ko e1) (z ?_)
 cases hm
 exact fc
def item (c:aV Va) (i:Int):Option (Va×Bool):=if i>=0 then(aR c.items).bind fun _=>if i<(c.items.length:Int) then(cJ c.items i).bind fun x=>some (x,true)
  else(aR c.rest).bind fun _=>if(c.rest.length:Int)>0 then(cJ c.rest 0).bind fun x=>some (x,true) else some (JA,false)
 else some (JA,false)
theorem A9 {c:aV Va} {i:Int} {r:Va×Bool} (hm:item c i=some r):Has Tryz.prog 66 [.agg (aS aN c),.int .i64 i] fun s=>s= .dZ [.agg (ec r.1),.bool r.2]:=by
 refine hs ae Tryz.f66 ?_
 unfold item at hm
 refine z ?_
 refine zd ?_ ?_<;>intro h1
 rw[HP h1] at hm
 obtain⟨hg2,hm⟩:=ah hm
 refine zd ?_ ?_<;>intro h3
 rw[HP h3] at hm
 obtain⟨j4,x4,en4,ex4,hm⟩:=az hm
 refine bP (cA _) en4 ex4 rfl (z ?_)
 cases hm
 exact fc
 rw[TP h3] at hm
 obtain⟨hg5,hm⟩:=ah hm
 refine LA h1 (z ?_)
 refine zd ?_ ?_<;>intro h6
 rw[HP h6] at hm
 obtain⟨j7,x7,en7,ex7,hm⟩:=az hm
 refine bP (cA _) en7 ex7 rfl (z ?_)
 cases hm
 exact fc
 rw[TP h6] at hm
 cases hm
 refine dH (z ?_)
 first|exact rfl|exact⟨rfl,rfl⟩
 rw[TP h1] at hm
 refine BV h1 (z ?_)
 cases hm
 refine dH (z ?_)
 first|exact rfl|exact⟨rfl,rfl⟩
def tj (w:List UInt8) (i:Int):List Sv.Edge->Option (Option Int)
 |[]=>some none
 |e::r=>(cJ w i).bind fun b=>if e.lo<=b.toNat then if(b.toNat:Int)<=e.hi then some (some e.to) else tj w i r else tj w i r
def xb (l:List bj) (w:List UInt8):Nat->Int->Int->Option Bool
 |0,_,s=>(cJ l s).bind fun x=>some x.acc
 |n+1,i,s=>(cJ l s).bind fun x=>(aR x.aI).bind fun _=>(tj w i x.aI).bind fun p=>match p with
  |some t=>xb l w n (i+1) t
  |none=>some false
def Hg (l:List bj) (w:List UInt8):Option Bool:=(aR l).bind fun _=>if(l.length:Int)=0 then some false else(FJ l).bind fun ok=>if ok then(aR w).bind fun _=>xb l w w.length 0 0 else some false
theorem S5 {l:List bj} {w:List UInt8} {r:Bool} (hm:Hg l w=some r):Has Tryz.prog 92 [.agg [aE l],.str w] fun s=>s= .bool r:=by
 refine hs ae Tryz.f92 ?_
 unfold Hg at hm
 refine z ?_
 obtain⟨hg1,hm⟩:=ah hm
 refine zd ?_ ?_<;>intro h2
 rw[HP h2] at hm
 cases hm
 exact fc
 rw[TP h2] at hm
 obtain⟨v3,e3,hm⟩:=aa hm
 refine ce (oE e3) (z ?_)
 refine zm ?_ ?_<;>intro h4
 rw[TP (nt h4)] at hm
 cases hm
 exact fc
 rw[HP h4] at hm
 obtain⟨hg5,hm⟩:=ah hm
 refine lg (α:=Nat×Int) ae (fun(iw,s1)=>(xb l w (w.length-iw) (iw:Int) s1=some r,⟨59,[(21,.int .i64 iw),(20,.int .i64 ↑w.length),(5,.int .i64 s1),(4,.bool false),(2,.ptr 0 0),(1,.str w)]⟩,⟨[(0,.cells [aE l])],1,0,[],[]⟩,w.length-iw)) ⟨(0,_),hm⟩ ?_
 rintro⟨i6,s1_6⟩ hq6
 dsimp only at hq6
 refine z ?_
 refine zd ?_ ?_<;>intro h7
 have h7':(i6:Int)<(((w.length):Nat):Int):=by(try simp only[V4,Wc,Wb,V7] at h7);omega
 rw[df h7',xb] at hq6
 refine z ?_
 obtain⟨j8,x8,en8,ex8,hq6⟩:=az hq6
 refine bD en8 ex8 rfl (z ?_)
 obtain⟨hg9,hq6⟩:=ah hq6
 refine bd rfl rfl ?_
 obtain⟨v10,hv10,hq6⟩:=aa hq6
 refine lg (α:=Nat) ae (fun iw=>(tj w (↑i6) (List.drop iw x8.aI)=some v10,⟨59,[(31,.int .i64 iw),(30,.int .i64 ↑x8.aI.length),(29,.aK false (List.map cR x8.aI)),(6,.int .i64 ↑i6),(21,.int .i64 ↑i6),(20,.int .i64 ↑w.length),(5,.int .i64 s1_6),(4,.bool false),(2,.ptr 0 0),(1,.str w)]⟩,⟨[(0,.cells [aE l])],1,0,[],[]⟩,List.length x8.aI-iw)) ⟨(0),hv10⟩ ?_
 intro i10 hq10
 dsimp only at hq10
 refine z ?_
 refine zd ?_ ?_<;>intro h11
 obtain⟨x11,ex11,ed11⟩:=av h11
 rw[ed11,tj] at hq10
 refine z ?_
 refine bx ex11 rfl (z ?_)
 refine dg ae [0,1,0,0,12,31,63,127,127,511,127,1151,4095,8191] [] (z ?_)
 obtain⟨j12,x12,en12,ex12,hq10⟩:=az hq10
 refine⟨_,_,en12,ex12,?_⟩
 refine z ?_
 refine zd ?_ ?_<;>intro h13
 rw[HP h13] at hq10
 refine⟨_,_,en12,ex12,?_⟩
 refine z ?_
 refine zd ?_ ?_<;>intro h14
 rw[HP h14] at hq10
 cases hq10
 dsimp only at hq6
 refine z ?_
 exact bk ⟨(i6+1,_),hq6⟩
 rw[TP h14] at hq10
 exact bk ⟨i10+1,hq10⟩
 rw[TP h13] at hq10
 exact bk ⟨i10+1,hq10⟩
 rw[aA h11,tj] at hq10
 cases hq10
 dsimp only at hq6
 refine z ?_
 cases hq6
 exact fc
 have h7':¬(i6:Int)<(((w.length):Nat):Int):=by(try simp only[V4,Wc,Wb,V7] at h7);omega
 rw[de h7',xb] at hq6
 refine z ?_
 obtain⟨j15,x15,en15,ex15,hq6⟩:=az hq6
 refine bD en15 ex15 rfl (z ?_)
 cases hq6
 exact fc
def oF (w:List UInt8):List (cW Va)->Option (Va×Int)
 |[]=>some (JA,3)
 |k::r=>(Hg k.set w).bind fun c=>if c then some (k.val,3) else oF w r
def l8 (w:List UInt8) (ks:List (cW Va)):List (dy Va)->Option (Va×Int)
 |[]=>(aR ks).bind fun _=>oF w ks
 |f::r=>if f.label=w then some (f.val,f.dR) else l8 w ks r
def view (c:aF Va) (w:List UInt8):Option (Va×Int):=(aR c.fields).bind fun _=>l8 w c.aw c.fields
theorem pN {c:aF Va} {w:List UInt8} {r:Va×Int} (hm:view c w=some r):Has Tryz.prog 70 [.agg (aG aN c),.str w] fun s=>s= .dZ [.agg (ec r.1),.int .i64 r.2]:=by
 refine hs ae Tryz.f70 ?_
 unfold view at hm
 refine z ?_
 obtain⟨hg1,hm⟩:=ah hm
 refine lg (α:=Nat) ae (fun iw=>(l8 w c.aw (List.drop iw c.fields)=some r,⟨41,[(13,.int .i64 iw),(12,.int .i64 ↑c.fields.length),(11,.aK false (List.map (cZ aN) c.fields)),(5,.int .i64 0),(4,.ptr 1 0),(2,.ptr 0 0),(1,.str w)]⟩,⟨[(1,.cells [.bool false,.bool false,.bool false,.bool false,.aD,.aD,.aD,.aD,.aD,.bool false,.bool false,.bool false,.bool false,.aD,.aD,.aD,.aD,.aD]),(0,.cells (aG aN c))],2,0,[],[]⟩,List.length c.fields-iw)) ⟨(0),hm⟩ ?_
 intro i2 hq2
 dsimp only at hq2
 refine z ?_
 refine zd ?_ ?_<;>intro h3
 obtain⟨x3,ex3,ed3⟩:=av h3
 rw[ed3,l8] at hq2
 refine z ?_
 refine bF (cP _) ex3 rfl (z ?_)
 refine zd ?_ ?_<;>intro h4
 rw[HP h4] at hq2
 refine dg ae [0,1,0,4,3,31] [⟨4,0,0,[1]⟩] (z ?_)
 cases hq2
 exact fc
 rw[TP h4] at hq2
 exact bk ⟨i2+1,hq2⟩
 rw[aA h3,l8] at hq2
 obtain⟨hg5,hq2⟩:=ah hq2
 refine bd rfl rfl ?_
 refine lg (α:=Nat) ae (fun iw=>(oF w (List.drop iw c.aw)=some r,⟨41,[(29,.int .i64 iw),(28,.int .i64 ↑c.aw.length),(27,.aK false (List.map (dI aN) c.aw)),(5,.int .i64 0),(4,.ptr 1 0),(1,.str w)]⟩,⟨[(1,.cells [.bool false,.bool false,.bool false,.bool false,.aD,.aD,.aD,.aD,.aD,.bool false,.bool false,.bool false,.bool false,.aD,.aD,.aD,.aD,.aD]),(0,.cells (aG aN c))],2,0,[],[]⟩,List.length c.aw-iw)) ⟨(0),hq2⟩ ?_
 intro i6 hq6
 dsimp only at hq6
 refine z ?_
 refine zd ?_ ?_<;>intro h7
 obtain⟨x7,ex7,ed7⟩:=av h7
 rw[ed7,oF] at hq6
 refine z ?_
 refine bF (cB _) ex7 rfl (z ?_)
 obtain⟨v8,e8,hq6⟩:=aa hq6
 refine ce (S5 e8) (z ?_)
 refine zr ?_ ?_<;>intro h9
 rw[HP h9] at hq6
 cases hq6
 exact fc
 rw[TP (nt h9)] at hq6
 exact bk ⟨i6+1,hq6⟩
 rw[aA h7,oF] at hq6
 cases hq6
 refine dH (z ?_)
 first|exact rfl|exact⟨rfl,rfl⟩
theorem Sh {ll:List (List Va)} {r:List Va} (hm:Sl ll=some r):Has Tryz.prog 179 [.aK false (ll.map (ik aN))] fun s=>s= .aK false (r.map aN):=by
 refine hs ae Tryz.f179 ?_
 unfold Sl at hm
 refine z ?_
 obtain⟨hg1,hm⟩:=ah hm
 obtain⟨v2,hv2,hm⟩:=aa hm
 refine lg (α:=Nat×Int) ae (fun(iw,s1)=>(K2 (List.drop iw ll) s1=some v2,⟨36,[(11,.int .i64 iw),(10,.int .i64 ↑ll.length),(9,.aK false (List.map (ik aN) ll)),(3,.int .i64 s1),(2,.aD),(0,.aK false (List.map (ik aN) ll))]⟩,⟨[],0,0,[],[]⟩,List.length ll-iw)) ⟨(0,_),hv2⟩ ?_
 rintro⟨i2,s1_2⟩ hq2
 dsimp only at hq2
 refine z ?_
 refine zd ?_ ?_<;>intro h3
 obtain⟨x3,ex3,ed3⟩:=av h3
 rw[ed3,K2] at hq2
 refine z ?_
 obtain⟨hg4,hq2⟩:=ah hq2
 obtain⟨hg5,hq2⟩:=ah hq2
 refine bx ex3 rfl (z ?_)
 refine zd ?_ ?_<;>intro h6
 rw[HP h6] at hq2
 cases hq2
 rw[TP h6] at hq2
 exact bk ⟨(i2+1,_),hq2⟩
 rw[aA h3,K2] at hq2
 cases hq2
 refine z ?_
 refine ci ae Tryz.f217 (z ?_)
 obtain⟨hg7,hm⟩:=ah hm
 refine zd ?_ ?_<;>intro h8
 rw[HP h8] at hm
 cases hm
 rw[TP h8] at hm
 refine gO (z ?_)
 refine⟨by simp only[ym,V4,WA,V5,Ws,V7];omega,?_⟩
 refine z ?_
 refine⟨by simp only[ym,V4,WA,V5,Ws,V7];omega,?_⟩
 refine z ?_
 refine zd ?_ ?_<;>intro h9
 refine⟨v2.toNat,by simp only[WA] at*;omega,by simp only[WA] at*;omega,by omega,E1 ?_⟩
 refine z ?_
 refine gO (z ?_)
 refine⟨0,rfl,Wd _,Ps (List.map aN []) rfl ?_⟩
 refine z ?_
 refine ei (z ?_)
 refine lg (α:=Nat×List Va×Nat) ae (fun(iw,s1,ts1)=>(xl (List.drop iw ll) s1=some r,⟨36,[(27,.int .i64 iw),(26,.int .i64 ↑ll.length),(25,.aK false (List.map (ik aN) ll)),(6,.own 0 ts1),(2,.aD)]⟩,⟨[(0,.row 18 (s1.map aN) ts1 false)],1,0,[],[]⟩,List.length ll-iw)) ⟨(0,_,(1)),hm⟩ ?_
 rintro⟨i10,s1_10,ts1_10⟩ hq10
 dsimp only at hq10
 refine z ?_
 refine zd ?_ ?_<;>intro h11
 obtain⟨x11,ex11,ed11⟩:=av h11
 rw[ed11,xl] at hq10
 refine z ?_
 refine bx ex11 rfl (z ?_)
 obtain⟨hg12,hq10⟩:=eu hq10
 refine z ?_
 refine jY (z ?_)
 exact bk ⟨(i10+1,_,(ts1_10+1)),hq10⟩
 rw[aA h11,xl] at hq10
 cases hq10
 refine dH (z ?_)
 first|exact e2|exact rfl
 refine z ?_
 refine ei (z ?_)
 refine cr 6 18 rfl ?_
 refine lg (α:=Nat×List Va×Nat) ae (fun(iw,s1,ts1)=>(xl (List.drop iw ll) s1=some r,⟨36,[(6,.own 0 ts1),(27,.int .i64 iw),(26,.int .i64 ↑ll.length),(25,.aK false (List.map (ik aN) ll)),(2,.aD)]⟩,⟨[(0,.row 18 (s1.map aN) ts1 false)],1,0,[],[]⟩,List.length ll-iw)) ⟨(0,_,(0)),hm⟩ ?_
 rintro⟨i13,s1_13,ts1_13⟩ hq13
 dsimp only at hq13
 refine z ?_
 refine zd ?_ ?_<;>intro h14
 obtain⟨x14,ex14,ed14⟩:=av h14
 rw[ed14,xl] at hq13
 refine z ?_
 refine bx ex14 rfl (z ?_)
 obtain⟨hg15,hq13⟩:=eu hq13
 refine z ?_
 refine jY (z ?_)
 exact bk ⟨(i13+1,_,(ts1_13+1)),hq13⟩
 rw[aA h14,xl] at hq13
 cases hq13
 refine dH (z ?_)
 first|exact e2|exact rfl
theorem K4 {a b r:List Va} (hm:kJ a b=some r):Has Tryz.prog 179 [.aK false [[.aK false (a.map aN)],[.aK false (b.map aN)]]] fun s=>s= .aK false (r.map aN):=Sh (wj hm)
def fb (c:aV Va):Option (List Va):=kJ c.items c.rest
theorem ia {c:aV Va} {r:List Va} (hm:fb c=some r):Has Tryz.prog 137 [.agg (aS aN c)] fun s=>s= .aK false (r.map aN):=by
 refine hs ae Tryz.f137 ?_
 unfold fb at hm
 refine z ?_
 replace hm:=aJ hm
 obtain⟨v1,e1,hm⟩:=aa hm
 refine fR (K4 e1) (z ?_)
 cases hm
 exact fc
def QB:List (cW Va)->List Va->Option (List Va)
 |[],out=>some out
 |k::r,out=>(push out k.val).bind fun out=>QB r out
def Mn (ks:List (cW Va)):List (dy Va)->List Va->Option (List Va)
 |[],out=>(aR ks).bind fun _=>QB ks out
 |f::r,out=>(push out f.val).bind fun out=>Mn ks r out
def gF (c:aF Va):Option (List Va):=(aR c.fields).bind fun _=>Mn c.aw c.fields []
theorem xt {c:aF Va} {r:List Va} (hm:gF c=some r):Has Tryz.prog 205 [.agg (aG aN c)] fun s=>s= .aK false (r.map aN):=by
 refine hs ae Tryz.f205 ?_
 unfold gF at hm
 refine z ?_
 obtain⟨hg1,hm⟩:=ah hm
 refine cr 3 18 rfl ?_
 refine lg (α:=Nat×List Va×Nat) ae (fun(iw,s1,ts1)=>(Mn c.aw (List.drop iw c.fields) s1=some r,⟨35,[(3,.own 1 ts1),(11,.int .i64 iw),(10,.int .i64 ↑c.fields.length),(9,.aK false (List.map (cZ aN) c.fields)),(2,.aD),(1,.ptr 0 0)]⟩,⟨[(1,.row 18 (s1.map aN) ts1 false),(0,.cells (aG aN c))],2,0,[],[]⟩,List.length c.fields-iw)) ⟨(0,_,(0)),hm⟩ ?_
 rintro⟨i2,s1_2,ts1_2⟩ hq2
 dsimp only at hq2
 refine z ?_
 refine zd ?_ ?_<;>intro h3
 obtain⟨x3,ex3,ed3⟩:=av h3
 rw[ed3,Mn] at hq2
 refine z ?_
 refine bF (cP _) ex3 rfl (z ?_)
 obtain⟨hg4,hq2⟩:=aC hq2
 refine z ?_
 refine aM x3.val (cA _) (z ?_)
 exact bk ⟨(i2+1,_,(ts1_2+1)),hq2⟩
 rw[aA h3,Mn] at hq2
 obtain⟨hg5,hq2⟩:=ah hq2
 refine bd rfl rfl ?_
 refine lg (α:=Nat×List Va×Nat) ae (fun(iw,s1,ts1)=>(QB (List.drop iw c.aw) s1=some r,⟨35,[(24,.int .i64 iw),(23,.int .i64 ↑c.aw.length),(22,.aK false (List.map (dI aN) c.aw)),(3,.own 1 ts1),(2,.aD)]⟩,⟨[(1,.row 18 (s1.map aN) ts1 false),(0,.cells (aG aN c))],2,0,[],[]⟩,List.length c.aw-iw)) ⟨(0,_,ts1_2),hq2⟩ ?_
 rintro⟨i6,s1_6,ts1_6⟩ hq6
 dsimp only at hq6
 refine z ?_
 refine zd ?_ ?_<;>intro h7
 obtain⟨x7,ex7,ed7⟩:=av h7
 rw[ed7,QB] at hq6
 refine z ?_
 refine bF (cB _) ex7 rfl (z ?_)
 obtain⟨hg8,hq6⟩:=aC hq6
 refine z ?_
 refine aM x7.val (cA _) (z ?_)
 exact bk ⟨(i6+1,_,(ts1_6+1)),hq6⟩
 rw[aA h7,QB] at hq6
 cases hq6
 refine dH (z ?_)
 first|exact e2|exact rfl
def SF:List (aF Va)->List Va->Option (List Va)
 |[],out=>some out
 |c::r,out=>(gF c).bind fun l=>(mu out l).bind fun out=>SF r out
def O6 (ss:List (aF Va)):List (aV Va)->List Va->Option (List Va)
 |[],out=>(aR ss).bind fun _=>SF ss out
 |c::r,out=>(fb c).bind fun l=>(mu out l).bind fun out=>O6 ss r out
def py (v:bt Va):Option (List Va):=(aR v.lists).bind fun _=>O6 v.structs v.lists []
theorem Lb {v:bt Va} {r:List Va} (hm:py v=some r):Has Tryz.prog 159 [.agg (cg aN v)] fun s=>s= .aK false (r.map aN):=by
 refine hs ae Tryz.f159 ?_
 unfold py at hm
 refine z ?_
 obtain⟨hg1,hm⟩:=ah hm
 refine cr 3 18 rfl ?_
 refine lg (α:=Nat×List Va×Nat) ae (fun(iw,s1,ts1)=>(O6 v.structs (List.drop iw v.lists) s1=some r,⟨33,[(3,.own 1 ts1),(11,.int .i64 iw),(10,.int .i64 ↑v.lists.length),(9,.aK false (List.map (aS aN) v.lists)),(2,.aD),(1,.ptr 0 0)]⟩,⟨[(1,.row 18 (s1.map aN) ts1 false),(0,.cells (cg aN v))],2,0,[],[]⟩,List.length v.lists-iw)) ⟨(0,_,(0)),hm⟩ ?_
 rintro⟨i2,s1_2,ts1_2⟩ hq2
 dsimp only at hq2
 refine z ?_
 refine zd ?_ ?_<;>intro h3
 obtain⟨x3,ex3,ed3⟩:=av h3
 rw[ed3,O6] at hq2
 refine z ?_
 refine bx ex3 rfl (z ?_)
 obtain⟨v4,e4,hq2⟩:=aa hq2
 refine ce (ia e4) (z ?_)
 obtain⟨hg5,hq2⟩:=eu hq2
 refine z ?_
 refine jY (z ?_)
 exact bk ⟨(i2+1,_,(ts1_2+1)),hq2⟩
 rw[aA h3,O6] at hq2
 obtain⟨hg6,hq2⟩:=ah hq2
 refine bd rfl rfl ?_
 refine lg (α:=Nat×List Va×Nat) ae (fun(iw,s1,ts1)=>(SF (List.drop iw v.structs) s1=some r,⟨33,[(23,.int .i64 iw),(22,.int .i64 ↑v.structs.length),(21,.aK false (List.map (aG aN) v.structs)),(3,.own 1 ts1),(2,.aD)]⟩,⟨[(1,.row 18 (s1.map aN) ts1 false),(0,.cells (cg aN v))],2,0,[],[]⟩,List.length v.structs-iw)) ⟨(0,_,ts1_2),hq2⟩ ?_
 rintro⟨i7,s1_7,ts1_7⟩ hq7
 dsimp only at hq7
 refine z ?_
 refine zd ?_ ?_<;>intro h8
 obtain⟨x8,ex8,ed8⟩:=av h8
 rw[ed8,SF] at hq7
 refine z ?_
 refine bx ex8 rfl (z ?_)
 obtain⟨v9,e9,hq7⟩:=aa hq7
 refine ce (xt e9) (z ?_)
 obtain⟨hg10,hq7⟩:=eu hq7
 refine z ?_
 refine jY (z ?_)
 exact bk ⟨(i7+1,_,(ts1_7+1)),hq7⟩
 rw[aA h8,SF] at hq7
 cases hq7
 refine dH (z ?_)
 first|exact e2|exact rfl
def Ea (l:List (dy Va)) (f:dy Va) (i:Int):Option Bool:=if i>0 then(dD (i-1)).bind fun _=>(cJ l (i-1)).bind fun p=>some (Op.bytesLess p.label f.label) else some true
def te (l:List (dy Va)):List (dy Va)->Int->Option Bool
 |[],_=>some true
 |f::r,i=>if f.dR=1 then(Ea l f i).bind fun c=>if c then te l r (i+1) else some false else if f.dR=2 then(Ea l f i).bind fun c=>if c then te l r (i+1) else some false else some false
def n5 (l:List (dy Va)):Option Bool:=(aR l).bind fun _=>te l l 0
theorem GG {l:List (dy Va)} {r:Bool} (hm:n5 l=some r):Has Tryz.prog 203 [.aK false (l.map (cZ aN))] fun s=>s= .bool r:=by
 refine hs ae Tryz.f203 ?_
 unfold n5 at hm
 refine z ?_
 obtain⟨hg1,hm⟩:=ah hm
 refine lg (α:=Nat) ae (fun iw=>(te l (List.drop iw l) (iw:Int)=some r,⟨36,[(7,.int .i64 iw),(6,.int .i64 ↑l.length),(5,.aK false (List.map (cZ aN) l)),(2,.bool false),(0,.aK false (List.map (cZ aN) l))]⟩,⟨[],0,0,[],[]⟩,List.length l-iw)) ⟨(0),hm⟩ ?_
 intro i2 hq2
 dsimp only at hq2
 refine z ?_
 refine zd ?_ ?_<;>intro h3
 obtain⟨x3,ex3,ed3⟩:=av h3
 rw[ed3,te] at hq2
 refine z ?_
 refine bF (cP _) ex3 rfl (z ?_)
 refine dg ae [0,1,3,7,15,31,63,127,255,511,1023,2047,4095,4095,12287,32767,65535,131071,4095,266239,1048575,2097151,4194303] [] (z ?_)
 refine zn ?_ ?_<;>intro h4
 rw[TP h4] at hq2
 refine zn ?_ ?_<;>intro h5
 rw[TP h5] at hq2
 cases hq2
 exact fc
 rw[HP h5] at hq2
 unfold Ea at hq2
 refine z ?_
 refine zd ?_ ?_<;>intro h6
 rw[HP h6] at hq2
 rw[VY] at hq2
 refine z ?_
 obtain⟨hg7,hq2⟩:=ah hq2
 rw[VY] at hq2
 obtain⟨j8,x8,en8,ex8,hq2⟩:=az hq2
 refine bP (cP _) en8 ex8 rfl ?_
 dsimp only[Option.bind_some] at hq2
 refine z ?_
 refine zm ?_ ?_<;>intro h9
 rw[TP (nt h9)] at hq2
 cases hq2
 exact fc
 rw[HP h9] at hq2
 exact bk ⟨i2+1,hq2⟩
 rw[TP h6] at hq2
 dsimp only[Option.bind_some] at hq2
 rw[HP rfl] at hq2
 exact bk ⟨i2+1,hq2⟩
 rw[HP h4] at hq2
 unfold Ea at hq2
 refine z ?_
 refine zd ?_ ?_<;>intro h10
 rw[HP h10] at hq2
 rw[VY] at hq2
 refine z ?_
 obtain⟨hg11,hq2⟩:=ah hq2
 rw[VY] at hq2
 obtain⟨j12,x12,en12,ex12,hq2⟩:=az hq2
 refine bP (cP _) en12 ex12 rfl ?_
 dsimp only[Option.bind_some] at hq2
 refine z ?_
 refine zm ?_ ?_<;>intro h13
 rw[TP (nt h13)] at hq2
 cases hq2
 exact fc
 rw[HP h13] at hq2
 exact bk ⟨i2+1,hq2⟩
 rw[TP h10] at hq2
 dsimp only[Option.bind_some] at hq2
 rw[HP rfl] at hq2
 exact bk ⟨i2+1,hq2⟩
 rw[aA h3,te] at hq2
 cases hq2
 exact fc
def rB (v:List Int):List (cW Va)->Int->Int->Option Int
 |[],_,n=>some n
 |k::r,i,n=>(cJ v i).bind fun s=>if s>=0 then(cJ v i).bind fun s=>(cJ k.set s).bind fun x=>if x.acc then(dD (n+1)).bind fun _=>rB v r (i+1) (n+1) else rB v r (i+1) n else rB v r (i+1) n
def vL (v:List Int) (m:Int):List (dy Va)->Int->Int->Option Int
 |[],_,n=>some n
 |f::r,i,n=>(cJ v (m+i)).bind fun s=>(aR f.label).bind fun _=>if s=(f.label.length:Int) then(dD (n+1)).bind fun _=>vL v m r (i+1) (n+1) else vL v m r (i+1) n
def DT (c:aF Va) (v:List Int):Option Int:=(aR c.aw).bind fun _=>(rB v c.aw 0 0).bind fun n=>(aR c.fields).bind fun _=>vL v c.aw.length c.fields 0 n
theorem RQ {c:aF Va} {v:List Int} {r:Int} (hm:DT c v=some r):Has Tryz.prog 231 [.agg (aG aN c),.aK false (v.map bQ)] fun s=>s= .int .i64 r:=by
 refine hs ae Tryz.f231 ?_
 unfold DT at hm
 refine z ?_
 obtain⟨hg1,hm⟩:=ah hm
 obtain⟨v2,hv2,hm⟩:=aa hm
 refine lg (α:=Nat×Int) ae (fun(iw,s1)=>(rB v (List.drop iw c.aw) (iw:Int) s1=some v2,⟨62,[(13,.int .i64 iw),(12,.int .i64 ↑c.aw.length),(11,.aK false (List.map (dI aN) c.aw)),(5,.int .i64 s1),(4,.int .i64 0),(2,.ptr 0 0),(1,.aK false (List.map bQ v))]⟩,⟨[(0,.cells (aG aN c))],1,0,[],[]⟩,List.length c.aw-iw)) ⟨(0,_),hv2⟩ ?_
 rintro⟨i2,s1_2⟩ hq2
 dsimp only at hq2
 refine z ?_
 refine zd ?_ ?_<;>intro h3
 obtain⟨x3,ex3,ed3⟩:=av h3
 rw[ed3,rB] at hq2
 refine z ?_
 refine bF (cB _) ex3 rfl (z ?_)
 refine dg ae [0,0,3,7,15,31,63,127,255,63,63,1599,3647,8191,16383,32767,65535] [] (z ?_)
 obtain⟨j4,x4,en4,ex4,hq2⟩:=az hq2
 refine bD en4 ex4 rfl (z ?_)
 refine zd ?_ ?_<;>intro h5
 rw[HP h5] at hq2
 obtain⟨j6,x6,en6,ex6,hq2⟩:=az hq2
 refine bD en6 ex6 rfl (z ?_)
 obtain⟨j7,x7,en7,ex7,hq2⟩:=az hq2
 refine bD en7 ex7 rfl (z ?_)
 refine zr ?_ ?_<;>intro h8
 rw[HP h8] at hq2
 obtain⟨hg9,hq2⟩:=ah hq2
 refine z ?_
 exact bk ⟨(i2+1,_),hq2⟩
 rw[TP (nt h8)] at hq2
 exact bk ⟨(i2+1,_),hq2⟩
 rw[TP h5] at hq2
 exact bk ⟨(i2+1,_),hq2⟩
 rw[aA h3,rB] at hq2
 cases hq2
 refine z ?_
 obtain⟨hg10,hm⟩:=ah hm
 refine bd rfl rfl ?_
 refine lg (α:=Nat×Int) ae (fun(iw,s1)=>(vL v (↑c.aw.length) (List.drop iw c.fields) (iw:Int) s1=some r,⟨62,[(41,.int .i64 iw),(40,.int .i64 ↑c.fields.length),(39,.aK false (List.map (cZ aN) c.fields)),(5,.int .i64 s1),(4,.int .i64 0),(2,.ptr 0 0),(1,.aK false (List.map bQ v))]⟩,⟨[(0,.cells (aG aN c))],1,0,[],[]⟩,List.length c.fields-iw)) ⟨(0,_),hm⟩ ?_
 rintro⟨i11,s1_11⟩ hq11
 dsimp only at hq11
 refine z ?_
 refine zd ?_ ?_<;>intro h12
 obtain⟨x12,ex12,ed12⟩:=av h12
 rw[ed12,vL] at hq11
 refine z ?_
 refine bF (cP _) ex12 rfl (z ?_)
 refine dg ae [0,0,2,6,0,30,63,127,0,256,768,2047] [] (z ?_)
 obtain⟨j13,x13,en13,ex13,hq11⟩:=az hq11
 refine bD en13 ex13 rfl (z ?_)
 obtain⟨hg14,hq11⟩:=ah hq11
 refine zd ?_ ?_<;>intro h15
 rw[HP h15] at hq11
 obtain⟨hg16,hq11⟩:=ah hq11
 refine z ?_
 exact bk ⟨(i11+1,_),hq11⟩
 rw[TP h15] at hq11
 exact bk ⟨(i11+1,_),hq11⟩
 rw[aA h12,vL] at hq11
 cases hq11
 exact fc
def QG:List Sv.Edge->List Bool->Option (List Bool)
 |[],a=>some a
 |e::r,a=>(lO e.hi).bind fun _=>(s6 257 a e.lo true).bind fun a=>(s6 257 a (e.hi+1) true).bind fun a=>QG r a
def LR (v:List Int):List (cW Va)->Int->List Bool->Option (List Bool)
 |[],_,a=>some a
 |k::r,i,a=>(cJ v i).bind fun s=>if s<0 then LR v r (i+1) a else(cJ k.set s).bind fun x=>(aR x.aI).bind fun _=>(QG x.aI a).bind fun a=>LR v r (i+1) a
def JU (v:List Int) (m:Int):List (dy Va)->Int->List Bool->Option (List Bool)
 |[],_,a=>some a
 |f::r,i,a=>(cJ v (m+i)).bind fun n=>if n>=0 then(aR f.label).bind fun _=>if n<(f.label.length:Int) then
   (cJ f.label n).bind fun b=>(s6 257 a b.toNat true).bind fun a=>(s6 257 a (b.toNat+1) true).bind fun a=>JU v m r (i+1) a else JU v m r (i+1) a else JU v m r (i+1) a
def PX (a:List Bool):Nat->Int->List Int->Option (List Int)
 |0,_,out=>some out
 |n+1,c,out=>(Vw 257 a c).bind fun x=>if x then(lO c).bind fun _=>(push out c).bind fun out=>PX a n (c+1) out else PX a n (c+1) out
def Jk:List Bool:=true::List.replicate 256 false
def mc (c:aF Va) (v:List Int):Option (List Int):=(aR c.aw).bind fun _=>(LR v c.aw 0 Jk).bind fun a=>(aR c.fields).bind fun _=>(JU v c.aw.length c.fields 0 a).bind fun a=>PX a 256 0 []
theorem JS {c:aF Va} {v:List Int} {r:List Int} (hm:mc c v=some r):Has Tryz.prog 232 [.agg (aG aN c),.aK false (v.map bQ)] fun s=>s= .aK false (r.map IW):=by
 refine hs ae Tryz.f232 ?_
 unfold mc at hm
 refine z ?_
 obtain⟨hg1,hm⟩:=ah hm
 obtain⟨v2,hv2,hm⟩:=aa hm
 refine lg (α:=Nat×List Bool) ae (fun(iw,s1)=>(LR v (List.drop iw c.aw) (iw:Int) s1=some v2,⟨105,[(19,.int .i64 iw),(18,.int .i64 ↑c.aw.length),(17,.aK false (List.map (dI aN) c.aw)),(5,.ptr 1 0),(4,.aD),(2,.ptr 0 0),(1,.aK false (List.map bQ v))]⟩,⟨[(1,.cells (s1.map .bool)),(0,.cells (aG aN c))],2,0,[],[]⟩,List.length c.aw-iw)) ⟨(0,_),hv2⟩ ?_
 rintro⟨i2,s1_2⟩ hq2
 dsimp only at hq2
 refine z ?_
 refine zd ?_ ?_<;>intro h3
 obtain⟨x3,ex3,ed3⟩:=av h3
 rw[ed3,LR] at hq2
 refine z ?_
 refine bF (cB _) ex3 rfl (z ?_)
 obtain⟨j4,x4,en4,ex4,hq2⟩:=az hq2
 refine bD en4 ex4 rfl (z ?_)
 refine zd ?_ ?_<;>intro h5
 rw[HP h5] at hq2
 exact bk ⟨(i2+1,_),hq2⟩
 rw[TP h5] at hq2
 refine dg ae [0,1,3,0,0,24,56,127,255,511,1023,0] [] (z ?_)
 refine bD en4 ex4 rfl (z ?_)
 obtain⟨j6,x6,en6,ex6,hq2⟩:=az hq2
 refine bD en6 ex6 rfl (z ?_)
 obtain⟨hg7,hq2⟩:=ah hq2
 obtain⟨v8,hv8,hq2⟩:=aa hq2
 refine lg (α:=Nat×List Bool) ae (fun(iw,s1)=>(QG (List.drop iw x6.aI) s1=some v8,⟨105,[(40,.int .i64 iw),(39,.int .i64 ↑x6.aI.length),(38,.aK false (List.map cR x6.aI)),(19,.int .i64 ↑i2),(18,.int .i64 ↑c.aw.length),(17,.aK false (List.map (dI aN) c.aw)),(5,.ptr 1 0),(4,.aD),(2,.ptr 0 0),(1,.aK false (List.map bQ v))]⟩,⟨[(2,.cells (fI x3)),(1,.cells (s1.map .bool)),(0,.cells (aG aN c))],3,0,[],[]⟩,List.length x6.aI-iw)) ⟨(0,_),hv8⟩ ?_
 rintro⟨i8,s1_8⟩ hq8
 dsimp only at hq8
 refine z ?_
 refine zd ?_ ?_<;>intro h9
 obtain⟨x9,ex9,ed9⟩:=av h9
 rw[ed9,QG] at hq8
 refine z ?_
 obtain⟨hg10,hq8⟩:=ah hq8
 refine bx ex9 rfl (z ?_)
 refine dg ae [0,1,0,4,12,28,3,67,255,511] [⟨9,0,0,[1]⟩,⟨7,0,0,[1]⟩] (z ?_)
 obtain⟨j13,x13,en13,ej13,ex13,hq8⟩:=dp hq8
 refine cC en13 ej13 (z ?_)
 rw[dS ex13 (by(show _+_*1=_;omega))]
 refine z ?_
 obtain⟨j14,x14,en14,ej14,ex14,hq8⟩:=dp hq8
 refine cC en14 ej14 (z ?_)
 rw[dS ex14 (by(show _+_*1=_;omega))]
 refine z ?_
 exact bk ⟨(i8+1,_),hq8⟩
 rw[aA h9,QG] at hq8
 cases hq8
 refine z ?_
 exact bk ⟨(i2+1,_),hq2⟩
 rw[aA h3,LR] at hq2
 cases hq2
 refine z ?_
 obtain⟨hg15,hm⟩:=ah hm
 refine bd rfl rfl ?_
 obtain⟨v16,hv16,hm⟩:=aa hm
 refine lg (α:=Nat×List Bool) ae (fun(iw,s1)=>(JU v (↑c.aw.length) (List.drop iw c.fields) (iw:Int) s1=some v16,⟨105,[(57,.int .i64 iw),(56,.int .i64 ↑c.fields.length),(55,.aK false (List.map (cZ aN) c.fields)),(5,.ptr 1 0),(4,.aD),(2,.ptr 0 0),(1,.aK false (List.map bQ v))]⟩,⟨[(1,.cells (s1.map .bool)),(0,.cells (aG aN c))],2,0,[],[]⟩,List.length c.fields-iw)) ⟨(0,_),hv16⟩ ?_
 rintro⟨i16,s1_16⟩ hq16
 dsimp only at hq16
 refine z ?_
 refine zd ?_ ?_<;>intro h17
 obtain⟨x17,ex17,ed17⟩:=av h17
 rw[ed17,JU] at hq16
 refine z ?_
 refine bF (cP _) ex17 rfl (z ?_)
 obtain⟨j18,x18,en18,ex18,hq16⟩:=az hq16
 refine bD en18 ex18 rfl (z ?_)
 refine zd ?_ ?_<;>intro h19
 rw[HP h19] at hq16
 obtain⟨hg20,hq16⟩:=ah hq16
 refine zd ?_ ?_<;>intro h21
 rw[HP h21] at hq16
 refine dg ae [0,1,0,7,0,16,0,112,240,496,15,1039,4095,8191] [⟨13,0,0,[1]⟩,⟨11,0,0,[1]⟩] (z ?_)
 obtain⟨j25,x25,en25,ex25,hq16⟩:=az hq16
 refine⟨_,_,en25,ex25,?_⟩
 refine z ?_
 refine⟨_,_,en25,ex25,?_⟩
 refine z ?_
 refine⟨⟨by have:=We (x25);omega,by have:=We (x25);omega⟩,?_⟩
 refine z ?_
 refine⟨⟨by have:=We (x25);omega,by have:=We (x25);omega⟩,?_⟩
 refine z ?_
 obtain⟨j26,x26,en26,ej26,ex26,hq16⟩:=dp hq16
 refine cC en26 ej26 (z ?_)
 rw[dS ex26 (by(show _+_*1=_;omega))]
 refine z ?_
 obtain⟨j27,x27,en27,ej27,ex27,hq16⟩:=dp hq16
 refine cC en27 ej27 (z ?_)
 rw[dS ex27 (by(show _+_*1=_;omega))]
 refine z ?_
 exact bk ⟨(i16+1,_),hq16⟩
 rw[TP h21] at hq16
 exact bk ⟨(i16+1,_),hq16⟩
 rw[TP h19] at hq16
 exact bk ⟨(i16+1,_),hq16⟩
 rw[aA h17,JU] at hq16
 cases hq16
 refine z ?_
 refine bd rfl rfl ?_
 refine cr 13 1 rfl ?_
 refine lg (α:=Nat×List Int×Nat) ae (fun(iw,s1,ts1)=>(PX v16 (256-iw) (iw:Int) s1=some r,⟨105,[(13,.own 2 ts1),(92,.int .i64 iw),(5,.ptr 1 0),(4,.aD)]⟩,⟨[(2,.row 1 (s1.map IW) ts1 false),(1,.cells ((v16).map .bool)),(0,.cells (aG aN c))],3,0,[],[]⟩,(256)-iw)) ⟨(0,_,(0)),hm⟩ ?_
 rintro⟨i28,s1_28,ts1_28⟩ hq28
 dsimp only at hq28
 refine z ?_
 refine zd ?_ ?_<;>intro h29
 have h29':(i28:Int)<(((256):Nat):Int):=by(try simp only[V4,Wc,Wb,V7] at h29);omega
 rw[df h29',PX] at hq28
 refine z ?_
 obtain⟨j30,x30,en30,ej30,ex30,hq28⟩:=gX hq28
 refine cC en30 ej30 (z ?_)
 rw[fa ex30 (by(show _+_*1=_;omega)) rfl]
 refine z ?_
 refine zr ?_ ?_<;>intro h31
 rw[HP h31] at hq28
 obtain⟨hg32,hq28⟩:=ah hq28
 obtain⟨hg33,hq28⟩:=aC hq28
 refine z ?_
 refine aM (↑i28) rfl (z ?_)
 exact bk ⟨(i28+1,_,(ts1_28+1)),hq28⟩
 rw[TP (nt h31)] at hq28
 exact bk ⟨(i28+1,_,ts1_28),hq28⟩
 have h29':¬(i28:Int)<(((256):Nat):Int):=by(try simp only[V4,Wc,Wb,V7] at h29);omega
 rw[de h29',PX] at hq28
 refine z ?_
 cases hq28
 refine dH (z ?_)
 first|exact e2|exact rfl
def Vz:Nat->Int->List Int->Option (List Int)
 |0,_,out=>some out
 |n+1,i,out=>(kZ out i (-1)).bind fun out=>Vz n (i+1) out
def E8 (b i:Int):List Sv.Edge->List Int->Option (List Int)
 |[],out=>some out
 |e::r,out=>if e.lo<=b then if b<=e.hi then(kZ out i e.to).bind fun out=>E8 b i r out else E8 b i r out else E8 b i r out
def BR (v:List Int) (b:Int):List (cW Va)->Int->List Int->Option (List Int)
 |[],_,out=>some out
 |k::r,i,out=>(cJ v i).bind fun s=>if s<0 then BR v b r (i+1) out else(cJ k.set s).bind fun x=>(aR x.aI).bind fun _=>(E8 b i x.aI out).bind fun out=>BR v b r (i+1) out
def z6 (v:List Int) (b m:Int):List (dy Va)->Int->List Int->Option (List Int)
 |[],_,out=>some out
 |f::r,i,out=>(cJ v (m+i)).bind fun n=>if n>=0 then(aR f.label).bind fun _=>if n<(f.label.length:Int) then
   (cJ f.label n).bind fun c=>if(c.toNat:Int)=b then(dD (n+1)).bind fun _=>(kZ out (m+i) (n+1)).bind fun out=>z6 v b m r (i+1) out else z6 v b m r (i+1) out else z6 v b m r (i+1) out else z6 v b m r (i+1) out
def rT (c:aF Va) (v:List Int) (b:Int):Option (List Int):=(Tx v).bind fun _=>(Vz v.length 0 (List.replicate v.length 0)).bind fun out=>(aR c.aw).bind fun _=>(BR v b c.aw 0 out).bind fun out=>(aR c.fields).bind fun _=>z6 v b c.aw.length c.fields 0 out
theorem S4 {c:aF Va} {v:List Int} {b:Int} {r:List Int} (hm:rT c v b=some r):Has Tryz.prog 233 [.agg (aG aN c),.aK false (v.map bQ),.int .u8 b] fun s=>s= .aK false (r.map bQ):=by
 refine hs ae Tryz.f233 ?_
 unfold rT at hm
 refine z ?_
 obtain⟨hg1,hm⟩:=ah hm
 refine⟨_,_,rfl,rfl,V2 _,by omega,?_⟩
 refine z ?_
 refine jL bQ v.length (0) (by first|rfl|simp only[V4]) rfl (z ?_)
 obtain⟨v2,hv2,hm⟩:=aa hm
 refine lg (α:=Nat×List Int×Nat) ae (fun(iw,s1,ts1)=>(Vz (v.length-iw) (iw:Int) s1=some v2,⟨115,[(22,.int .i64 iw),(21,.int .i64 ↑v.length),(7,.own 1 ts1),(6,.aD),(3,.ptr 0 0),(1,.aK false (List.map bQ v)),(2,.int .u8 b)]⟩,⟨[(1,.row 1 (s1.map bQ) ts1 false),(0,.cells (aG aN c))],2,0,[],[]⟩,v.length-iw)) ⟨(0,_,(0)),hv2⟩ ?_
 rintro⟨i2,s1_2,ts1_2⟩ hq2
 dsimp only at hq2
 refine z ?_
 refine zd ?_ ?_<;>intro h3
 have h3':(i2:Int)<(((v.length):Nat):Int):=by(try simp only[V4,Wc,Wb,V7] at h3);omega
 rw[df h3',Vz] at hq2
 refine z ?_
 obtain⟨j4,x4,en4,ex4,hq2⟩:=cO hq2
 refine aP en4 ex4 (z ?_)
 refine cw _ (-1) ex4 rfl (z ?_)
 exact bk ⟨(i2+1,_,ts1_2),hq2⟩
 have h3':¬(i2:Int)<(((v.length):Nat):Int):=by(try simp only[V4,Wc,Wb,V7] at h3);omega
 rw[de h3',Vz] at hq2
 cases hq2
 refine z ?_
 obtain⟨hg5,hm⟩:=ah hm
 refine bd rfl rfl ?_
 obtain⟨v6,hv6,hm⟩:=aa hm
 refine lg (α:=Nat×List Int×Nat) ae (fun(iw,s1,ts1)=>(BR v b (List.drop iw c.aw) (iw:Int) s1=some v6,⟨115,[(32,.int .i64 iw),(31,.int .i64 ↑c.aw.length),(30,.aK false (List.map (dI aN) c.aw)),(7,.own 1 ts1),(6,.aD),(3,.ptr 0 0),(1,.aK false (List.map bQ v)),(2,.int .u8 b)]⟩,⟨[(1,.row 1 (s1.map bQ) ts1 false),(0,.cells (aG aN c))],2,0,[],[]⟩,List.length c.aw-iw)) ⟨(0,_,ts1_2),hv6⟩ ?_
 rintro⟨i6,s1_6,ts1_6⟩ hq6
 dsimp only at hq6
 refine z ?_
 refine zd ?_ ?_<;>intro h7
 obtain⟨x7,ex7,ed7⟩:=av h7
 rw[ed7,BR] at hq6
 refine z ?_
 refine bF (cB _) ex7 rfl (z ?_)
 obtain⟨j8,x8,en8,ex8,hq6⟩:=az hq6
 refine bD en8 ex8 rfl (z ?_)
 refine zd ?_ ?_<;>intro h9
 rw[HP h9] at hq6
 exact bk ⟨(i6+1,_,ts1_6),hq6⟩
 rw[TP h9] at hq6
 refine dg ae [0,1,3,0,0,24,56,127,255,511,1023,0] [] (z ?_)
 refine bD en8 ex8 rfl (z ?_)
 obtain⟨j10,x10,en10,ex10,hq6⟩:=az hq6
 refine bD en10 ex10 rfl (z ?_)
 obtain⟨hg11,hq6⟩:=ah hq6
 obtain⟨v12,hv12,hq6⟩:=aa hq6
 refine lg (α:=Nat×List Int×Nat) ae (fun(iw,s1,ts1)=>(E8 b (↑i6) (List.drop iw x10.aI) s1=some v12,⟨115,[(53,.int .i64 iw),(52,.int .i64 ↑x10.aI.length),(51,.aK false (List.map cR x10.aI)),(9,.int .i64 ↑i6),(32,.int .i64 ↑i6),(31,.int .i64 ↑c.aw.length),(30,.aK false (List.map (dI aN) c.aw)),(7,.own 1 ts1),(6,.aD),(3,.ptr 0 0),(1,.aK false (List.map bQ v)),(2,.int .u8 b)]⟩,⟨[(2,.cells (fI x7)),(1,.row 1 (s1.map bQ) ts1 false),(0,.cells (aG aN c))],3,0,[],[]⟩,List.length x10.aI-iw)) ⟨(0,_,ts1_6),hv12⟩ ?_
 rintro⟨i12,s1_12,ts1_12⟩ hq12
 dsimp only at hq12
 refine z ?_
 refine zd ?_ ?_<;>intro h13
 obtain⟨x13,ex13,ed13⟩:=av h13
 rw[ed13,E8] at hq12
 refine z ?_
 refine bx ex13 rfl (z ?_)
 refine zd ?_ ?_<;>intro h14
 rw[HP h14] at hq12
 refine zd ?_ ?_<;>intro h15
 rw[HP h15] at hq12
 obtain⟨j16,x16,en16,ex16,hq12⟩:=cO hq12
 refine aP en16 ex16 (z ?_)
 refine cw _ x13.to ex16 rfl (z ?_)
 exact bk ⟨(i12+1,_,ts1_12),hq12⟩
 rw[TP h15] at hq12
 exact bk ⟨(i12+1,_,ts1_12),hq12⟩
 rw[TP h14] at hq12
 exact bk ⟨(i12+1,_,ts1_12),hq12⟩
 rw[aA h13,E8] at hq12
 cases hq12
 refine z ?_
 exact bk ⟨(i6+1,_,ts1_12),hq6⟩
 rw[aA h7,BR] at hq6
 cases hq6
 refine z ?_
 obtain⟨hg17,hm⟩:=ah hm
 refine bd rfl rfl ?_
 refine lg (α:=Nat×List Int×Nat) ae (fun(iw,s1,ts1)=>(z6 v b (↑c.aw.length) (List.drop iw c.fields) (iw:Int) s1=some r,⟨115,[(77,.int .i64 iw),(76,.int .i64 ↑c.fields.length),(75,.aK false (List.map (cZ aN) c.fields)),(7,.own 1 ts1),(6,.aD),(3,.ptr 0 0),(1,.aK false (List.map bQ v)),(2,.int .u8 b)]⟩,⟨[(1,.row 1 (s1.map bQ) ts1 false),(0,.cells (aG aN c))],2,0,[],[]⟩,List.length c.fields-iw)) ⟨(0,_,ts1_6),hm⟩ ?_
 rintro⟨i18,s1_18,ts1_18⟩ hq18
 dsimp only at hq18
 refine z ?_
 refine zd ?_ ?_<;>intro h19
 obtain⟨x19,ou,ed19⟩:=av h19
 rw[ed19,z6] at hq18
 refine z ?_
 refine bF (cP _) ou rfl (z ?_)
 obtain⟨j20,x20,en20,ex20,hq18⟩:=az hq18
 refine bD en20 ex20 rfl (z ?_)
 refine zd ?_ ?_<;>intro h21
 rw[HP h21] at hq18
 obtain⟨hg22,hq18⟩:=ah hq18
 refine zd ?_ ?_<;>intro h23
 rw[HP h23] at hq18
 obtain⟨j24,x24,en24,ex24,hq18⟩:=az hq18
 refine⟨_,_,en24,ex24,?_⟩
 refine z ?_
 refine zd ?_ ?_<;>intro h25
 rw[HP h25] at hq18
 obtain⟨hg26,hq18⟩:=ah hq18
 obtain⟨j27,x27,en27,ex27,hq18⟩:=cO hq18
 refine aP en27 ex27 (z ?_)
 refine cw _ (x20+1) ex27 rfl (z ?_)
 exact bk ⟨(i18+1,_,ts1_18),hq18⟩
 rw[TP h25] at hq18
 exact bk ⟨(i18+1,_,ts1_18),hq18⟩
 rw[TP h23] at hq18
 exact bk ⟨(i18+1,_,ts1_18),hq18⟩
 rw[TP h21] at hq18
 exact bk ⟨(i18+1,_,ts1_18),hq18⟩
 rw[aA h19,z6] at hq18
 cases hq18
 refine dH (z ?_)
 first|exact e2|exact rfl
def yd (c:aF Va) (v:List Int):List Int->List (List Int)->List (List UInt8×Unit)->Option (List (List Int)×List (List UInt8×Unit))
 |[],todo,seen=>some (todo,seen)
 |b::r,todo,seen=>(rT c v b).bind fun w=>(rv w).bind fun k=>match cx k seen with
  |some _=>yd c v r todo seen
  |none=>(push todo w).bind fun todo=>yd c v r todo (seen++[(k,())])
def Bu (c:aF Va):Nat->List (List Int)->List (List UInt8×Unit)->Option Bool
 |0,_,_=>none
 |n+1,todo,seen=>(aR todo).bind fun _=>if(todo.length:Int)>0 then(cJ todo (todo.length-1)).bind fun v=>(DT c v).bind fun h=>if h=1 then
   (mc c v).bind fun bs=>(aR bs).bind fun _=>(yd c v bs (todo.take (todo.length-1)) seen).bind fun p=>Bu c n p.1 p.2
  else some false else some true
def I6 (c:aF Va):Nat:=1000000000
def La (c:aF Va):Option Bool:=(aR c.aw).bind fun _=>(aR c.fields).bind fun _=>(zf (c.aw.length+c.fields.length<1000000000)).bind fun _=>
 (rv (List.replicate (c.aw.length+c.fields.length) 0)).bind fun k=>Bu c (I6 c) [List.replicate (c.aw.length+c.fields.length) 0] [(k,())]
def Bv (c:aF Va):List (cW Va)->Option Bool
 |[]=>La c
 |k::r=>(aR k.set).bind fun _=>if(k.set.length:Int)=0 then some false else(iA k.set).bind fun ok=>if ok then Bv c r else some false
def GS (c:aF Va):Option Bool:=(aR c.aw).bind fun _=>Bv c c.aw
theorem SE {c:aF Va} {r:Bool} (hm:GS c=some r):bp Tryz.prog 204 [.agg (aG aN c)] fun s=>s= .bool r:=by
 refine ht ae Tryz.f204 ?_
 unfold GS at hm
 refine z ?_
 obtain⟨hg1,hm⟩:=ah hm
 refine lg (α:=Nat) ae (fun iw=>(Bv c (List.drop iw c.aw)=some r,⟨89,[(15,.int .i64 iw),(14,.int .i64 ↑c.aw.length),(13,.aK false (List.map (dI aN) c.aw)),(2,.bool false),(1,.ptr 1 0)]⟩,⟨[(1,.cells (aG aN c)),(0,ba)],2,0,[],[]⟩,List.length c.aw-iw)) ⟨(0),hm⟩ ?_
 intro i2 hq2
 dsimp only at hq2
 refine z ?_
 refine zd ?_ ?_<;>intro h3
 obtain⟨x3,ex3,ed3⟩:=av h3
 rw[ed3,Bv] at hq2
 refine z ?_
 obtain⟨hg4,hq2⟩:=ah hq2
 refine bF (cB _) ex3 rfl (z ?_)
 refine zd ?_ ?_<;>intro h5
 rw[HP h5] at hq2
 cases hq2
 exact mst
 rw[TP h5] at hq2
 obtain⟨v6,e6,hq2⟩:=aa hq2
 refine ct (qW e6) (z ?_)
 refine zm ?_ ?_<;>intro h7
 rw[TP (nt h7)] at hq2
 cases hq2
 exact mst
 rw[HP h7] at hq2
 exact bk ⟨i2+1,hq2⟩
 rw[aA h3,Bv] at hq2
 unfold La at hq2
 refine z ?_
 obtain⟨hg8,hq2⟩:=ah hq2
 obtain⟨hg9,hq2⟩:=ah hq2
 obtain⟨hg10,hq2⟩:=ah hq2
 refine z ?_
 refine⟨_,_,rfl,rfl,V2 _,by omega,?_⟩
 refine z ?_
 refine jL bQ (c.aw.length+c.fields.length) (0) (by first|rfl|simp only[V4]) rfl (z ?_)
 refine cC (j:=0) rfl (by simp) (z ?_)
 refine⟨_,rfl,?_⟩
 refine z ?_
 obtain⟨v12,e12,hq2⟩:=aa hq2
 refine ct (NX e12) (z ?_)
 first|refine⟨(fun p hp=>by cases hp),.nil,?_⟩|refine⟨by first|trivial|rfl,(fun p hp=>by cases hp),.nil,?_⟩
 refine z ?_
 refine lg (α:=Nat×List (List Int)×List (List UInt8×Unit)×Nat) ae (fun(nw,s1,s2,ts1)=>(Bu c nw s1 s2=some r,⟨89,[(6,.map 4),(5,.own 3 ts1),(2,.bool false),(1,.ptr 1 0)]⟩,⟨[(4,.map (jt .str (fun _=> .bool true) s2)),(3,.row 1 (s1.map gk) ts1 false),(2,.row 1 (List.map bQ (List.replicate (c.aw.length+c.fields.length) 0)) 0 true),(1,.cells (aG aN c)),(0,ba)],5,0,[],[]⟩,nw)) ⟨(_,_,_,(0)),hq2⟩ ?_
 rintro⟨n13,s1_13,s2_13,ts1_13⟩ hq13
 dsimp only at hq13
 rcases n13 with _|n13
 (unfold Bu at hq13;cases hq13)
 unfold Bu at hq13
 refine z ?_
 obtain⟨hg14,hq13⟩:=ah hq13
 refine zd ?_ ?_<;>intro h15
 rw[HP h15] at hq13
 obtain⟨j16,x16,en16,ex16,hq13⟩:=az hq13
 refine aP en16 ex16 (z ?_)
 refine bT ex16 (z ?_)
 refine⟨s1_13.length-1,by omega,by simp only[V4];omega,?_⟩
 refine z ?_
 refine SV (z ?_)
 obtain⟨v17,e17,hq13⟩:=aa hq13
 refine ce (RQ e17) (z ?_)
 refine zn ?_ ?_<;>intro h18
 rw[TP h18] at hq13
 cases hq13
 exact mst
 rw[HP h18] at hq13
 obtain⟨v19,e19,hq13⟩:=aa hq13
 refine ce (JS e19) (z ?_)
 obtain⟨hg20,hq13⟩:=ah hq13
 obtain⟨v21,hv21,hq13⟩:=aa hq13
 refine lg (α:=Nat×List (List Int)×List (List UInt8×Unit)×Nat) ae (fun(iw,s1,s2,ts1)=>(yd c x16 (List.drop iw v19) s1 s2=some v21,⟨89,[(68,.int .i64 iw),(67,.int .i64 ↑v19.length),(66,.aK false (List.map IW v19)),(5,.own 3 ts1),(7,.aK false (List.map bQ x16)),(6,.map 4),(2,.bool false),(1,.ptr 1 0)]⟩,⟨[(4,.map (jt .str (fun _=> .bool true) s2)),(3,.row 1 (s1.map gk) ts1 false),(2,.row 1 (List.map bQ (List.replicate (c.aw.length+c.fields.length) 0)) 0 true),(1,.cells (aG aN c)),(0,ba)],5,0,[],[]⟩,List.length v19-iw)) ⟨(0,_,_,(ts1_13+1)),hv21⟩ ?_
 rintro⟨i21,s1_21,s2_21,ts1_21⟩ hq21
 dsimp only at hq21
 refine z ?_
 refine zd ?_ ?_<;>intro h22
 obtain⟨x22,ex22,ed22⟩:=av h22
 rw[ed22,yd] at hq21
 refine z ?_
 refine bx ex22 rfl (z ?_)
 obtain⟨v23,e23,hq21⟩:=aa hq21
 refine ce (S4 e23) (z ?_)
 obtain⟨v24,e24,hq21⟩:=aa hq21
 refine ct (NX e24) (z ?_)
 refine n4 (kf:=SVal.str) (g:=fun x=>SVal.bool true) (fun ef25=> ?_) (fun v25 q25 ef25=> ?_)
 rw[ef25] at hq21
 dsimp only at hq21
 refine z ?_
 refine(FP (kf:=SVal.str) (g:=fun x=>SVal.bool true) (v:=()) (by assumption) ?_).2.2
 refine z ?_
 obtain⟨hg26,hq21⟩:=aC hq21
 refine z ?_
 refine aM v23 rfl (z ?_)
 exact bk ⟨(i21+1,_,_,(ts1_21+1)),hq21⟩
 rw[ef25] at hq21
 dsimp only at hq21
 refine z ?_
 exact bk ⟨(i21+1,_,_,ts1_21),hq21⟩
 rw[aA h22,yd] at hq21
 cases hq21
 dsimp only at hq13
 refine z ?_
 exact bk ⟨(n13,_,_,ts1_21),hq13⟩
 rw[TP h15] at hq13
 cases hq13
 exact mst
end Go.Proofs.YtcejopopgcglpaaGreatDoor
