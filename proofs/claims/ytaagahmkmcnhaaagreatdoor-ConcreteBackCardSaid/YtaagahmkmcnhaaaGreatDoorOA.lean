/- For ConcreteOnly and ConcreteBack: arguments as trees. -/
import Derived.Test.YtaagahmkmcnhaaaGreatDoorRows
import Derived.ChangeArms
import Derived.DataReads
import Derived.Test.YtaagahmkmcnhaaaGreatDoorNe
import Derived.Below
import Derived.Lib.LaidTab
import Derived.MakeChecks
set_option linter.unusedVariables false
set_option linter.unusedSimpArgs false
set_option linter.unusedSectionVars false
namespace Go.Proofs.YtaagahmkmcnhaaaGreatDoor
open Sv
def yi (w:World) (b i:Nat):Option Value:=match w.heap[b]? with
 |some (.cells arr _ _)=>arr[i]?
 |_=>none
theorem R7 (w:World) (b i:Nat) (v:Value) (h:yi w b i=some v):∃arr e f,w.heap[b]? =some (.cells arr e f)/\arr[i]? =some v:=by
 unfold yi at h
 split at h
 ·rename_i arr e f hb
  exact⟨arr,e,f,hb,h⟩
 ·cases h
theorem Cy {w:World} {a:Addr} {v:Value} (h:w.cell? a=some v):a=⟨a.block,a.off,none⟩/\yi w a.block a.off=some v:=by
 obtain⟨b,o,s⟩:=a
 unfold World.cell? at h
 unfold yi
 cases hb:w.heap[b]? with
 |none=>rw[hb] at h;cases h
 |some x=>
  rw[hb] at h
  cases x with
  |cells c _ _=>
   cases s with
   |none=>exact⟨rfl,by simpa using h⟩
   |some s=>simp at h
  |_=>cases h
theorem add_eq (b o:Nat) (k:Nat):(⟨b,o,none⟩:Addr).add k=⟨b,o+k,none⟩:=by
 unfold Addr.add
 split
 ·rename_i h0;subst h0;rfl
 ·rfl
def DL (c:Ctx) (l:List SVal) (cs:List Value):Prop:=aJ c l cs/\∀v∈cs,v.oneCell'=true
theorem DL.one {c:Ctx} {s:SVal} {v:Value} (h:Den c s v) (h1:v.oneCell'=true):DL c [s] [v]:=⟨⟨v,[],h,rfl,rfl⟩,fun x hx=>by rw[To.1 hx];exact h1⟩
theorem aJ.app {c:Ctx}:∀{a b:List SVal} {x y:List Value},aJ c a x->aJ c b y->aJ c (a++b) (x++y)
 |[],_,_,_,h,k=>by cases h;exact k
 |s::a,b,_,y,⟨v,l,h1,h2,h3⟩,k=>by subst h3;exact⟨v,l++y,h1,aJ.app h2 k,rfl⟩
theorem DL.app {c:Ctx} {a b:List SVal} {x y:List Value} (h:DL c a x) (k:DL c b y):DL c (a++b) (x++y):=⟨aJ.app h.1 k.1,fun v hv=>by
 rcases Tz.1 hv with hv|hv
 ·exact h.2 v hv
 ·exact k.2 v hv⟩
theorem Kx {c:Ctx} {b:Nat}:∀{l:List SVal} {cs:List Value} {i:Nat},DL c l cs->(∀j v,cs[j]? =some v->c.fz b (i+j)=some v)->bW c b l i
 |[],_,_,_,_=>trivial
 |s::r,_,i,⟨⟨v,l,h1,h2,h3⟩,h4⟩,hf=>by
  subst h3
  exact⟨⟨v,hf 0 v rfl,h4 v (Tn ..),h1⟩,Kx ⟨h2,fun x hx=>h4 x (Tm _ hx)⟩ fun j x hj=>by
   have:=hf (j+1) x hj
   rwa [show i+(j+1)=i+1+j by omega] at this⟩
theorem F6 {c:Ctx} {b size:Nat}:∀{rows:List (List SVal)} {i:Nat},(∀(k:Nat) (row:List SVal),rows[k]? =some row->row.length=size/\bW c b row (i+k*size))->bL c b size rows i
 |[],_,_=>trivial
 |row::r,i,h=>by
  have h0:=h 0 row rfl
  rw[Nat.zero_mul,Ur] at h0
  refine⟨h0.1,h0.2,F6 fun k row' hk=> ?_⟩
  have:=h (k+1) row' hk
  rwa [Um,U5,<-UG,VE] at this
theorem xL:maxLen=9223372036854775807:=by decide
section
variable {H:Type} (enc:TypeId×Value->H) (w:World) (base:Nat) (spare:Nat->Bool) (held:Bool) (c:Ctx)
def Op {α:Type} (f:α->List SVal) (Q:α->Prop) (t:TypeId) (fuel:Nat):Prop:=∀cs x,DataW.trod enc Tryz.prog w base spare held fuel t cs=some x->∃a,DL c (f a) cs/\Q a
theorem BT (hc:c.fz=yi w) {α:Type} {f:α->List SVal} {Q:α->Prop} {t e:TypeId} {sz:Nat} (ht:Tryz.prog.underlying t=some (.slice e)) (hsz:Tryz.prog.cellsOf e=sz) (hpos:0<sz) {fuel:Nat} (hel:∀n,n<fuel->Op enc w base spare held c f Q e n):
  Op enc w base spare held c (fun l:List α=>[.aE false (l.map f)]) (fun l=>l.length<=9223372036854775807/\∀a∈l,Q a) t fuel:=by
 intro cs x h
 rcases DataW.trod_slice ht h with⟨rfl,rfl⟩|⟨a,len,cap,elems,rest,n,rfl,rfl,rfl,h1,hle,hmax,hlen,hat,_,_⟩
 ·exact⟨[],DL.one (.inl ⟨rfl,none,0,rfl,fun h=>by cases h⟩) rfl,by simp,fun a ha=>by cases ha⟩
 ·rw[hsz] at hat
  rw[xL] at hmax
  have key:∀k,k<=len->∃l:List α,l.length=k/\∀i q,l[i]? =some q->Q q/\∃cs',w.cells? base (a.add (i*sz)) sz=some cs'/\DL c (f q) cs':=by
   intro k
   induction k with
   |zero=>exact fun _=>⟨[],rfl,fun i q hq=>by simp at hq⟩
   |succ k ih=>
    intro hk
    obtain⟨l,l1,l2⟩:=ih ii
    have hy:=hat k ii
    rw[Tj ii] at hy
    obtain⟨cs',g1,g2⟩:=Option.bind_eq_some_iff.1 hy
    obtain⟨q,q1,q2⟩:=hel n ii cs' _ g2
    refine⟨l++[q],by simp[l1],fun i z hz=> ?_⟩
    by_cases hi:i<l.length
    ·rw[TE hi] at hz
     exact l2 i z hz
    ·rw[TG ii] at hz
     have hi0:i-l.length=0:=by
      have:=(Tk.1 hz).1
      simp at this
      omega
     rw[hi0] at hz
     simp at hz
     subst hz
     have:i=k:=by omega
     subst this
     exact⟨q2,cs',g1,q1⟩
  obtain⟨l,l1,l2⟩:=key len (Tp _)
  refine⟨l,DL.one ?_ rfl,by omega,fun q hq=> ?_⟩
  ·by_cases h0:len=0
   ·subst h0
    have:l=[]:=List.eq_nil_of_length_eq_zero l1
    subst this
    exact .inl ⟨rfl,some a,cap,rfl,fun h=>by cases h⟩
   ·have cellAt:∀i q,l[i]? =some q->∃cs',DL c (f q) cs'/\cs'.length=sz/\∀j v,cs'[j]? =some v->w.cell? ((a.add (i*sz)).add j)=some v:=fun i q hq=>by
     obtain⟨_,cs',g1,g2⟩:=l2 i q hq
     unfold World.cells? at g1
     split at g1
     ·have hl:=mapM_some_length g1
      rw[VO] at hl
      refine⟨cs',g2,hl,fun j v hj=> ?_⟩
      have hjs:j<sz:=by have:=(Tk.1 hj).1;omega
      rw[mapM_some_get g1 j j (by simp[hjs]),hj]
     ·cases g1
    obtain⟨q0,hq0⟩:∃q,l[0]? =some q:=⟨_,Tj ii⟩
    obtain⟨cs0,_,k2,k3⟩:=cellAt 0 q0 hq0
    obtain⟨v0,hv0⟩:∃v,cs0[0]? =some v:=⟨_,Tj ii⟩
    have ha0:=(Cy (k3 0 v0 hv0)).1
    have ha:a=⟨a.block,a.off,none⟩:=by
     rw[Nat.zero_mul] at ha0
     exact ha0
    refine .inr ⟨a.block,a.off,sz,cap,by rw[Tr,l1,<-ha],by rw[Tr];omega,fun h=>(by cases h),F6 fun k row hk=> ?_⟩
    rw[TO] at hk
    obtain⟨q,hq,rfl⟩:=U7.1 hk
    obtain⟨cs',g1,g2,g3⟩:=cellAt k q hq
    refine⟨?_,Kx g1 fun j v hj=> ?_⟩
    ·rw[<-g2]
     exact(aJ.length g1.1).symm
    ·have:=(Cy (g3 j v hj)).2
     rw[ha,add_eq,add_eq] at this
     rw[hc]
     exact this
  ·obtain⟨i,hi⟩:=TJ.1 hq
   exact(l2 i q hi).1
end
set_option maxRecDepth 100000
theorem C5:Tryz.prog.cellsOf 2=1:=by kernel_rfl
theorem I7:Tryz.prog.cellsOf 3=1:=by kernel_rfl
theorem yH:Tryz.prog.cellsOf 9=1:=by kernel_rfl
theorem pe:Tryz.prog.cellsOf 25=5:=by kernel_rfl
theorem C6:Tryz.prog.cellsOf 22=1:=by kernel_rfl
theorem qu:Tryz.prog.cellsOf 60=6:=by kernel_rfl
theorem w8:Tryz.prog.cellsOf 23=1:=by kernel_rfl
theorem OX {x:Int} (h:(Lit.int .i64 x).wf=true): -9223372036854775808<=x/\x<9223372036854775808:=by
 unfold Lit.wf at h
 rw[Tw,Ul,Ul] at h
 have h: -9223372036854775808<=x/\x<=9223372036854775807:=h
 omega
section
variable {H:Type} {enc:TypeId×Value->H} {w:World} {base:Nat} {spare:Nat->Bool} {held:Bool} {c:Ctx}
theorem KW (fuel:Nat):Op enc w base spare held c (fun x:Int=>[.int .i64 x]) (fun x=> -9223372036854775808<=x/\x<9223372036854775808) 2 fuel:=by
 intro cs x h
 obtain⟨n,rfl,rfl,hw⟩:=DataW.trod_int Tryz.underlying2 h
 exact⟨n,DL.one rfl rfl,OX hw⟩
theorem RD (fuel:Nat):Op enc w base spare held c (fun x:Int=>[.int .i64 x]) (fun x=>True) 3 fuel:=by
 intro cs x h
 obtain⟨n,rfl,rfl,hw⟩:=DataW.trod_int Tryz.underlying3 h
 exact⟨n,DL.one rfl rfl,trivial⟩
theorem KV (fuel:Nat):Op enc w base spare held c (fun x:List UInt8=>[.str x]) (fun x=>x.length<=9223372036854775807) 9 fuel:=by
 intro cs x h
 obtain⟨s,rfl,rfl,hs⟩:=DataW.trod_string Tryz.underlying9 h
 rw[xL] at hs
 refine⟨s.data.toList,DL.one rfl rfl,?_⟩
 show s.data.toList.length<=_
 rw[Vz]
 exact hs
theorem RB {α β γ:Type} {f:α->List SVal} {Q:α->Prop} {g:β->List SVal} {R:β->Prop} (m:α->β->γ) {F:γ->List SVal} {S:γ->Prop} {t:TypeId} {f0 f1:Field} {n0 n1:Nat} (ht:Tryz.prog.underlying t=some (.struct #[f0,f1])) (h0:Tryz.prog.cellsOf f0.type=n0) (h1:Tryz.prog.cellsOf f1.type=n1) (hn:Tryz.prog.cellsOf t=n0+n1) (o0:f0.offset=0) (o1:f1.offset=n0)
  (hF:∀a b,F (m a b)=f a++g b) (hS:∀a b,Q a->R b->S (m a b)) {fuel:Nat} (k0:∀n,n<fuel->Op enc w base spare held c f Q f0.type n) (k1:∀n,n<fuel->Op enc w base spare held c g R f1.type n):Op enc w base spare held c F S t fuel:=by
 intro cs x h
 obtain⟨xs,n,rfl,rfl,hl,hlen,hf⟩:=DataW.trod_struct ht h
 have g0:=hf 0 f0 rfl
 have g1:=hf 1 f1 rfl
 rw[h0,o0,Uu] at g0
 rw[h1,o1] at g1
 rw[hn] at hl
 obtain⟨y0,hy0⟩:∃y,xs[0]? =some y:=⟨_,Tj (by rw[hlen];show 0<2;omega)⟩
 obtain⟨y1,hy1⟩:∃y,xs[1]? =some y:=⟨_,Tj (by rw[hlen];show 1<2;omega)⟩
 rw[hy0] at g0
 rw[hy1] at g1
 obtain⟨a,a1,a2⟩:=k0 n ii _ _ g0
 obtain⟨b,b1,b2⟩:=k1 n ii _ _ g1
 refine⟨m a b,?_,hS a b a2 b2⟩
 rw[hF]
 have e:cs=cs.take n0++(cs.drop n0).take n1:=by
  rw[UD (l:=cs.drop n0) (by rw[Vp];omega),List.take_append_drop]
 rw[e]
 exact a1.app b1
theorem Op.mono {α:Type} {f:α->List SVal} {Q R:α->Prop} {t:TypeId} {fuel:Nat} (h:Op enc w base spare held c f Q t fuel) (k:∀a,Q a->R a):Op enc w base spare held c f R t fuel:=fun cs x hx=>let⟨a,h1,h2⟩:=h cs x hx;⟨a,h1,k a h2⟩
def Tg (x:aO):Prop:=∀d,JB 9223372036854775807 d x
def QM (m:Mem aO):Prop:=m.label.length<=9223372036854775807/\Tg m.data
def OD1 (enc:TypeId×Value->H) (w:World) (base:Nat) (spare:Nat->Bool) (held:Bool) (c:Ctx) (n:Nat):Prop:=Op enc w base spare held c de Tg 25 n
theorem RC {fuel:Nat} (ih:∀n,n<fuel->OD1 enc w base spare held c n):Op enc w base spare held c (jF de) QM 60 fuel:=
 RB (m:=fun a b=>(⟨a,b⟩:Mem aO)) Tryz.underlying60 yH pe qu rfl rfl (fun _ _=>rfl) (fun a b h k=>⟨h,k⟩) (fun n _=>KV n) (fun n hn=>ih n hn)
theorem El (hc:c.fz=yi w) (fuel:Nat):OD1 enc w base spare held c fuel:=by
 induction fuel using Nat.strongRecOn with
 |_ fuel ih=>
  intro cs x h
  obtain⟨xs,n,rfl,rfl,hl,hlen,hf⟩:=DataW.trod_struct Tryz.underlying25 h
  rw[pe] at hl
  match cs,hl with
  |[c0,c1,c2,c3,c4],_=>
   match xs,hlen with
   |[y0,y1,y2,y3,y4],_=>
    have g0:DataW.trod enc Tryz.prog w base spare held n 3 (([c0,c1,c2,c3,c4].drop 0).take (Tryz.prog.cellsOf 3))=some y0:=hf 0 _ rfl
    have g1:DataW.trod enc Tryz.prog w base spare held n 2 (([c0,c1,c2,c3,c4].drop 1).take (Tryz.prog.cellsOf 2))=some y1:=hf 1 _ rfl
    have g2:DataW.trod enc Tryz.prog w base spare held n 9 (([c0,c1,c2,c3,c4].drop 2).take (Tryz.prog.cellsOf 9))=some y2:=hf 2 _ rfl
    have g3:DataW.trod enc Tryz.prog w base spare held n 22 (([c0,c1,c2,c3,c4].drop 3).take (Tryz.prog.cellsOf 22))=some y3:=hf 3 _ rfl
    have g4:DataW.trod enc Tryz.prog w base spare held n 23 (([c0,c1,c2,c3,c4].drop 4).take (Tryz.prog.cellsOf 23))=some y4:=hf 4 _ rfl
    rw[I7] at g0
    rw[C5] at g1
    rw[yH] at g2
    rw[C6] at g3
    rw[w8] at g4
    obtain⟨a0,p0,_⟩:=RD n _ _ g0
    obtain⟨a1,p1,_⟩:=KW n _ _ g1
    obtain⟨a2,p2,q2⟩:=KV n _ _ g2
    obtain⟨a3,p3,q3,r3⟩:=BT enc w base spare held c hc (Q:=Tg) Tryz.underlying22 pe ii (fun m hm=>ih m ii) _ _ g3
    obtain⟨a4,p4,q4,r4⟩:=BT enc w base spare held c hc (Q:=QM) Tryz.underlying23 qu ii (fun m hm=>RC fun i hi=>ih i ii) _ _ g4
    refine⟨.mk ⟨a0,a1,a2,a3,a4⟩,?_,fun d=> ?_⟩
    ·rw[cK]
     exact p0.app (p1.app (p2.app (p3.app p4)))
    ·cases d with
     |zero=>trivial
     |succ d=>exact⟨q2,q3,q4,fun x hx=>r3 x hx d,fun m hm=>⟨(r4 m hm).1,(r4 m hm).2 d⟩⟩
end
end Go.Proofs.YtaagahmkmcnhaaaGreatDoor
namespace Go.Proofs.YtaagahmkmcnhaaaGreatDoor
open Go.RowKit
noncomputable def za (e:TypeId) (f:Nat×Nat):Sv.Loc:= .row (some Sv.lV.g) 0 0 (.tuple #[.int .i64 (e:Nat),.int .i64 (f.1:Nat),.int .i64 (f.2:Nat)])
noncomputable def tabC (W:World) (e:TypeId) (f:Nat×Nat):Sv.Ctx:=⟨fun k=>if k=0 then some (za e f) else none,yi W⟩
noncomputable def FK:Sv.St:=⟨[(0,Sv.aX)],1,0,[],[]⟩
def Hm (W:World):Prop:=∃arr e f,W.heap[Sv.lV.g]? =some (.cells arr e f)/\arr.toList=Sv.Ge.map (Value.int .u64)
theorem GV {c:Sv.Ctx}:∀l:List Int,Sv.aJ c (l.map (Sv.SVal.int .u64)) (l.map (Value.int .u64))
 |[]=>rfl
 |x::l=>⟨_,_,rfl,GV l,rfl⟩
theorem F5 {F:FuncId} {args:List Sv.SVal} (h:Sv.bj Tryz.prog F args fun s=>s= .bool true) {W:World} (ht:Hm W) {vs:List Value} (hd:∀c:Sv.Ctx,c.fz=yi W->Sv.aJ c args vs):Calls Tryz.prog F vs.toArray W fun e W'=>e= .returned (.bool true)/\Below W.heap.size W W':=by
 obtain⟨arr,e,f,h1,h2⟩:=ht
 obtain⟨hcl,s,o,hm,hs,rfl,rfl⟩:=h
 have hl:FK.look 0=some Sv.aX:=rfl
 have hlook:∀k o,FK.look k=some o->k=0/\o=Sv.aX:=fun k o hk=>by
  have hk:Sv.bx [(0,Sv.aX)] k=some o:=(Sv.cR hk).1
  rw[Sv.bZ] at hk
  split at hk
  ·rename_i e
   exact⟨e.symm,by cases hk;rfl⟩
  ·cases hk
 have hr:Sv.dD (tabC W e f) FK.look W:=by
  refine⟨fun k o hk=> ?_,fun k j o o' l l' r hk hj hkj=> ?_,R7 W⟩
  ·obtain⟨rfl,rfl⟩:=hlook k o hk
   exact⟨za e f,rfl,⟨rfl,rfl,arr,e,f,rfl,h1,by rw[h2];exact GV _⟩⟩
  ·obtain⟨rfl,_⟩:=hlook k o hk
   obtain⟨rfl,_⟩:=hlook j o' hj
   exact absurd rfl hkj
 have hw:Sv.Wf FK:=by
  refine⟨fun k hk=> ?_,fun k hk=>(by cases hk),TC _⟩
  have hk:1<=k:=hk
  show Sv.bx [(0,Sv.aX)] k=none
  rw[Sv.bZ,Ti (by show¬0=k;omega)]
  rfl
 refine((Sv.ME hm hcl hs hl).ok hr hw (fun k h1 h2=>by omega) (hd (tabC W e f) rfl)).mono fun x W' ⟨v,he,c',gd⟩=> ?_
 have hv:v= .bool true:=gd.val
 have st':=gd.step
 refine⟨by rw[he,hv],st'.os,st'.tape,st'.output,st'.size,fun k hk=> ?_⟩
 by_cases hg:k=Sv.lV.g
 ·subst hg
  obtain⟨l,GA,ho⟩:=gd.rep.dF 0 Sv.aX hl
  obtain⟨l',hl2,hle⟩:=st'.le.ρ 0 (za e f) rfl
  rw[GA] at hl2
  cases hl2
  rcases hle with rfl|⟨b',st2,sz',u',rfl,hlt⟩
  ·obtain⟨_,_,arr',e',f',hu,hcell,hden⟩:=ho
   have h3:=qp hden
   rw[h1,hcell]
   have ha:arr'=arr:=by
    apply Array.toList_inj.1
    rw[h2,h3]
   simp only[Value.tuple.injEq,Array.mk.injEq,List.cons.injEq,Value.int.injEq,true_and,and_true] at hu
   obtain⟨e1,e2,e3⟩:=hu
   have e1:e=e':=Int.ofNat.inj e1
   have e2:f.1=f'.1:=Int.ofNat.inj e2
   have e3:f.2=f'.2:=Int.ofNat.inj e3
   rw[ha,e1,Prod.ext e2 e3]
  ·obtain⟨_,h0,_⟩:=ho
   omega
 ·refine st'.kept k hk fun⟨n,o,l,g1,g2,g3⟩=> ?_
  obtain⟨rfl,rfl⟩:=hlook n o g1
  have g2:some (za e f)=some l:=g2
  cases g2
  have g3:some Sv.lV.g=some k:=g3
  cases g3
  exact hg rfl
def mB:List (String×DataW Unit):=[("math/bits.deBruijn32tab",Rows.laid_math_bits_deBruijn32tab),("math/bits.deBruijn64tab",Rows.laid_math_bits_deBruijn64tab),("internal/strconv.uint64pow10",Rows.laid_internal_strconv_uint64pow10)]
theorem Ig:(Tryz.prog.globals[(Sv.lV.g:Nat)]?).map (·.type)=some 374:=by kernel_rfl
theorem I3:Tryz.prog.cellsOf 313=1:=by kernel_rfl
theorem I5:Tryz.prog.cellsOf 374=20:=by kernel_rfl
theorem KE {W:World} (h:laidMetH Tryz.prog mB W):Hm W:=by
 rw[MakeChecks.laidMetH_plain _ _ _ (by kernel_rfl)] at h
 obtain⟨ps,hv,_⟩:=h
 obtain⟨_,_,_,_,_,_,_,_,_,_,hv,_⟩:=hv
 obtain⟨_,_,_,_,_,_,_,_,_,_,hv,_⟩:=hv
 obtain⟨g',t',cs,fuel,p,q,hg',ht',hvar,hd,_,_⟩:=hv
 obtain rfl:=TD (tE.symm.trans hg')
 obtain rfl:=TD (Ig.symm.trans ht')
 have e:=Lib.cells_of_tab (k:= .u64) (zs:=Sv.Ge) Tryz.underlying374 Tryz.underlying313 I3 I5 hd
 unfold World.var? at hvar
 rw[tE] at hvar
 simp only[HP] at hvar
 cases hb:W.heap[Sv.lV.g]? with
 |none=>rw[hb] at hvar;cases hvar
 |some x=>
  rw[hb] at hvar
  cases x with
  |cells arr ee f=>
   have hvar:arr=cs:=TD hvar
   exact⟨arr,ee,f,hb,by rw[hvar];exact e⟩
  |_=>cases hvar
end Go.Proofs.YtaagahmkmcnhaaaGreatDoor
