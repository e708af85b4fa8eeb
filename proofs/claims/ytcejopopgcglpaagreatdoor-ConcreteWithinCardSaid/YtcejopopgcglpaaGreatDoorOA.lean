/- For ConcreteWithin: arguments as trees, the contract of the law. -/
import Derived.Test.YtcejopopgcglpaaGreatDoorRows
import Derived.ChangeArms
import Derived.DataReads
import Derived.Test.YtcejopopgcglpaaGreatDoorNd
import Derived.Below
import Derived.Lib.LaidTab
import Derived.MakeChecks
import Derived.Test.YtcejopopgcglpaaGreatDoorTie
import Derived.Test.YtcejopopgcglpaaGreatDoorCards
import Derived.ProofKit
import Derived.OpenShut
import Derived.Carry
import Derived.Lay
import Derived.SevenTiedAt
import Derived.Deep.DeepHandedRow
set_option linter.unusedVariables false
set_option linter.unusedSimpArgs false
set_option linter.unusedSectionVars false
namespace Go.Proofs.YtcejopopgcglpaaGreatDoor
open Sv
def xk (w:World) (b i:Nat):Option Value:=match w.heap[b]? with
 |some (.cells arr _ _)=>arr[i]?
 |_=>none
theorem UU (w:World) (b i:Nat) (v:Value) (h:xk w b i=some v):∃arr e f,w.heap[b]? =some (.cells arr e f)/\arr[i]? =some v:=by
 unfold xk at h
 split at h
 ·rename_i arr e f hb
  exact⟨arr,e,f,hb,h⟩
 ·cases h
theorem D7 {w:World} {a:Addr} {v:Value} (h:w.cell? a=some v):a=⟨a.block,a.off,none⟩/\xk w a.block a.off=some v:=by
 obtain⟨b,o,s⟩:=a
 unfold World.cell? at h
 unfold xk
 cases hb:w.heap[b]? with
 |none=>rw[hb] at h;cases h
 |some x=>
  rw[hb] at h
  cases x with
  |cells c _ _=>
   cases s with
   |none=>exact⟨rfl,by simpa using h⟩
   |some s=>simp at h
  |_=>cases h
theorem add_eq (b o:Nat) (k:Nat):(⟨b,o,none⟩:Addr).add k=⟨b,o+k,none⟩:=by
 unfold Addr.add
 split
 ·rename_i h0;subst h0;rfl
 ·rfl
def DL (c:Ctx) (l:List SVal) (cs:List Value):Prop:=aQ c l cs/\∀v∈cs,v.oneCell'=true
theorem DL.one {c:Ctx} {s:SVal} {v:Value} (h:Den c s v) (h1:v.oneCell'=true):DL c [s] [v]:=⟨⟨v,[],h,rfl,rfl⟩,fun x hx=>by rw[V1.1 hx];exact h1⟩
theorem aQ.app {c:Ctx}:∀{a b:List SVal} {x y:List Value},aQ c a x->aQ c b y->aQ c (a++b) (x++y)
 |[],_,_,_,h,k=>by cases h;exact k
 |s::a,b,_,y,⟨v,l,h1,h2,h3⟩,k=>by subst h3;exact⟨v,l++y,h1,aQ.app h2 k,rfl⟩
theorem DL.app {c:Ctx} {a b:List SVal} {x y:List Value} (h:DL c a x) (k:DL c b y):DL c (a++b) (x++y):=⟨aQ.app h.1 k.1,fun v hv=>by
 rcases V8.1 hv with hv|hv
 ·exact h.2 v hv
 ·exact k.2 v hv⟩
theorem M0 {c:Ctx} {b:Nat}:∀{l:List SVal} {cs:List Value} {i:Nat},DL c l cs->(∀j v,cs[j]? =some v->c.fz b (i+j)=some v)->b7 c b l i
 |[],_,_,_,_=>trivial
 |s::r,_,i,⟨⟨v,l,h1,h2,h3⟩,h4⟩,hf=>by
  subst h3
  exact⟨⟨v,hf 0 v rfl,h4 v (V0 ..),h1⟩,M0 ⟨h2,fun x hx=>h4 x (VX _ hx)⟩ fun j x hj=>by
   have:=hf (j+1) x hj
   rwa [show i+(j+1)=i+1+j by omega] at this⟩
theorem Ia {c:Ctx} {b size:Nat}:∀{rows:List (List SVal)} {i:Nat},(∀(k:Nat) (row:List SVal),rows[k]? =some row->row.length=size/\b7 c b row (i+k*size))->bO c b size rows i
 |[],_,_=>trivial
 |row::r,i,h=>by
  have h0:=h 0 row rfl
  rw[Nat.zero_mul,W9] at h0
  refine⟨h0.1,h0.2,Ia fun k row' hk=> ?_⟩
  have:=h (k+1) row' hk
  rwa [WZ,XG,<-Xt,Yr] at this
theorem yP:maxLen=9223372036854775807:=by decide
section
variable {H:Type} (enc:TypeId×Value->H) (w:World) (base:Nat) (spare:Nat->Bool) (held:Bool) (c:Ctx)
def Op {α:Type} (f:α->List SVal) (Q:α->Prop) (t:TypeId) (fuel:Nat):Prop:=∀cs x,DataW.trod enc Tryz.prog w base spare held fuel t cs=some x->∃a,DL c (f a) cs/\Q a
theorem hZ (hc:c.fz=xk w) {α:Type} {f:α->List SVal} {Q:α->Prop} {t e:TypeId} {sz:Nat} (ht:Tryz.prog.underlying t=some (.slice e)) (hsz:Tryz.prog.cellsOf e=sz) (hpos:0<sz) {fuel:Nat} (hel:∀n,n<fuel->Op enc w base spare held c f Q e n):
  Op enc w base spare held c (fun l:List α=>[.aK false (l.map f)]) (fun l=>l.length<=9223372036854775807/\∀a∈l,Q a) t fuel:=by
 intro cs x h
 rcases DataW.trod_slice ht h with⟨rfl,rfl⟩|⟨a,len,cap,elems,rest,n,rfl,rfl,rfl,h1,hle,hmax,hlen,hat,_,_⟩
 ·exact⟨[],DL.one (.inl ⟨rfl,none,0,rfl,fun h=>by cases h⟩) rfl,by simp,fun a ha=>by cases ha⟩
 ·rw[hsz] at hat
  rw[yP] at hmax
  have key:∀k,k<=len->∃l:List α,l.length=k/\∀i q,l[i]? =some q->Q q/\∃cs',w.cells? base (a.add (i*sz)) sz=some cs'/\DL c (f q) cs':=by
   intro k
   induction k with
   |zero=>exact fun _=>⟨[],rfl,fun i q hq=>by simp at hq⟩
   |succ k ih=>
    intro hk
    obtain⟨l,l1,l2⟩:=ih ii
    have hy:=hat k ii
    rw[VV ii] at hy
    obtain⟨cs',g1,g2⟩:=Option.bind_eq_some_iff.1 hy
    obtain⟨q,q1,q2⟩:=hel n ii cs' _ g2
    refine⟨l++[q],by simp[l1],fun i z hz=> ?_⟩
    by_cases hi:i<l.length
    ·rw[Wi hi] at hz
     exact l2 i z hz
    ·rw[Wh ii] at hz
     have hi0:i-l.length=0:=by
      have:=(VZ.1 hz).1
      simp at this
      omega
     rw[hi0] at hz
     simp at hz
     subst hz
     have:i=k:=by omega
     subst this
     exact⟨q2,cs',g1,q1⟩
  obtain⟨l,l1,l2⟩:=key len (V2 _)
  refine⟨l,DL.one ?_ rfl,by omega,fun q hq=> ?_⟩
  ·by_cases h0:len=0
   ·subst h0
    have:l=[]:=List.eq_nil_of_length_eq_zero l1
    subst this
    exact .inl ⟨rfl,some a,cap,rfl,fun h=>by cases h⟩
   ·have cellAt:∀i q,l[i]? =some q->∃cs',DL c (f q) cs'/\cs'.length=sz/\∀j v,cs'[j]? =some v->w.cell? ((a.add (i*sz)).add j)=some v:=fun i q hq=>by
     obtain⟨_,cs',g1,g2⟩:=l2 i q hq
     unfold World.cells? at g1
     split at g1
     ·have hl:=mapM_some_length g1
      rw[List.length_range] at hl
      refine⟨cs',g2,hl,fun j v hj=> ?_⟩
      have hjs:j<sz:=by have:=(VZ.1 hj).1;omega
      rw[mapM_some_get g1 j j (by simp[hjs]),hj]
     ·cases g1
    obtain⟨q0,hq0⟩:∃q,l[0]? =some q:=⟨_,VV ii⟩
    obtain⟨cs0,_,k2,k3⟩:=cellAt 0 q0 hq0
    obtain⟨v0,hv0⟩:∃v,cs0[0]? =some v:=⟨_,VV ii⟩
    have ha0:=(D7 (k3 0 v0 hv0)).1
    have ha:a=⟨a.block,a.off,none⟩:=by
     rw[Nat.zero_mul] at ha0
     exact ha0
    refine .inr ⟨a.block,a.off,sz,cap,by rw[V4,l1,<-ha],by rw[V4];omega,fun h=>(by cases h),Ia fun k row hk=> ?_⟩
    rw[Wt] at hk
    obtain⟨q,hq,rfl⟩:=XS.1 hk
    obtain⟨cs',g1,g2,g3⟩:=cellAt k q hq
    refine⟨?_,M0 g1 fun j v hj=> ?_⟩
    ·rw[<-g2]
     exact(aQ.length g1.1).symm
    ·have:=(D7 (g3 j v hj)).2
     rw[ha,add_eq,add_eq] at this
     rw[hc]
     exact this
  ·obtain⟨i,hi⟩:=Wj.1 hq
   exact(l2 i q hi).1
end
set_option maxRecDepth 100000
theorem sQ:Tryz.prog.cellsOf 2=1:=by kernel_rfl
theorem zL:Tryz.prog.cellsOf 3=1:=by kernel_rfl
theorem pB:Tryz.prog.cellsOf 4=1:=by kernel_rfl
theorem EM:Tryz.prog.cellsOf 5=1:=by kernel_rfl
theorem Lg:Tryz.prog.cellsOf 9=1:=by kernel_rfl
theorem sN:Tryz.prog.cellsOf 22=1:=by kernel_rfl
theorem wI:Tryz.prog.cellsOf 64=2:=by kernel_rfl
theorem wL:Tryz.prog.cellsOf 24=2:=by kernel_rfl
theorem EN:Tryz.prog.cellsOf 136=1:=by kernel_rfl
theorem wM:Tryz.prog.cellsOf 157=3:=by kernel_rfl
theorem BE:Tryz.prog.cellsOf 25=1:=by kernel_rfl
theorem sM:Tryz.prog.cellsOf 138=2:=by kernel_rfl
theorem pA:Tryz.prog.cellsOf 27=1:=by kernel_rfl
theorem wJ:Tryz.prog.cellsOf 29=6:=by kernel_rfl
theorem wH:Tryz.prog.cellsOf 53=1:=by kernel_rfl
theorem od:Tryz.prog.cellsOf 35=18:=by kernel_rfl
theorem mS:Tryz.prog.cellsOf 33=9:=by kernel_rfl
theorem sP:Tryz.prog.cellsOf 97=2:=by kernel_rfl
theorem BG:Tryz.prog.cellsOf 30=1:=by kernel_rfl
theorem sO:Tryz.prog.cellsOf 70=2:=by kernel_rfl
theorem BF:Tryz.prog.cellsOf 31=1:=by kernel_rfl
theorem sR:Tryz.prog.cellsOf 66=20:=by kernel_rfl
theorem BH:Tryz.prog.cellsOf 67=1:=by kernel_rfl
theorem sS:Tryz.prog.cellsOf 110=19:=by kernel_rfl
theorem yh:Tryz.prog.cellsOf 68=1:=by kernel_rfl
theorem RP {x:Int} (h:(Lit.int .i64 x).wf=true): -9223372036854775808<=x/\x<9223372036854775808:=by
 unfold Lit.wf at h
 rw[Wa,WY,WY] at h
 have h: -9223372036854775808<=x/\x<=9223372036854775807:=h
 omega
theorem T0 {x:Int} (h:(Lit.int .u8 x).wf=true):0<=x/\x<256:=by
 unfold Lit.wf at h
 rw[Wa,WY,WY] at h
 have h:0<=x/\x<=255:=h
 omega
section
variable {H:Type} {enc:TypeId×Value->H} {w:World} {base:Nat} {spare:Nat->Bool} {held:Bool} {c:Ctx}
theorem Df (fuel:Nat):Op enc w base spare held c (fun x:Int=>[.int .i64 x]) (fun x=> -9223372036854775808<=x/\x<9223372036854775808) 2 fuel:=by
 intro cs x h
 obtain⟨n,rfl,rfl,hw⟩:=DataW.trod_int Tryz.underlying2 h
 exact⟨n,DL.one rfl rfl,RP hw⟩
theorem Nn (fuel:Nat):Op enc w base spare held c (fun x:Int=>[.int .i64 x]) (fun x=>True) 3 fuel:=by
 intro cs x h
 obtain⟨n,rfl,rfl,hw⟩:=DataW.trod_int Tryz.underlying3 h
 exact⟨n,DL.one rfl rfl,trivial⟩
theorem Tr (fuel:Nat):Op enc w base spare held c (fun x:Int=>[.int .u8 x]) (fun x=>0<=x/\x<256) 5 fuel:=by
 intro cs x h
 obtain⟨n,rfl,rfl,hw⟩:=DataW.trod_int Tryz.underlying5 h
 exact⟨n,DL.one rfl rfl,T0 hw⟩
theorem p9 (fuel:Nat):Op enc w base spare held c (fun x:Bool=>[.bool x]) (fun x=>True) 4 fuel:=by
 intro cs x h
 obtain⟨n,rfl,rfl⟩:=DataW.trod_bool Tryz.underlying4 h
 exact⟨n,DL.one rfl rfl,trivial⟩
theorem Ui (fuel:Nat):Op enc w base spare held c (fun x:List UInt8=>[.str x]) (fun x=>x.length<=9223372036854775807) 9 fuel:=by
 intro cs x h
 obtain⟨s,rfl,rfl,hs⟩:=DataW.trod_string Tryz.underlying9 h
 rw[yP] at hs
 refine⟨s.data.toList,DL.one rfl rfl,?_⟩
 show s.data.toList.length<=_
 rw[Ym]
 exact hs
theorem o8 {α β γ:Type} {f:α->List SVal} {Q:α->Prop} {g:β->List SVal} {R:β->Prop} (m:α->β->γ) {F:γ->List SVal} {S:γ->Prop} {t:TypeId} {f0 f1:Field} {n0 n1:Nat} (ht:Tryz.prog.underlying t=some (.struct #[f0,f1])) (h0:Tryz.prog.cellsOf f0.type=n0) (h1:Tryz.prog.cellsOf f1.type=n1) (hn:Tryz.prog.cellsOf t=n0+n1) (o0:f0.offset=0) (o1:f1.offset=n0)
  (hF:∀a b,F (m a b)=f a++g b) (hS:∀a b,Q a->R b->S (m a b)) {fuel:Nat} (k0:∀n,n<fuel->Op enc w base spare held c f Q f0.type n) (k1:∀n,n<fuel->Op enc w base spare held c g R f1.type n):Op enc w base spare held c F S t fuel:=by
 intro cs x h
 obtain⟨xs,n,rfl,rfl,hl,hlen,hf⟩:=DataW.trod_struct ht h
 have g0:=hf 0 f0 rfl
 have g1:=hf 1 f1 rfl
 rw[h0,o0,Xn] at g0
 rw[h1,o1] at g1
 rw[hn] at hl
 obtain⟨y0,hy0⟩:∃y,xs[0]? =some y:=⟨_,VV (by rw[hlen];show 0<2;omega)⟩
 obtain⟨y1,hy1⟩:∃y,xs[1]? =some y:=⟨_,VV (by rw[hlen];show 1<2;omega)⟩
 rw[hy0] at g0
 rw[hy1] at g1
 obtain⟨a,a1,a2⟩:=k0 n ii _ _ g0
 obtain⟨b,b1,b2⟩:=k1 n ii _ _ g1
 refine⟨m a b,?_,hS a b a2 b2⟩
 rw[hF]
 have e:cs=cs.take n0++(cs.drop n0).take n1:=by
  rw[Xa (l:=cs.drop n0) (by rw[XZ];omega),XW]
 rw[e]
 exact a1.app b1
theorem Dd {α β γ δ:Type} {f:α->List SVal} {Q:α->Prop} {g:β->List SVal} {R:β->Prop} {e:δ->List SVal} {T:δ->Prop} (m:α->β->δ->γ) {F:γ->List SVal} {S:γ->Prop} {t:TypeId} {f0 f1 f2:Field} {n0 n1 n2:Nat} (ht:Tryz.prog.underlying t=some (.struct #[f0,f1,f2])) (h0:Tryz.prog.cellsOf f0.type=n0) (h1:Tryz.prog.cellsOf f1.type=n1) (h2:Tryz.prog.cellsOf f2.type=n2) (hn:Tryz.prog.cellsOf t=n0+n1+n2) (o0:f0.offset=0) (o1:f1.offset=n0) (o2:f2.offset=n0+n1)
  (hF:∀a b d,F (m a b d)=f a++(g b++e d)) (hS:∀a b d,Q a->R b->T d->S (m a b d)) {fuel:Nat} (k0:∀n,n<fuel->Op enc w base spare held c f Q f0.type n) (k1:∀n,n<fuel->Op enc w base spare held c g R f1.type n) (k2:∀n,n<fuel->Op enc w base spare held c e T f2.type n):Op enc w base spare held c F S t fuel:=by
 intro cs x h
 obtain⟨xs,n,rfl,rfl,hl,hlen,hf⟩:=DataW.trod_struct ht h
 have g0:=hf 0 f0 rfl
 have g1:=hf 1 f1 rfl
 have g2:=hf 2 f2 rfl
 rw[h0,o0,Xn] at g0
 rw[h1,o1] at g1
 rw[h2,o2] at g2
 rw[hn] at hl
 obtain⟨y0,hy0⟩:∃y,xs[0]? =some y:=⟨_,VV (by rw[hlen];show 0<3;omega)⟩
 obtain⟨y1,hy1⟩:∃y,xs[1]? =some y:=⟨_,VV (by rw[hlen];show 1<3;omega)⟩
 obtain⟨y2,hy2⟩:∃y,xs[2]? =some y:=⟨_,VV (by rw[hlen];show 2<3;omega)⟩
 rw[hy0] at g0
 rw[hy1] at g1
 rw[hy2] at g2
 obtain⟨a,a1,a2⟩:=k0 n ii _ _ g0
 obtain⟨b,b1,b2⟩:=k1 n ii _ _ g1
 obtain⟨d,d1,d2⟩:=k2 n ii _ _ g2
 refine⟨m a b d,?_,hS a b d a2 b2 d2⟩
 rw[hF]
 have e:cs=cs.take n0++((cs.drop n0).take n1++(cs.drop (n0+n1)).take n2):=by
  rw[Xa (l:=cs.drop (n0+n1)) (by rw[XZ];omega),<-XK,XW,XW]
 rw[e]
 exact a1.app (b1.app d1)
theorem Uj {α γ:Type} {f:α->List SVal} {Q:α->Prop} (m:α->γ) {F:γ->List SVal} {S:γ->Prop} {t:TypeId} {f0:Field} {n0:Nat} (ht:Tryz.prog.underlying t=some (.struct #[f0])) (h0:Tryz.prog.cellsOf f0.type=n0) (hn:Tryz.prog.cellsOf t=n0) (o0:f0.offset=0)
  (hF:∀a,F (m a)=f a) (hS:∀a,Q a->S (m a)) {fuel:Nat} (k0:∀n,n<fuel->Op enc w base spare held c f Q f0.type n):Op enc w base spare held c F S t fuel:=by
 intro cs x h
 obtain⟨xs,n,rfl,rfl,hl,hlen,hf⟩:=DataW.trod_struct ht h
 have g0:=hf 0 f0 rfl
 rw[h0,o0,Xn] at g0
 rw[hn] at hl
 obtain⟨y0,hy0⟩:∃y,xs[0]? =some y:=⟨_,VV (by rw[hlen];show 0<1;omega)⟩
 rw[hy0] at g0
 obtain⟨a,a1,a2⟩:=k0 n ii _ _ g0
 refine⟨m a,?_,hS a a2⟩
 rw[hF]
 rw[Xa ii] at a1
 exact a1
theorem Op.mono {α:Type} {f:α->List SVal} {Q R:α->Prop} {t:TypeId} {fuel:Nat} (h:Op enc w base spare held c f Q t fuel) (k:∀a,Q a->R a):Op enc w base spare held c f R t fuel:=fun cs x hx=>let⟨a,h1,h2⟩:=h cs x hx;⟨a,h1,k a h2⟩
def rngS (s:Sv.Span):Prop:= -9223372036854775808<=s.lo/\s.lo<9223372036854775808/\ -9223372036854775808<=s.hi/\s.hi<9223372036854775808
theorem Rh (fuel:Nat):Op enc w base spare held c cD rngS 64 fuel:=
 o8 (m:=fun a b=>(⟨a,b⟩:Sv.Span)) Tryz.underlying64 sQ sQ wI rfl rfl (fun _ _=>rfl) (fun a b h k=>⟨h.1,h.2,k.1,k.2⟩) (fun n _=>Df n) (fun n _=>Df n)
theorem De (hc:c.fz=xk w) (fuel:Nat):Op enc w base spare held c (fun l:List Sv.Span=>[a7 l]) (tk 9223372036854775807) 22 fuel:=
 hZ enc w base spare held c hc Tryz.underlying22 wI ii fun n _=>Rh n
theorem Rk (fuel:Nat):Op enc w base spare held c cR EB 157 fuel:=
 Dd (m:=fun a b d=>(⟨a,b,d⟩:Sv.Edge)) Tryz.underlying157 EM EM zL wM rfl rfl rfl (fun _ _ _=>rfl) (fun a b d h k _=>⟨h.1,h.2,k.1,k.2⟩) (fun n _=>Tr n) (fun n _=>Tr n) (fun n _=>Nn n)
theorem Nj (hc:c.fz=xk w) (fuel:Nat):Op enc w base spare held c gT (fun s=>s.aI.length<=9223372036854775807/\∀e∈s.aI,EB e) 138 fuel:=
 o8 (m:=fun a b=>(⟨a,b⟩:bj)) Tryz.underlying138 pB EN sM rfl rfl (fun _ _=>rfl) (fun a b _ k=>k) (fun n _=>p9 n) (fun n _=>hZ enc w base spare held c hc Tryz.underlying136 wM ii fun n _=>Rk n)
theorem Ik (hc:c.fz=xk w) (fuel:Nat):Op enc w base spare held c (fun l:List bj=>[aE l]) (TF 9223372036854775807) 27 fuel:=
 Uj (m:=fun l=>l) Tryz.underlying27 BE pA rfl (fun _=>rfl) (fun l h=>⟨h.1,fun s hs=>(h.2 s hs).1,fun s hs=>(h.2 s hs).2⟩) fun n _=>hZ enc w base spare held c hc Tryz.underlying25 sM ii fun n _=>Nj hc n
theorem Rj (hc:c.fz=xk w) (fuel:Nat):Op enc w base spare held c (fun p:List Sv.Span×List Sv.Span=>[a7 p.1,a7 p.2]) (fun p=>tk 9223372036854775807 p.1/\tk 9223372036854775807 p.2) 24 fuel:=
 o8 (m:=fun a b=>(a,b)) Tryz.underlying24 sN sN wL rfl rfl (fun _ _=>rfl) (fun a b h k=>⟨h,k⟩) (fun n _=>De hc n) (fun n _=>De hc n)
theorem Ri (hc:c.fz=xk w) (fuel:Nat):Op enc w base spare held c cq (WtS 9223372036854775807) 29 fuel:=by
 intro cs x h
 obtain⟨xs,n,rfl,rfl,hl,hlen,hf⟩:=DataW.trod_struct Tryz.underlying29 h
 rw[wJ] at hl
 match cs,hl with
 |[c0,c1,c2,c3,c4,c5],_=>
  match xs,hlen with
  |[y0,y1,y2,y3,y4],_=>
   have g0:DataW.trod enc Tryz.prog w base spare held n 4 (([c0,c1,c2,c3,c4,c5].drop 0).take (Tryz.prog.cellsOf 4))=some y0:=hf 0 _ rfl
   have g1:DataW.trod enc Tryz.prog w base spare held n 4 (([c0,c1,c2,c3,c4,c5].drop 1).take (Tryz.prog.cellsOf 4))=some y1:=hf 1 _ rfl
   have g2:DataW.trod enc Tryz.prog w base spare held n 4 (([c0,c1,c2,c3,c4,c5].drop 2).take (Tryz.prog.cellsOf 4))=some y2:=hf 2 _ rfl
   have g3:DataW.trod enc Tryz.prog w base spare held n 24 (([c0,c1,c2,c3,c4,c5].drop 3).take (Tryz.prog.cellsOf 24))=some y3:=hf 3 _ rfl
   have g4:DataW.trod enc Tryz.prog w base spare held n 27 (([c0,c1,c2,c3,c4,c5].drop 5).take (Tryz.prog.cellsOf 27))=some y4:=hf 4 _ rfl
   rw[pB] at g0 g1 g2
   rw[wL] at g3
   rw[pA] at g4
   obtain⟨a0,p0,_⟩:=p9 n _ _ g0
   obtain⟨a1,p1,_⟩:=p9 n _ _ g1
   obtain⟨a2,p2,_⟩:=p9 n _ _ g2
   obtain⟨⟨a3,a4⟩,p3,q3⟩:=Rj hc n _ _ g3
   obtain⟨a5,p5,q5⟩:=Ik hc n _ _ g4
   exact⟨⟨a0,a1,a2,a3,a4,a5⟩,p0.app (p1.app (p2.app (p3.app p5))),⟨q3.1,q3.2,q5⟩⟩
def LN (x:Va):Prop:=∀d,P4 9223372036854775807 d x
def OV (enc:TypeId×Value->H) (w:World) (base:Nat) (spare:Nat->Bool) (held:Bool) (c:Ctx) (n:Nat):Prop:=Op enc w base spare held c aN LN 35 n
theorem Ij (hc:c.fz=xk w) {fuel:Nat} (ih:∀n,n<fuel->OV enc w base spare held c n):Op enc w base spare held c (fun l:List Va=>[.aK false (l.map aN)]) (fun l=>l.length<=9223372036854775807/\∀a∈l,LN a) 53 fuel:=
 hZ enc w base spare held c hc Tryz.underlying53 od ii fun n hn=>ih n hn
def QL (c:aV Va):Prop:=(c.items.length<=9223372036854775807/\∀a∈c.items,LN a)/\(c.rest.length<=9223372036854775807/\∀a∈c.rest,LN a)
theorem Nl (hc:c.fz=xk w) {fuel:Nat} (ih:∀n,n<fuel->OV enc w base spare held c n):Op enc w base spare held c (aS aN) QL 97 fuel:=
 o8 (m:=fun a b=>(⟨a,b⟩:aV Va)) Tryz.underlying97 wH wH sP rfl rfl (fun _ _=>rfl) (fun a b h k=>⟨h,k⟩) (fun n hn=>Ij hc fun m hm=>ih m ii) (fun n hn=>Ij hc fun m hm=>ih m ii)
def QF (f:dy Va):Prop:=f.label.length<=9223372036854775807/\LN f.val
theorem No {fuel:Nat} (ih:∀n,n<fuel->OV enc w base spare held c n):Op enc w base spare held c (cZ aN) QF 66 fuel:=
 Dd (m:=fun a b d=>(⟨a,b,d⟩:dy Va)) Tryz.underlying66 Lg zL od sR rfl rfl rfl (fun _ _ _=>rfl) (fun a b d h _ k=>⟨h,k⟩) (fun n _=>Ui n) (fun n _=>Nn n) (fun n hn=>ih n hn)
def QK (k:cW Va):Prop:=TF 9223372036854775807 k.set/\LN k.val
theorem Np (hc:c.fz=xk w) {fuel:Nat} (ih:∀n,n<fuel->OV enc w base spare held c n):Op enc w base spare held c (dI aN) QK 110 fuel:=
 o8 (m:=fun a b=>(⟨a,b⟩:cW Va)) Tryz.underlying110 pA od sS rfl rfl (fun _ _=>rfl) (fun a b h k=>⟨h,k⟩) (fun n _=>Ik hc n) (fun n hn=>ih n hn)
def QS (c:aF Va):Prop:=(c.fields.length<=9223372036854775807/\∀f∈c.fields,QF f)/\(c.aw.length<=9223372036854775807/\∀k∈c.aw,QK k)
theorem Nk (hc:c.fz=xk w) {fuel:Nat} (ih:∀n,n<fuel->OV enc w base spare held c n):Op enc w base spare held c (aG aN) QS 70 fuel:=
 o8 (m:=fun a b=>(⟨a,b⟩:aF Va)) Tryz.underlying70 BH yh sO rfl rfl (fun _ _=>rfl) (fun a b h k=>⟨h,k⟩)
  (fun n hn=>hZ enc w base spare held c hc Tryz.underlying67 sR ii fun m hm=>No fun i hi=>ih i ii)
  (fun n hn=>hZ enc w base spare held c hc Tryz.underlying68 sS ii fun m hm=>Np hc fun i hi=>ih i ii)
def QV (v:bt Va):Prop:=∀d,WtV 9223372036854775807 d v
theorem Dc (hc:c.fz=xk w) {fuel:Nat} (ih:∀n,n<fuel->OV enc w base spare held c n):Op enc w base spare held c (cg aN) QV 33 fuel:=by
 intro cs x h
 obtain⟨xs,n,rfl,rfl,hl,hlen,hf⟩:=DataW.trod_struct Tryz.underlying33 h
 rw[mS] at hl
 match cs,hl with
 |[c0,c1,c2,c3,c4,c5,c6,c7,c8],_=>
  match xs,hlen with
  |[y0,y1,y2,y3],_=>
   have g0:DataW.trod enc Tryz.prog w base spare held n 4 (([c0,c1,c2,c3,c4,c5,c6,c7,c8].drop 0).take (Tryz.prog.cellsOf 4))=some y0:=hf 0 _ rfl
   have g1:DataW.trod enc Tryz.prog w base spare held n 29 (([c0,c1,c2,c3,c4,c5,c6,c7,c8].drop 1).take (Tryz.prog.cellsOf 29))=some y1:=hf 1 _ rfl
   have g2:DataW.trod enc Tryz.prog w base spare held n 30 (([c0,c1,c2,c3,c4,c5,c6,c7,c8].drop 7).take (Tryz.prog.cellsOf 30))=some y2:=hf 2 _ rfl
   have g3:DataW.trod enc Tryz.prog w base spare held n 31 (([c0,c1,c2,c3,c4,c5,c6,c7,c8].drop 8).take (Tryz.prog.cellsOf 31))=some y3:=hf 3 _ rfl
   rw[pB] at g0
   rw[wJ] at g1
   rw[BG] at g2
   rw[BF] at g3
   obtain⟨a0,p0,_⟩:=p9 n _ _ g0
   obtain⟨a1,p1,q1⟩:=Ri hc n _ _ g1
   obtain⟨a2,p2,q2,r2⟩:=hZ enc w base spare held c hc (Q:=QL) Tryz.underlying30 sP ii (fun m hm=>Nl hc fun i hi=>ih i ii) _ _ g2
   obtain⟨a3,p3,q3,r3⟩:=hZ enc w base spare held c hc (Q:=QS) Tryz.underlying31 sO ii (fun m hm=>Nk hc fun i hi=>ih i ii) _ _ g3
   refine⟨⟨a0,a1,a2,a3⟩,p0.app (p1.app (p2.app p3)),fun d=> ?_⟩
   cases d with
   |zero=>trivial
   |succ d=>
    exact{sc:=q1,ll:=q2,sl:=q3,il:=fun c hc=>(r2 c hc).1.1,rl:=fun c hc=>(r2 c hc).2.1,i:=fun c hc x hx=>(r2 c hc).1.2 x hx d,r:=fun c hc x hx=>(r2 c hc).2.2 x hx d,fl:=fun c hc=>(r3 c hc).1.1,kl:=fun c hc=>(r3 c hc).2.1,A6:=fun c hc f hf=>((r3 c hc).1.2 f hf).1,f:=fun c hc f hf=>((r3 c hc).1.2 f hf).2 d,a:=fun c hc k hk=>((r3 c hc).2.2 k hk).1,k:=fun c hc k hk=>((r3 c hc).2.2 k hk).2 d}
theorem Uh (hc:c.fz=xk w) (fuel:Nat):OV enc w base spare held c fuel:=by
 induction fuel using Nat.strongRecOn with
 |_ fuel ih=>
  refine o8 (m:=fun a b=>Va.mk a b) Tryz.underlying35 mS mS od rfl rfl (fun a b=> ?_) (fun a b (h:QV a) (k:QV b) d=>⟨h d,k d⟩) (fun n hn=>Dc hc fun m hm=>ih m ii) (fun n hn=>Dc hc fun m hm=>ih m ii)
  rw[aN,oe,oe]
end
end Go.Proofs.YtcejopopgcglpaaGreatDoor
namespace Go.Proofs.YtcejopopgcglpaaGreatDoor
open Go.RowKit
noncomputable def Aq (e:TypeId) (f:Nat×Nat):Sv.Loc:= .row (some Sv.lW.g) 0 0 (.tuple #[.int .i64 (e:Nat),.int .i64 (f.1:Nat),.int .i64 (f.2:Nat)])
noncomputable def tabC (W:World) (e:TypeId) (f:Nat×Nat):Sv.Ctx:=⟨fun k=>if k=0 then some (Aq e f) else none,xk W⟩
noncomputable def HF:Sv.St:=⟨[(0,Sv.ba)],1,0,[],[]⟩
def PN (W:World):Prop:=∃arr e f,W.heap[Sv.lW.g]? =some (.cells arr e f)/\arr.toList=Sv.Ih.map (Value.int .u64)
theorem IY {c:Sv.Ctx}:∀l:List Int,Sv.aQ c (l.map (Sv.SVal.int .u64)) (l.map (Value.int .u64))
 |[]=>rfl
 |x::l=>⟨_,_,rfl,IY l,rfl⟩
theorem Q3 {F:FuncId} {args:List Sv.SVal} (h:Sv.bp Tryz.prog F args fun s=>s= .bool true) {W:World} (ht:PN W) {vs:List Value} (hd:∀c:Sv.Ctx,c.fz=xk W->Sv.aQ c args vs):Calls Tryz.prog F vs.toArray W fun e W'=>e= .returned (.bool true)/\Below W.heap.size W W':=by
 obtain⟨arr,e,f,h1,h2⟩:=ht
 obtain⟨hcl,s,o,hm,hs,rfl,rfl⟩:=h
 have hl:HF.look 0=some Sv.ba:=rfl
 have hlook:∀k o,HF.look k=some o->k=0/\o=Sv.ba:=fun k o hk=>by
  have hk:Sv.bB [(0,Sv.ba)] k=some o:=(Sv.cT hk).1
  rw[Sv.b9] at hk
  split at hk
  ·rename_i e
   exact⟨e.symm,by cases hk;rfl⟩
  ·cases hk
 have hr:Sv.dM (tabC W e f) HF.look W:=by
  refine⟨fun k o hk=> ?_,fun k j o o' l l' r hk hj hkj=> ?_,UU W⟩
  ·obtain⟨rfl,rfl⟩:=hlook k o hk
   exact⟨Aq e f,rfl,⟨rfl,rfl,arr,e,f,rfl,h1,by rw[h2];exact IY _⟩⟩
  ·obtain⟨rfl,_⟩:=hlook k o hk
   obtain⟨rfl,_⟩:=hlook j o' hj
   exact absurd rfl hkj
 have hw:Sv.Wf HF:=by
  refine⟨fun k hk=> ?_,fun k hk=>(by cases hk),Wd _⟩
  have hk:1<=k:=hk
  show Sv.bB [(0,Sv.ba)] k=none
  rw[Sv.b9,TP (by show¬0=k;omega)]
  rfl
 refine((Sv.Pk hm hcl hs hl).ok hr hw (fun k h1 h2=>by omega) (hd (tabC W e f) rfl)).mono fun x W' ⟨v,he,c',gd⟩=> ?_
 have hv:v= .bool true:=gd.val
 have st':=gd.step
 refine⟨by rw[he,hv],st'.os,st'.tape,st'.output,st'.size,fun k hk=> ?_⟩
 by_cases hg:k=Sv.lW.g
 ·subst hg
  obtain⟨l,KQ,ho⟩:=gd.rep.dO 0 Sv.ba hl
  obtain⟨l',hl2,hle⟩:=st'.le.ρ 0 (Aq e f) rfl
  rw[KQ] at hl2
  cases hl2
  rcases hle with rfl|⟨b',st2,sz',u',rfl,hlt⟩
  ·obtain⟨_,_,arr',e',f',hu,hcell,hden⟩:=ho
   have h3:=qE hden
   rw[h1,hcell]
   have ha:arr'=arr:=by
    apply Array.toList_inj.1
    rw[h2,h3]
   simp only[Value.tuple.injEq,Array.mk.injEq,List.cons.injEq,Value.int.injEq,true_and,and_true] at hu
   obtain⟨e1,e2,e3⟩:=hu
   have e1:e=e':=Int.ofNat.inj e1
   have e2:f.1=f'.1:=Int.ofNat.inj e2
   have e3:f.2=f'.2:=Int.ofNat.inj e3
   rw[ha,e1,Prod.ext e2 e3]
  ·obtain⟨_,h0,_⟩:=ho
   omega
 ·refine st'.kept k hk fun⟨n,o,l,g1,g2,g3⟩=> ?_
  obtain⟨rfl,rfl⟩:=hlook n o g1
  have g2:some (Aq e f)=some l:=g2
  cases g2
  have g3:some Sv.lW.g=some k:=g3
  cases g3
  exact hg rfl
def yY:List (String×DataW Unit):=[("math/bits.deBruijn32tab",Rows.laid_math_bits_deBruijn32tab),("math/bits.deBruijn64tab",Rows.laid_math_bits_deBruijn64tab),("internal/strconv.uint64pow10",Rows.laid_internal_strconv_uint64pow10)]
theorem Kh:(Tryz.prog.globals[(Sv.lW.g:Nat)]?).map (·.type)=some 374:=by kernel_rfl
theorem Lf:Tryz.prog.cellsOf 316=1:=by kernel_rfl
theorem Li:Tryz.prog.cellsOf 374=20:=by kernel_rfl
theorem Uc {W:World} (h:laidMetH Tryz.prog yY W):PN W:=by
 rw[MakeChecks.laidMetH_plain _ _ _ (by kernel_rfl)] at h
 obtain⟨ps,hv,_⟩:=h
 obtain⟨_,_,_,_,_,_,_,_,_,_,hv,_⟩:=hv
 obtain⟨_,_,_,_,_,_,_,_,_,_,hv,_⟩:=hv
 obtain⟨g',t',cs,fuel,p,q,hg',ht',hvar,hd,_,_⟩:=hv
 obtain rfl:=Wm (uu.symm.trans hg')
 obtain rfl:=Wm (Kh.symm.trans ht')
 have e:=Lib.cells_of_tab (k:= .u64) (zs:=Sv.Ih) Tryz.underlying374 Tryz.underlying316 Lf Li hd
 unfold World.var? at hvar
 rw[uu] at hvar
 simp only[VU] at hvar
 cases hb:W.heap[Sv.lW.g]? with
 |none=>rw[hb] at hvar;cases hvar
 |some x=>
  rw[hb] at hvar
  cases x with
  |cells arr ee f=>
   have hvar:arr=cs:=Wm hvar
   exact⟨arr,ee,f,hb,by rw[hvar];exact e⟩
  |_=>cases hvar
end Go.Proofs.YtcejopopgcglpaaGreatDoor
namespace Go.Proofs.YtcejopopgcglpaaGreatDoor.concreteWithin
open Go.ChangeShapes Go.WideShapes Go.ChangeAt Go.RowKit
theorem own:ownKnob Tryz.prog.godebug=none:=by kernel_rfl
theorem laidOut:laidOutB Tryz.prog=true:=by kernel_rfl
theorem walk {W:World} (ht:PN W) {x:Sv.Va} (hx:P4 9223372036854775807 3 x) {cs:List Value} (hd:∀c:Sv.Ctx,c.fz=xk W->Sv.aQ c (Sv.aN x) cs):Calls Tryz.prog 3 #[.agg cs.toArray] W fun e W'=>e= .returned (.bool true)/\Below W.heap.size W W':=
 Q3 (vs:=[.agg cs.toArray]) (RK (KM ii hx)) ht fun c hc=>⟨_,_,⟨cs,by rw[<-Sv.cA];exact hd c hc,rfl⟩,rfl,rfl⟩
theorem Ew (H:Type) (enc:TypeId×Value->H) (W:World) (base:Nat) (args:Array Value) (ds gs:List (DataW H)) (before:List MemPlace)
  (hval:∀(j:Nat) t v,Tryz.f3.params[j]? =some t->args[j]? =some v->Value.okWide Tryz.prog W .any base t v)
  (hW:DataW.Whole enc Tryz.prog Tryz.f3.params.toList Rows.concreteWithinSpec.vars false W args.toList ds gs before) (hL:laidMetH Tryz.prog yY W):
  Calls Tryz.prog 3 args W fun e W'=>∃v,e= .returned v/\Rows.concreteWithinSpec.post enc Tryz.prog Tryz.f3 false true false false W args v W':=by
 have hW':=hW
 obtain⟨p,q,hA0,hV,rfl,hfz,hnd⟩:=hW
 have hA:DataW.TrodAll enc Tryz.prog W 0 (fun _=>true) true Tryz.f3.params.toList args.toList ds p:=hA0
 rw[Tryz.params3] at hA hval
 obtain⟨v0,vs0,d0,ds0,p0,q0,hargs,rfl,rfl,h0,r0⟩:=trodAll_cons hA
 obtain⟨rfl,rfl,rfl⟩:=trodAll_nil r0
 obtain rfl:args= #[v0]:=by cases args;simp_all
 obtain⟨rfl,rfl⟩:=trodVars_none hV
 clear hA0
 simp only[Wy] at hW'
 have hlt0:∀x∈p0,x.block<W.heap.size:=fun x hx=>by simpa using hW'.lt x (by simp[hx])
 obtain⟨fuel,hf⟩:=h0
 obtain⟨x,hx,hw⟩:=Uh (c:=Sv.bare (xk W)) rfl fuel _ _ hf
 have hlen:v0.cells.toList.length=18:=by rw[Sv.aQ.length hx.1,Sv.cA];rfl
 have hv0:v0= .agg v0.cells.toList.toArray:=by
  cases v0 with
  |agg a=>simp[Value.cells]
  |_=>simp[Value.cells] at hlen
 have hd:∀c:Sv.Ctx,c.fz=xk W->Sv.aQ c (Sv.aN x) v0.cells.toList:=fun c hc=>Sv.aQ.le (c:=Sv.bare (xk W)) ⟨fun k l h=>(by cases h),fun b i v h=>by rw[hc];exact h⟩ _ _ hx.1
 have hrun:=walk (Uc hL) (hw 3) hd
 rw[<-hv0] at hrun
 have h0:DataW.Trod enc Tryz.prog W 0 (fun _=>true) true 35 v0 d0 p0:=⟨fuel,hf⟩
 refine hrun.mono fun e W' ⟨he,hE⟩=> ?_
 subst he
 have harg0:DataW.Trod enc Tryz.prog W' 0 (fun b=>decide (b<W.heap.size)) true 35 v0 d0 p0:=Below.trod laidOut (by kernel_rfl) (Wp (by kernel_rfl)) h0 hE hlt0
 exact⟨_,rfl,_,_,_,[],p0,[],hW',trodAll_mk1 (shut_bool Tryz.underlying4 true),trodAll_mk1 harg0,rfl,hE.frame _,fun h=>by cases h⟩
end Go.Proofs.YtcejopopgcglpaaGreatDoor.concreteWithin
