/- For ConcreteOnly and ConcreteBack: values as trees, operations, regions. -/
import Derived.WalkKit
import Derived.OrdersIn
import Derived.TacticsIn
import Derived.ChangeKeysEq
import Derived.Great.BuildSlice
import Derived.Deep.AppendSrc
import Derived.Laws.AppendOwn
import Derived.MapKept
import Derived.RangeFuncLeaves
import Derived.RangeFuncNested
import Derived.Scope
theorem ii {G:Prop} (h:G:=by omega):G:=h
abbrev HP:= @Option.bind_some
abbrev Th:= @if_pos
abbrev Ti:= @if_neg
abbrev Tj:= @List.getElem?_eq_getElem
abbrev Tk:= @List.getElem?_eq_some_iff
abbrev Tl:= @Option.bind_assoc
abbrev Tm:= @List.mem_cons_of_mem
abbrev Tn:= @List.mem_cons_self
abbrev To:= @List.mem_singleton
abbrev Tp:= @Nat.le_refl
abbrev Tq:= @Bool.and_self
abbrev Tr:= @List.length_map
abbrev Ts:= @List.mem_of_getElem?
abbrev Tt:= @List.length_append
abbrev Tu:= @List.length_cons
abbrev Tv:= @List.mem_cons
abbrev Tw:= @Bool.and_eq_true
abbrev Tx:= @List.length_set
abbrev Ty:= @List.length_replicate
abbrev Tz:= @List.mem_append
abbrev TA:= @UInt8.toNat_lt
abbrev TB:= @List.getD_eq_getElem?_getD
abbrev TC:= @Nat.zero_le
abbrev TD:= @Option.some.inj
abbrev TE:= @List.getElem?_append_left
abbrev TF:= @of_decide_eq_true
abbrev TG:= @List.getElem?_append_right
abbrev TH:= @List.length_eq_zero_iff
abbrev TI:= @Array.getElem?_eq_some_iff
abbrev TJ:= @List.mem_iff_getElem?
abbrev TK:= @List.append_nil
abbrev TL:= @Bool.false_ne_true
abbrev TM:= @Int.le_refl
abbrev TN:= @List.drop_eq_getElem_cons
abbrev TO:= @List.getElem?_map
abbrev TP:= @List.append_assoc
abbrev TQ:= @List.length_singleton
abbrev TR:= @Nat.le_trans
abbrev TS:= @Nat.le_of_ble_eq_true
abbrev TT:= @List.getElem_mem
abbrev TU:= @Bool.true_and
abbrev TV:= @List.drop_eq_nil_of_le
abbrev TW:= @List.pairwise_cons
abbrev TX:= @Nat.lt_or_ge
abbrev TY:= @List.idxOf_lt_length_iff
abbrev TZ:= @Bool.and_true
abbrev T0:= @List.length_nil
abbrev T1:= @List.pairwise_append
abbrev T2:= @List.getElem?_eq_none
abbrev T3:= @Nat.eq_of_beq_eq_true
abbrev T4:= @List.mem_map
abbrev T5:= @List.pairwise_iff_getElem
abbrev T6:= @Array.getElem?_eq_getElem
abbrev T7:= @List.pairwise_singleton
abbrev T8:= @Option.some.injEq
abbrev T9:= @Int.toNat_natCast
abbrev Ua:= @List.mem_append_left
abbrev Ub:= @congrArg
abbrev Uc:= @decide_eq_true
abbrev Ud:= @List.getElem?_set
abbrev Ue:= @Nat.zero_add
abbrev Uf:= @decide_eq_false
abbrev Ug:= @Nat.lt_succ_self
abbrev Uh:= @List.foldl_cons
abbrev Ui:= @Nat.eq_zero_or_pos
abbrev Uj:= @Array.getD_eq_getD_getElem?
abbrev Uk:= @List.getElem?_replicate
abbrev Ul:= @decide_eq_true_eq
abbrev Um:= @Nat.add_mul
abbrev Un:= @List.map_append
abbrev Uo:= @List.map_cons
abbrev Up:= @List.length_pos_iff
abbrev Uq:= @List.mem_append_right
abbrev Ur:= @Nat.add_zero
abbrev Us:= @Nat.lt_of_lt_of_le
abbrev Ut:= @List.getElem?_take
abbrev Uu:= @List.drop_zero
abbrev Uv:= @Nat.sub_self
abbrev Uw:= @List.getElem?_drop
abbrev Ux:= @List.take_add_one
abbrev Uy:= @List.mem_or_eq_of_mem_set
abbrev Uz:= @Bool.false_eq_true
abbrev UA:= @Nat.mul_le_mul_right
abbrev UB:= @List.flatten_cons
abbrev UC:= @List.nil_append
abbrev UD:= @List.take_of_length_le
abbrev UE:= @List.getElem?_set_self
abbrev UF:= @Iff.rfl
abbrev UG:= @Nat.add_assoc
abbrev UH:= @List.countP_cons
abbrev UI:= @Nat.mul_le_mul
abbrev UJ:= @List.concat_eq_append
abbrev UK:= @Option.map_some
abbrev UL:= @Array.getElem?_setIfInBounds_ne
abbrev UM:= @List.take_set_of_le
abbrev UN:= @beq_true
abbrev UO:= @List.mem_range
abbrev UP:= @List.all_eq_true
abbrev UQ:= @UInt8.toNat_ofNat'
abbrev UR:= @List.mem_replicate
abbrev US:= @List.getElem_idxOf
abbrev UT:= @Bool.or_eq_true
abbrev UU:= @Bool.or_false
abbrev UW:= @Bool.false_or
abbrev UX:= @Nat.ble_eq_true_of_le
abbrev UY:= @List.getElem?_toArray
abbrev UZ:= @Ne.symm
abbrev U0:= @Nat.lt_trichotomy
abbrev U1:= @Nat.le_succ
abbrev U2:= @List.nodup_iff_pairwise_ne
abbrev U3:= @List.replicate_succ
abbrev U4:= @Array.toList_append
abbrev U5:= @Nat.one_mul
abbrev U6:= @List.getElem?_cons_zero
abbrev U7:= @Option.map_eq_some_iff
abbrev U8:= @List.nodup_append
abbrev U9:= @List.map_nil
abbrev Vb:= @List.idxOf_append
abbrev Vc:= @List.ext_getElem?
abbrev Vd:= @List.drop_drop
abbrev Ve:= @Array.getElem?_toList
abbrev Vf:= @List.cons_append
abbrev Vg:= @List.any_eq_true
abbrev Vh:= @List.idxOf_cons
abbrev Vi:= @Nat.sub_zero
abbrev Vj:= @Int.le_trans
abbrev Vk:= @if_false
abbrev Vm:= @Nat.eq_or_lt_of_le
abbrev Vn:= @Nat.add_sub_of_le
abbrev Vo:= @List.size_toArray
abbrev Vp:= @List.length_drop
abbrev Vq:= @List.set_set
abbrev Vr:= @List.nodup_cons
abbrev Vs:= @Bool.eq_iff_iff
abbrev Vt:= @List.set_append_right
abbrev Vu:= @Nat.le_zero
abbrev Vv:= @List.getElem?_of_mem
abbrev Vw:= @List.drop_eq_nil_iff
abbrev Vx:= @if_true
abbrev Vy:= @List.getElem?_range
abbrev Vz:= @Array.length_toList
abbrev VA:= @List.cons.inj
abbrev VB:= @Option.isNone_some
abbrev VC:= @Option.isNone_none
abbrev VD:= @Nat.pos_of_ne_zero
abbrev VE:= @Nat.add_right_comm
abbrev VG:= @Array.foldl_toList
abbrev VH:= @dif_pos
abbrev VI:= @Nat.mul_comm
abbrev VJ:= @Nat.le_of_eq
abbrev VM:= @Nat.beq_refl
abbrev VN:= @List.pairwise_map
abbrev VO:= @List.length_range
abbrev VP:= @List.any_nil
abbrev VQ:= @Array.size_append
abbrev VR:= @List.replicate_append_replicate
abbrev VS:= @Option.getD_some
abbrev VU:= @List.nodup_range
abbrev VV:= @List.length_take
set_option linter.unusedVariables false
set_option linter.unusedSimpArgs false
set_option linter.unusedSectionVars false
namespace Sv
open Go
inductive SVal where
 |bool (b:Bool)
 |int (k:IntKind) (n:Int)
 |str (s:List UInt8)
 |nilPtr
 |ptr (k off:Nat)
 |fq (k s i off:Nat)
 |bN (row:List SVal) (off:Nat)
 |ax
 |aE (full:Bool) (rows:List (List SVal))
 |own (k s:Nat)
 |eA
 |map (k:Nat)
 |func (fn:Fn) (first cap:List SVal)
 |fT
 |nilIface
 |iface (t:TypeId) (v:SVal)
 |agg (l:List SVal)
 |dT (l:List SVal)
inductive Loc where
 |box (blk:Nat)
 |row (blk:Option Nat) (stamp size:Nat) (val:Value)
structure Ctx where
 ρ:Nat->Option Loc
 fz:Nat->Nat->Option Value
mutual
def Den (c:Ctx):SVal->Value->Prop
 | .bool b,v=>v= .bool b
 | .int k n,v=>v= .int k n
 | .str s,v=>v= .string ⟨s.toArray⟩
 | .nilPtr,v=>v= .pointer none
 | .ptr k off,v=>∃b,c.ρ k=some (.box b)/\v= .pointer (some ⟨b,off,none⟩)
 | .fq k s i off,v=>(∃a,v= .pointer (some a))/\∃b st sz u,c.ρ k=some (.row b st sz u)/\s<=st/\(st=s->∃r,b=some r/\v= .pointer (some ⟨r,i*sz+off,none⟩))
 | .bN row off,v=>∃b base,v= .pointer (some ⟨b,base+off,none⟩)/\bW c b row base
 | .ax,v=>v= .slice none 0 0
 | .aE full rows,v=>(rows=[]/\∃a cap,v= .slice a 0 cap/\(full=true->cap=0))\/
   ∃b base size cap,v= .slice (some ⟨b,base,none⟩) rows.length cap/\rows.length<=cap/\(full=true->cap=rows.length)/\bL c b size rows base
 | .own k s,v=>(∃a n cap,v= .slice a n cap)/\∃b st sz u,c.ρ k=some (.row b st sz u)/\s<=st/\(st=s->v=u)
 | .eA,v=>v= .map none
 | .map k,v=>∃b,c.ρ k=some (.box b)/\v= .map (some b)
 | .func fn x y,v=>match fn with
  | .yield k=>∃b,c.ρ k=some (.box b)/\v= .func (.yield b) #[] #[]
  |fn=>∃xs ys,aJ c x xs/\aJ c y ys/\v= .func fn xs.toArray ys.toArray
 | .fT,v=>v= .nilFunc
 | .nilIface,v=>v= .nilIface
 | .iface t s,v=>∃u,Den c s u/\v= .iface t u
 | .agg l,v=>∃vs,aJ c l vs/\v= .agg vs.toArray
 | .dT l,v=>∃vs,aJ c l vs/\v= .tuple vs.toArray
def aJ (c:Ctx):List SVal->List Value->Prop
 |[],vs=>vs=[]
 |s::r,vs=>∃v l,Den c s v/\aJ c r l/\vs=v::l
def bW (c:Ctx) (b:Nat):List SVal->Nat->Prop
 |[],_=>True
 |s::r,i=>(∃u,c.fz b i=some u/\u.oneCell'=true/\Den c s u)/\bW c b r (i+1)
def bL (c:Ctx) (b size:Nat):List (List SVal)->Nat->Prop
 |[],_=>True
 |row::r,i=>row.length=size/\bW c b row i/\bL c b size r (i+size)
end
def dz:Loc->Loc->Prop
 | .box b,l=>l= .box b
 | .row b st sz u,l=>l= .row b st sz u\/∃b' st' sz' u',l= .row b' st' sz' u'/\st<st'
theorem dz.refl:∀l,dz l l
 | .box _=>rfl
 | .row .. => .inl rfl
theorem dz.trans {a b c:Loc} (h:dz a b) (k:dz b c):dz a c:=by
 cases a with
 |box x=>cases h;exact k
 |row x st sz u=>
  rcases h with rfl|⟨b',st',sz',u',rfl,h⟩
  ·exact k
  ·rcases k with rfl|⟨b2,st2,sz2,u2,rfl,k⟩
   ·exact .inr ⟨_,_,_,_,rfl,h⟩
   ·exact .inr ⟨_,_,_,_,rfl,Nat.lt_trans h k⟩
structure Le (c c':Ctx):Prop where
 ρ:∀k l,c.ρ k=some l->∃l',c'.ρ k=some l'/\dz l l'
 fz:∀b i v,c.fz b i=some v->c'.fz b i=some v
theorem Le.refl (c:Ctx):Le c c:=⟨fun _ l h=>⟨l,h,dz.refl l⟩,fun _ _ _ h=>h⟩
theorem Le.trans {a b c:Ctx} (h:Le a b) (k:Le b c):Le a c:=
 ⟨fun n l e=>let⟨l1,h1,h2⟩:=h.ρ n l e;let⟨l2,h3,h4⟩:=k.ρ n l1 h1;⟨l2,h3,h2.trans h4⟩,fun b i v e=>k.fz b i v (h.fz b i v e)⟩
theorem Le.box {c c':Ctx} (h:Le c c') {k b:Nat} (e:c.ρ k=some (.box b)):c'.ρ k=some (.box b):=by
 obtain⟨l,h1,h2⟩:=h.ρ k _ e
 cases h2
 exact h1
mutual
theorem Den.le {c c':Ctx} (h:Le c c'):∀(s:SVal) (v:Value),Den c s v->Den c' s v
 | .bool _,_,e=>e
 | .int _ _,_,e=>e
 | .str _,_,e=>e
 | .nilPtr,_,e=>e
 | .ptr k off,v,⟨b,h1,h2⟩=>⟨b,h.box h1,h2⟩
 | .fq k s i off,v,⟨h0,b,st,sz,u,h1,h2,h3⟩=>by
  obtain⟨l,h4,h5⟩:=h.ρ k _ h1
  rcases h5 with rfl|⟨b',st',sz',u',rfl,h5⟩
  ·exact⟨h0,b,st,sz,u,h4,h2,h3⟩
  ·exact⟨h0,b',st',sz',u',h4,by omega,fun e=>by omega⟩
 | .bN row off,v,⟨b,base,h1,h2⟩=>⟨b,base,h1,bW.le h b row base h2⟩
 | .ax,_,e=>e
 | .aE full rows,v,e=>by
  rcases e with e|⟨b,base,size,cap,h1,h2,h3,h4⟩
  ·exact .inl e
  ·exact .inr ⟨b,base,size,cap,h1,h2,h3,bL.le h b size rows base h4⟩
 | .own k s,v,⟨h0,b,st,sz,u,h1,h2,h3⟩=>by
  obtain⟨l,h4,h5⟩:=h.ρ k _ h1
  rcases h5 with rfl|⟨b',st',sz',u',rfl,h5⟩
  ·exact⟨h0,b,st,sz,u,h4,h2,h3⟩
  ·exact⟨h0,b',st',sz',u',h4,by omega,fun e=>by omega⟩
 | .eA,_,e=>e
 | .map k,v,⟨b,h1,h2⟩=>⟨b,h.box h1,h2⟩
 | .func fn x y,v,e=>by
  cases fn<;>first
   |(obtain⟨b,h1,h2⟩:=e;exact⟨b,h.box h1,h2⟩)
   |(obtain⟨xs,ys,h1,h2,h3⟩:=e;exact⟨xs,ys,aJ.le h x xs h1,aJ.le h y ys h2,h3⟩)
 | .fT,_,e=>e
 | .nilIface,_,e=>e
 | .iface t s,v,⟨u,h1,h2⟩=>⟨u,Den.le h s u h1,h2⟩
 | .agg l,v,⟨vs,h1,h2⟩=>⟨vs,aJ.le h l vs h1,h2⟩
 | .dT l,v,⟨vs,h1,h2⟩=>⟨vs,aJ.le h l vs h1,h2⟩
theorem aJ.le {c c':Ctx} (h:Le c c'):∀(l:List SVal) (vs:List Value),aJ c l vs->aJ c' l vs
 |[],_,e=>e
 |s::r,vs,⟨v,l,h1,h2,h3⟩=>⟨v,l,Den.le h s v h1,aJ.le h r l h2,h3⟩
theorem bW.le {c c':Ctx} (h:Le c c') (b:Nat):∀(row:List SVal) (i:Nat),bW c b row i->bW c' b row i
 |[],_,_=>trivial
 |s::r,i,⟨⟨u,h1,h0,h2⟩,h3⟩=>⟨⟨u,h.fz b i u h1,h0,Den.le h s u h2⟩,bW.le h b r (i+1) h3⟩
theorem bL.le {c c':Ctx} (h:Le c c') (b size:Nat):∀(rows:List (List SVal)) (i:Nat),bL c b size rows i->bL c' b size rows i
 |[],_,_=>trivial
 |row::r,i,⟨h1,h2,h3⟩=>⟨h1,bW.le h b row i h2,bL.le h b size r (i+size) h3⟩
end
theorem aJ.nil {c:Ctx} {vs:List Value}:aJ c [] vs↔vs=[]:=UF
theorem aJ.cons {c:Ctx} {s:SVal} {r:List SVal} {vs:List Value}:aJ c (s::r) vs↔∃v l,Den c s v/\aJ c r l/\vs=v::l:=UF
theorem aJ.length {c:Ctx}:∀{l:List SVal} {vs:List Value},aJ c l vs->vs.length=l.length
 |[],_,h=>by rw[aJ.nil.1 h];rfl
 |s::r,_,⟨v,l,_,hl,e⟩=>by subst e;simp[aJ.length hl]
theorem aJ.get {c:Ctx}:∀{l:List SVal} {vs:List Value} {i:Nat},aJ c l vs->∀{s},l[i]? =some s->∃v,vs[i]? =some v/\Den c s v
 |[],_,_,_,_,hs=>by simp at hs
 |s::r,vs,i,⟨v,l,hv,hl,e⟩,s',hs=>by
  subst e
  cases i with
  |zero=>simp at hs;subst hs;exact⟨v,rfl,hv⟩
  |succ i=>simp at hs;simpa using aJ.get hl hs
theorem aJ.append {c:Ctx}:∀{a b:List SVal} {vs:List Value},aJ c (a++b) vs↔∃x y,aJ c a x/\aJ c b y/\vs=x++y
 |[],b,vs=>by
  constructor
  ·exact fun h=>⟨[],vs,rfl,h,rfl⟩
  ·rintro⟨x,y,hx,hy,e⟩
   cases hx
   rw[e]
   exact hy
 |s::a,b,vs=>by
  rw[Vf,aJ.cons]
  constructor
  ·rintro⟨v,l,hv,hl,rfl⟩
   obtain⟨x,y,hx,hy,rfl⟩:=aJ.append.1 hl
   exact⟨v::x,y,⟨v,x,hv,hx,rfl⟩,hy,rfl⟩
  ·rintro⟨x,y,⟨v,l,hv,hl,rfl⟩,hy,rfl⟩
   exact⟨v,l++y,hv,aJ.append.2 ⟨l,y,hl,hy,rfl⟩,rfl⟩
theorem aJ.oR {c:Ctx}:∀{l:List SVal} {vs:List Value},vs.length=l.length->(∀(i:Nat) (s:SVal),l[i]? =some s->∃v,vs[i]? =some v/\Den c s v)->aJ c l vs
 |[],vs,hl,_=>TH.1 hl
 |s::r,[],hl,_=>by simp at hl
 |s::r,v::vs,hl,h=>by
  obtain⟨v',hv',hd⟩:=h 0 s rfl
  simp at hv'
  subst hv'
  refine aJ.cons.2 ⟨v,vs,hd,aJ.oR (by simpa using hl) fun i s' hs'=> ?_,rfl⟩
  simpa using h (i+1) s' (by simpa using hs')
theorem aJ.take {c:Ctx} {l:List SVal} {vs:List Value} (h:aJ c l vs) (n:Nat):aJ c (l.take n) (vs.take n):=by
 have hl:=h.length
 refine aJ.oR (by simp[hl]) fun i s hs=> ?_
 rw[Ut] at hs
 split at hs
 ·rename_i hi
  obtain⟨v,hv,hd⟩:=h.get hs
  exact⟨v,by rw[Ut,Th hi];exact hv,hd⟩
 ·cases hs
theorem aJ.drop {c:Ctx} {l:List SVal} {vs:List Value} (h:aJ c l vs) (n:Nat):aJ c (l.drop n) (vs.drop n):=by
 have hl:=h.length
 refine aJ.oR (by simp[hl]) fun i s hs=> ?_
 rw[Uw] at hs⊢
 exact h.get hs
def bT:SVal->List SVal
 | .agg l=>l
 |v=>[v]
def va:SVal->Bool
 | .agg _=>false
 | .dT _=>false
 |_=>true
theorem nK {c:Ctx} {s:SVal} {v:Value} (h:va s=true) (hd:Den c s v):v.oneCell'=true:=by
 cases s<;>simp only[va,Uz] at h<;>try (cases hd;rfl)
 case ptr=>obtain⟨b,_,rfl⟩:=hd;rfl
 case fq=>obtain⟨⟨a,rfl⟩,_⟩:=hd;rfl
 case bN=>obtain⟨b,base,rfl,_⟩:=hd;rfl
 case aE=>
  rcases hd with⟨_,a,cap,rfl,_⟩|⟨b,base,size,cap,rfl,_⟩<;>rfl
 case own=>obtain⟨⟨a,n,cap,rfl⟩,_⟩:=hd;rfl
 case map=>obtain⟨b,_,rfl⟩:=hd;rfl
 case func fn x y=>
  cases fn<;>first
   |(obtain⟨b,_,rfl⟩:=hd;rfl)
   |(obtain⟨xs,ys,_,_,rfl⟩:=hd;rfl)
 case iface=>obtain⟨u,_,rfl⟩:=hd;rfl
theorem CA {c:Ctx} {s:SVal} {v:Value} (h:va s=true) (hd:Den c s v):v.cells= #[v]:=by
 have:=nK h hd
 cases v<;>first|rfl|(cases this)
theorem dR {c:Ctx} {s:SVal} {v:Value} (h:Den c s v):aJ c (bT s) v.cells.toList:=by
 cases hf:va s with
 |true=>
  have e:bT s=[s]:=by cases s<;>first|rfl|(cases hf)
  rw[e,CA hf h]
  exact⟨v,[],h,rfl,rfl⟩
 |false=>
  cases s<;>simp only[va,reduceCtorEq] at hf
  ·obtain⟨vs,h1,rfl⟩:=h
   simpa[bT,Value.cells] using h1
  ·obtain⟨vs,h1,rfl⟩:=h
   exact⟨_,[],⟨vs,h1,rfl⟩,rfl,rfl⟩
def sd (l:List SVal):Prop:=∀s∈l,va s=true
theorem kG {c:Ctx} {l:List SVal} {vs:List Value} (h:sd l) (hd:aJ c l vs):∀v∈vs,v.oneCell'=true:=by
 intro v hv
 obtain⟨i,hi⟩:=Vv hv
 have hl:=hd.length
 have:i<l.length:=by rw[<-hl];exact(Tk.1 hi).1
 obtain⟨u,hu,hd'⟩:=hd.get (Tj this)
 rw[hi] at hu
 cases hu
 exact nK (h _ (TT this)) hd'
def dx:Fn->Bool
 | .yield _=>false
 |_=>true
mutual
def closed:SVal->Bool
 | .ptr _ _=>false
 | .fq _ _ _ _=>false
 | .own _ _=>false
 | .map _=>false
 | .bN row _=>aw row
 | .aE _ rows=>aG rows
 | .func fn x y=>dx fn&&aw x&&aw y
 | .iface _ v=>closed v
 | .agg l=>aw l
 | .dT l=>aw l
 |_=>true
def aw:List SVal->Bool
 |[]=>true
 |s::r=>closed s&&aw r
def aG:List (List SVal)->Bool
 |[]=>true
 |row::r=>aw row&&aG r
end
mutual
theorem Den.free {c c':Ctx} (h:∀b i v,c.fz b i=some v->c'.fz b i=some v):∀(s:SVal) (v:Value),closed s=true->Den c s v->Den c' s v
 | .bool _,_,_,e=>e
 | .int _ _,_,_,e=>e
 | .str _,_,_,e=>e
 | .nilPtr,_,_,e=>e
 | .ptr _ _,_,k,_=>by cases k
 | .fq _ _ _ _,_,k,_=>by cases k
 | .bN row off,v,k,⟨b,base,h1,h2⟩=>⟨b,base,h1,bW.free h b row base k h2⟩
 | .ax,_,_,e=>e
 | .aE full rows,v,k,e=>by
  rcases e with e|⟨b,base,size,cap,h1,h2,h3,h4⟩
  ·exact .inl e
  ·exact .inr ⟨b,base,size,cap,h1,h2,h3,bL.free h b size rows base k h4⟩
 | .own _ _,_,k,_=>by cases k
 | .eA,_,_,e=>e
 | .map _,_,k,_=>by cases k
 | .func fn x y,v,k,e=>by
  rw[closed,Tw,Tw] at k
  cases fn<;>first
   |(obtain⟨xs,ys,h1,h2,h3⟩:=e;exact⟨xs,ys,aJ.free h x xs k.1.2 h1,aJ.free h y ys k.2 h2,h3⟩)
   |(simp[dx] at k)
 | .fT,_,_,e=>e
 | .nilIface,_,_,e=>e
 | .iface t s,v,k,⟨u,h1,h2⟩=>⟨u,Den.free h s u k h1,h2⟩
 | .agg l,v,k,⟨vs,h1,h2⟩=>⟨vs,aJ.free h l vs k h1,h2⟩
 | .dT l,v,k,⟨vs,h1,h2⟩=>⟨vs,aJ.free h l vs k h1,h2⟩
theorem aJ.free {c c':Ctx} (h:∀b i v,c.fz b i=some v->c'.fz b i=some v):∀(l:List SVal) (vs:List Value),aw l=true->aJ c l vs->aJ c' l vs
 |[],_,_,e=>e
 |s::r,vs,k,⟨v,l,h1,h2,h3⟩=>by
  rw[aw,Tw] at k
  exact⟨v,l,Den.free h s v k.1 h1,aJ.free h r l k.2 h2,h3⟩
theorem bW.free {c c':Ctx} (h:∀b i v,c.fz b i=some v->c'.fz b i=some v) (b:Nat):∀(row:List SVal) (i:Nat),aw row=true->bW c b row i->bW c' b row i
 |[],_,_,_=>trivial
 |s::r,i,k,⟨⟨u,h1,h0,h2⟩,h3⟩=>by
  rw[aw,Tw] at k
  exact⟨⟨u,h b i u h1,h0,Den.free h s u k.1 h2⟩,bW.free h b r (i+1) k.2 h3⟩
theorem bL.free {c c':Ctx} (h:∀b i v,c.fz b i=some v->c'.fz b i=some v) (b size:Nat):∀(rows:List (List SVal)) (i:Nat),aG rows=true->bL c b size rows i->bL c' b size rows i
 |[],_,_,_=>trivial
 |row::r,i,k,⟨h1,h2,h3⟩=>by
  rw[aG,Tw] at k
  exact⟨h1,bW.free h b row i k.1 h2,bL.free h b size r (i+size) k.2 h3⟩
end
theorem bW.get {c:Ctx} {b:Nat}:∀{row:List SVal} {i j:Nat} {s:SVal},bW c b row i->row[j]? =some s->∃u,c.fz b (i+j)=some u/\u.oneCell'=true/\Den c s u
 |[],_,_,_,_,h=>by simp at h
 |s::r,i,0,s',⟨h1,_⟩,h=>by simp at h;subst h;exact h1
 |s::r,i,j+1,s',⟨_,h2⟩,h=>by
  obtain⟨u,h3,h4⟩:=bW.get h2 (show r[j]? =some s' by simpa using h)
  exact⟨u,by rw[<-h3];congr 1;omega,h4⟩
theorem bW.of {c:Ctx} {b:Nat}:∀{row:List SVal} {i:Nat},(∀j s,row[j]? =some s->∃u,c.fz b (i+j)=some u/\u.oneCell'=true/\Den c s u)->bW c b row i
 |[],_,_=>trivial
 |s::r,i,h=>⟨by simpa using h 0 s rfl,bW.of fun j s' hs=>by
  obtain⟨u,h1,h2⟩:=h (j+1) s' (by simpa using hs)
  exact⟨u,by rw[<-h1];congr 1;omega,h2⟩⟩
theorem bL.get {c:Ctx} {b size:Nat}:∀{rows:List (List SVal)} {i j:Nat} {row:List SVal},bL c b size rows i->rows[j]? =some row->row.length=size/\bW c b row (i+j*size)
 |[],_,_,_,_,h=>by simp at h
 |row::r,i,0,row',⟨h1,h2,_⟩,h=>by simp at h;subst h;exact⟨h1,by simpa using h2⟩
 |row::r,i,j+1,row',⟨_,_,h3⟩,h=>by
  obtain⟨h4,h5⟩:=bL.get h3 (show r[j]? =some row' by simpa using h)
  exact⟨h4,by rw[Um,U5,<-UG,VE];exact h5⟩
theorem bL.of {c:Ctx} {b size:Nat}:∀{rows:List (List SVal)} {i:Nat},(∀j row,rows[j]? =some row->row.length=size/\bW c b row (i+j*size))->bL c b size rows i
 |[],_,_=>trivial
 |row::r,i,h=>by
  obtain⟨h1,h2⟩:=h 0 row rfl
  refine⟨h1,by simpa using h2,bL.of fun j row' hr=> ?_⟩
  obtain⟨h3,h4⟩:=h (j+1) row' (by simpa using hr)
  exact⟨h3,by rw[Um,U5,<-UG,VE] at h4;exact h4⟩
end Sv
namespace Sv
open Go
structure Fr where
 n:Nat
 t:List (Nat×SVal)
structure jz where
 fr:Fr
 ps:List Nat
 assign:Code
 body:Code
 state:Nat
 lM:Option Code
inductive bm where
 |cells (l:List SVal)
 |still (l:List SVal)
 |row (m:Nat) (rows:List (List SVal)) (s:Nat) (froz:Bool)
 |map (es:List (SVal×SVal))
 |loop (r:jz)
 |lR (g:Nat) (l:List SVal)
abbrev Hp:=List (Nat×bm)
noncomputable def bx {α:Type} (t:List (Nat×α)) (n:Nat):Option α:=
 List.rec (motive:=fun _=>Option α) none (fun p _ ih=>Prod.rec (fun k v=>Bool.rec ih (some v) (Nat.beq k n)) p) t
noncomputable def iW {α:Type} (t:List (Nat×α)) (n:Nat) (x:α):List (Nat×α):=
 List.rec (motive:=fun _=>List (Nat×α)) [(n,x)] (fun p r ih=>Bool.rec (p::ih) ((n,x)::r) (Nat.beq p.1 n)) t
noncomputable def Fo {α:Type} (t:List (Nat×α)) (n:Nat):List (Nat×α):=
 List.rec (motive:=fun _=>List (Nat×α)) [] (fun p _ ih=>Bool.rec (p::ih) ih (Nat.beq p.1 n)) t
theorem UN {a b:Nat} (h:Nat.beq a b=true):a=b:=T3 h
theorem rE {a b:Nat} (h:a=b):Nat.beq a b=true:=by subst h;exact VM a
theorem pg {a b:Nat} (h:a≠b):Nat.beq a b=false:=by
 cases e:Nat.beq a b with
 |false=>rfl
 |true=>exact absurd (T3 e) h
theorem beq_false {a b:Nat} (h:Nat.beq a b=false):a≠b:=fun e=>by rw[rE e] at h;cases h
theorem cT {a b:Nat} (h:Nat.ble a b=true):a<=b:=TS h
theorem nT {a b:Nat} (h:Nat.ble a b=false):b<a:=by
 rcases TX b a with hl|hl
 ·exact hl
 ·rw[UX hl] at h;cases h
section
variable {α:Type}
theorem bZ (p:Nat×α) (r:List (Nat×α)) (n:Nat):bx (p::r) n=if p.1=n then some p.2 else bx r n:=by
 show @Bool.rec (fun _=>Option α) (bx r n) (some p.2) (Nat.beq p.1 n)=_
 by_cases h:p.1=n
 ·rw[Th h,rE h]
 ·rw[Ti h,pg h]
theorem Jn (p:Nat×α) (r:List (Nat×α)) (n:Nat) (x:α):iW (p::r) n x=if p.1=n then(n,x)::r else p::iW r n x:=by
 show @Bool.rec (fun _=>List (Nat×α)) (p::iW r n x) ((n,x)::r) (Nat.beq p.1 n)=_
 by_cases h:p.1=n
 ·rw[Th h,rE h]
 ·rw[Ti h,pg h]
theorem Jp (p:Nat×α) (r:List (Nat×α)) (n:Nat):Fo (p::r) n=if p.1=n then Fo r n else p::Fo r n:=by
 show @Bool.rec (fun _=>List (Nat×α)) (p::Fo r n) (Fo r n) (Nat.beq p.1 n)=_
 by_cases h:p.1=n
 ·rw[Th h,rE h]
 ·rw[Ti h,pg h]
theorem Dn (n:Nat) (x:α) (m:Nat):∀t:List (Nat×α),bx (iW t n x) m=if m=n then some x else bx t m
 |[]=>by
  show bx [(n,x)] m=_
  rw[bZ]
  by_cases h:n=m
  ·subst h;simp
  ·rw[Ti h,Ti (UZ h)]
 |p::r=>by
  rw[Jn]
  by_cases h:p.1=n
  ·rw[Th h,bZ,bZ]
   by_cases e:n=m
   ·subst e;simp
   ·rw[Ti e,Ti (UZ e),Ti (by rw[h];exact e)]
  ·rw[Ti h,bZ,bZ,Dn n x m r]
   by_cases e:m=n
   ·subst e;simp[h]
   ·simp[e]
theorem vW (n m:Nat):∀t:List (Nat×α),bx (Fo t n) m=if m=n then none else bx t m
 |[]=>by show none=_;split<;>rfl
 |p::r=>by
  rw[Jp]
  by_cases h:p.1=n
  ·rw[Th h,vW n m r,bZ]
   by_cases e:m=n
   ·simp[e]
   ·rw[Ti e,Ti e,Ti (by rw[h];exact UZ e)]
  ·rw[Ti h,bZ,bZ,vW n m r]
   by_cases e:m=n
   ·subst e;simp[h]
   ·simp[e]
end
structure St where
 heap:Hp
 next:Nat
 mark:Nat
 log:List Nat
 cB:List (Nat×Nat)
noncomputable def b8 (k:Nat) (l:List (Nat×Nat)):Bool:=
 List.rec (motive:=fun _=>Bool) false (fun p _ ih=>Bool.rec ih (Bool.rec ih true (Nat.ble (Nat.succ k) p.2)) (Nat.ble p.1 k)) l
abbrev gx:=Nat->Option bm
namespace St
noncomputable def look (st:St) (k:Nat):Option bm:=Bool.rec (bx st.heap k) none (b8 k st.cB)
noncomputable def note (st:St) (k:Nat):List Nat:=Bool.rec st.log (k::st.log) (Nat.ble (Nat.succ k) st.mark)
noncomputable def put (st:St) (k:Nat) (o:bm):St:=⟨iW st.heap k o,st.next,st.mark,st.note k,st.cB⟩
noncomputable def drop (st:St) (k:Nat):St:=⟨Fo st.heap k,st.next,st.mark,st.note k,st.cB⟩
def fresh (st:St) (o:bm):St:=⟨(st.next,o)::st.heap,st.next+1,st.mark,st.log,st.cB⟩
end St
theorem look_eq (st:St) (k:Nat):st.look k=if b8 k st.cB=true then none else bx st.heap k:=by
 unfold St.look
 cases b8 k st.cB<;>rfl
theorem cR {st:St} {k:Nat} {o:bm} (h:st.look k=some o):bx st.heap k=some o/\b8 k st.cB=false:=by
 rw[look_eq] at h
 cases hb:b8 k st.cB with
 |true=>rw[hb] at h;cases h
 |false=>rw[hb] at h;exact⟨h,rfl⟩
def iR:Loc->Option Nat
 | .box b=>some b
 | .row b _ _ _=>b
noncomputable def Fr.get (fr:Fr) (t:Nat):Option SVal:=bx fr.t t
def mO (c:Ctx) (fr:Fr) (tmps:Array Value):Prop:=tmps.size=fr.n/\∀t s,fr.get t=some s->∃v,tmps[t]? =some v/\Den c s v
theorem mO.le {c c':Ctx} {fr:Fr} {tmps:Array Value} (h:mO c fr tmps) (hle:Le c c'):mO c' fr tmps:=
 ⟨h.1,fun t s hs=>let⟨v,h1,h2⟩:=h.2 t s hs;⟨v,h1,Den.le hle _ _ h2⟩⟩
def sQ:Nat->LoopState
 |0=> .ready
 |1=> .busy
 |_=> .done
noncomputable def jM (c:Code):Bool:=
 Code.rec (motive:=fun _=>Bool) true (fun _ _ _=>true) (fun _ _ a b=>Bool.rec false b a) (fun _ _ _ a b=>Bool.rec false b a) (fun _ _ a=>a) (fun _ a=>a) (fun _ _ _ _ _ _=>false) (fun _=>true)
  (fun _ a=>a) (fun _=>true) (fun _=>true) true (fun _=>true) c
structure sy (c:Ctx) (r:jz) (l:Loop):Prop where
 rN:mO c r.fr l.tmps
 ps:l.params=r.ps.toArray
 assign:l.assign=r.assign
 body:l.body=r.body
 state:l.state=sQ r.state
 lM:l.pending=r.lM
 one:jM r.assign=true
 two:jM r.body=true
def mR (c:Ctx) (es:List (SVal×SVal)) (l:List MapEntry):Prop:=
 l.length=es.length/\∀(i:Nat) (p:SVal×SVal),es[i]? =some p->∃e,l[i]? =some e/\Den c p.1 e.key/\Den c p.2 e.val
def ef (c:Ctx) (rows:List (List SVal)) (sz:Nat) (arr:Array Value):Prop:=
 ∀i row,rows[i]? =some row->row.length=sz/\∀j s,row[j]? =some s->∃v,arr[i*sz+j]? =some v/\v.oneCell'=true/\Den c s v
structure Hl (c:Ctx) (rows:List (List SVal)) (froz:Bool) (b sz:Nat) (u:Value) (w:World) (arr:Array Value) (e:TypeId) (cap:Nat):Prop where
 val:u= .slice (some ⟨b,0,none⟩) rows.length cap
 cells:w.heap[b]? =some (.cells arr e (0,0))
 size:arr.size=cap*sz
 fits:rows.length<=cap
 elems:ef c rows sz arr
 fz:∀i v,c.fz b i=some v->froz=true/\i<rows.length*sz
def eK (c:Ctx) (o:bm) (l:Loc) (w:World):Prop:=
 match o,l with
 | .cells cs,.box b=>∃arr e,w.heap[b]? =some (.cells arr e (0,0))/\aJ c cs arr.toList/\∀i v,c.fz b i≠some v
 | .still cs,.box b=>∃arr e,w.heap[b]? =some (.cells arr e (0,0))/\aJ c cs arr.toList/\∀(i:Nat) (v:Value),arr[i]? =some v->c.fz b i=some v
 | .row m rows s froz,.row ob st sz u=>st=s/\sz=m/\match ob with
  |none=>rows=[]/\∃a,u= .slice a 0 0
  |some b=>∃arr e cap,Hl c rows froz b sz u w arr e cap
 | .map es,.box b=>∃ents clock,w.heap[b]? =some (.map ents clock)/\mR c es ents.toList
 | .loop r,.box b=>∃x,w.heap[b]? =some (.loop x)/\sy c r x
 | .lR g cs,.row ob st _ u=>ob=some g/\st=0/\∃arr e f,u= .tuple #[.int .i64 (e:Nat),.int .i64 (f.1:Nat),.int .i64 (f.2:Nat)]/\w.heap[g]? =some (.cells arr e f)/\aJ c cs arr.toList
 |_,_=>False
def fN (c:Ctx) (H:gx) (r:Nat):Prop:=∃k o l,H k=some o/\c.ρ k=some l/\iR l=some r
structure dD (c:Ctx) (H:gx) (w:World):Prop where
 dF:∀k o,H k=some o->∃l,c.ρ k=some l/\eK c o l w
 sep:∀k j o o' l l' r,H k=some o->H j=some o'->k≠j->c.ρ k=some l->c.ρ j=some l'->iR l=some r->iR l'≠some r
 fz:∀b i v,c.fz b i=some v->∃arr e f,w.heap[b]? =some (.cells arr e f)/\arr[i]? =some v
structure Step (lo hi:Nat) (c:Ctx) (H:gx) (w:World) (c':Ctx) (H':gx) (w':World):Prop where
 le:Le c c'
 off:∀k,k<lo\/hi<=k->c.ρ k=none->c'.ρ k=none
 hid:∀k l,H k=none->c.ρ k=some l->H' k=none/\c'.ρ k=some l
 os:w'.os=w.os
 tape:w'.tape=w.tape
 output:w'.output=w.output
 size:w.heap.size<=w'.heap.size
 kept:∀r,r<w.heap.size->¬fN c H r->w'.heap[r]? =w.heap[r]?
 owns:∀r,fN c' H' r->fN c H r\/w.heap.size<=r
 wR:∀b i v,c'.fz b i=some v->c.fz b i=some v\/fN c H b\/w.heap.size<=b
def pk (c:Ctx) (lo hi:Nat):Prop:=∀k,lo<=k->k<hi->c.ρ k=none
structure eJ (st st':St):Prop where
 cB:st'.cB=st.cB
 mark:st'.mark=st.mark
 next:st.next<=st'.next
 log:∀n∈st.log,n∈st'.log
 same:∀k,k<st.next->k<st.mark->k∉st'.log->bx st'.heap k=bx st.heap k
 wf:(∀k,st.next<=k->bx st.heap k=none)->∀k,st'.next<=k->bx st'.heap k=none
 AO:∀n∈st'.log,n∈st.log\/(b8 n st.cB=false/\n<st.mark)
theorem eJ.refl (st:St):eJ st st:=⟨rfl,rfl,Tp _,fun _ h=>h,fun _ _ _ _=>rfl,fun h=>h,fun _ h=> .inl h⟩
theorem eJ.trans {a b c:St} (h:eJ a b) (k:eJ b c):eJ a c:=
 ⟨k.cB.trans h.cB,k.mark.trans h.mark,TR h.next k.next,fun n hn=>k.log n (h.log n hn),
  fun n h1 h2 h3=>(k.same n (Us h1 h.next) (h.mark▸h2) h3).trans (h.same n h1 h2 fun e=>h3 (k.log n e)),fun h0=>k.wf (h.wf h0),
  fun n hn=>(k.AO n hn).elim (h.AO n) (fun hb=> .inr ⟨h.cB▸hb.1,h.mark▸hb.2⟩)⟩
structure Wf (st:St):Prop where
 none:∀k,st.next<=k->bx st.heap k=none
 cB:∀k,b8 k st.cB=true->k<st.next
 mark:st.mark<=st.next
theorem Wf.eP {st st':St} (h:Wf st) (k:eJ st st'):Wf st':=⟨k.wf h.none,fun n hn=>Us (h.cB n (k.cB▸hn)) k.next,by rw[k.mark];exact TR h.mark k.next⟩
theorem Step.refl (n:Nat) (c:Ctx) (H:gx) (w:World):Step n n c H w c H w:=
 ⟨Le.refl c,fun _ _ h=>h,fun _ _ h h'=>⟨h,h'⟩,rfl,rfl,rfl,Tp _,fun _ _ _=>rfl,fun _ h=> .inl h,fun _ _ _ h=> .inl h⟩
theorem Step.trans' {lo hi:Nat} {c c1 c2:Ctx} {H H1 H2:gx} {w w1 w2:World} (h:Step lo hi c H w c1 H1 w1) (k:Step lo hi c1 H1 w1 c2 H2 w2):Step lo hi c H w c2 H2 w2 where
 le:=h.le.trans k.le
 off:=fun n hn e=>k.off n hn (h.off n hn e)
 hid:=fun n l e e'=>let⟨h1,h2⟩:=h.hid n l e e';k.hid n l h1 h2
 os:=k.os.trans h.os
 tape:=k.tape.trans h.tape
 output:=k.output.trans h.output
 size:=TR h.size k.size
 kept:=fun r hr hn=>(k.kept r (Us hr h.size) fun ho=>(h.owns r ho).elim hn (fun h'=>by omega)).trans (h.kept r hr hn)
 owns:=fun r ho=>(k.owns r ho).elim (h.owns r) (fun h'=> .inr (TR h.size h'))
 wR:=fun b i v e=>by
  rcases k.wR b i v e with h1|h1|h1
  ·exact h.wR b i v h1
  ·exact .inr (h.owns b h1)
  ·exact .inr (.inr (TR h.size h1))
theorem Step.wide {a b a' b':Nat} {c c':Ctx} {H H':gx} {w w':World} (h:Step a b c H w c' H' w') (h1:a'<=a) (h2:b<=b'):Step a' b' c H w c' H' w':=
 ⟨h.le,fun k hk=>h.off k ii,h.hid,h.os,h.tape,h.output,h.size,h.kept,h.owns,h.wR⟩
theorem Step.trans {a b d:Nat} {c c1 c2:Ctx} {H H1 H2:gx} {w w1 w2:World} (h:Step a b c H w c1 H1 w1) (k:Step b d c1 H1 w1 c2 H2 w2) (hab:a<=b) (hbd:b<=d):Step a d c H w c2 H2 w2:=
 (h.wide (Tp _) hbd).trans' (k.wide hab (Tp _))
theorem pk.mono {c:Ctx} {a b a' b':Nat} (h:pk c a b) (h1:a<=a') (h2:b'<=b):pk c a' b':=fun k hk hk'=>h k ii ii
theorem pk.step {a b d:Nat} {c c':Ctx} {H H':gx} {w w':World} (h:pk c a d) (k:Step a b c H w c' H' w') (hab:a<=b):pk c' b d:=fun n hn hn'=>k.off n ii (h n ii hn')
theorem mR.le {c c':Ctx} (h:Le c c') {es:List (SVal×SVal)} {l:List MapEntry} (k:mR c es l):mR c' es l:=
 ⟨k.1,fun i p hp=>let⟨e,h1,h2,h3⟩:=k.2 i p hp;⟨e,h1,Den.le h _ _ h2,Den.le h _ _ h3⟩⟩
theorem ef.le {c c':Ctx} (h:Le c c') {rows:List (List SVal)} {sz:Nat} {arr:Array Value} (k:ef c rows sz arr):ef c' rows sz arr:=fun i row hr=>
 ⟨(k i row hr).1,fun j s hs=>let⟨v,h1,h0,h2⟩:=(k i row hr).2 j s hs;⟨v,h1,h0,Den.le h _ _ h2⟩⟩
theorem sy.le {c c':Ctx} (h:Le c c') {r:jz} {l:Loop} (k:sy c r l):sy c' r l:=⟨k.rN.le h,k.ps,k.assign,k.body,k.state,k.lM,k.one,k.two⟩
theorem eK.sF {c c':Ctx} {o:bm} {l:Loc} {w w':World} (h:eK c o l w) (hle:Le c c') (hk:∀b,iR l=some b->w'.heap[b]? =w.heap[b]?) (hf:∀b,iR l=some b->∀i v,c'.fz b i=some v->c.fz b i=some v):eK c' o l w':=by
 cases o with
 |cells cs=>cases l with
  |row=>exact h.elim
  |box b=>
   obtain⟨arr,e,h1,h2,h3⟩:=h
   exact⟨arr,e,(hk b rfl).trans h1,aJ.le hle _ _ h2,fun i v hv=>h3 i v (hf b rfl i v hv)⟩
 |still cs=>cases l with
  |row=>exact h.elim
  |box b=>
   obtain⟨arr,e,h1,h2,h3⟩:=h
   exact⟨arr,e,(hk b rfl).trans h1,aJ.le hle _ _ h2,fun i v hv=>hle.fz _ _ _ (h3 i v hv)⟩
 |row m rows s froz=>cases l with
  |box b=>exact h.elim
  |row ob st sz u=>
   refine⟨h.1,h.2.1,?_⟩
   have h2:=h.2.2
   cases ob with
   |none=>exact h2
   |some b=>
    obtain⟨arr,e,cap,h3⟩:=h2
    exact⟨arr,e,cap,h3.val,(hk b rfl).trans h3.cells,h3.size,h3.fits,h3.elems.le hle,fun i v hv=>h3.fz i v (hf b rfl i v hv)⟩
 |map es=>cases l with
  |row=>exact h.elim
  |box b=>
   obtain⟨ents,clock,h1,h2⟩:=h
   exact⟨ents,clock,(hk b rfl).trans h1,h2.le hle⟩
 |loop r=>cases l with
  |row=>exact h.elim
  |box b=>
   obtain⟨x,h1,h2⟩:=h
   exact⟨x,(hk b rfl).trans h1,h2.le hle⟩
 |lR g cs=>cases l with
  |box=>exact h.elim
  |row ob st sz u=>
   obtain⟨h0,h3,arr,e,f,h4,h1,h2⟩:=h
   subst h0
   exact⟨rfl,h3,arr,e,f,h4,(hk g rfl).trans h1,aJ.le hle _ _ h2⟩
theorem eK.lt {c:Ctx} {o:bm} {l:Loc} {w:World} (h:eK c o l w) {b:Nat} (hb:iR l=some b):b<w.heap.size:=by
 have:∃x,w.heap[b]? =some x:=by
  cases o with
  |cells cs=>cases l with
   |row=>exact h.elim
   |box b=>cases hb;obtain⟨arr,e,h1,_⟩:=h;exact⟨_,h1⟩
  |still cs=>cases l with
   |row=>exact h.elim
   |box b=>cases hb;obtain⟨arr,e,h1,_⟩:=h;exact⟨_,h1⟩
  |row m rows s froz=>cases l with
   |box b=>exact h.elim
   |row ob st sz u=>cases hb;obtain⟨_,_,arr,e,cap,h1⟩:=h;exact⟨_,h1.cells⟩
  |map es=>cases l with
   |row=>exact h.elim
   |box b=>cases hb;obtain⟨ents,clock,h1,_⟩:=h;exact⟨_,h1⟩
  |loop r=>cases l with
   |row=>exact h.elim
   |box b=>cases hb;obtain⟨x,h1,_⟩:=h;exact⟨_,h1⟩
  |lR g cs=>cases l with
   |box=>exact h.elim
   |row ob st sz u=>obtain⟨h0,_,arr,e,f,_,h1,_⟩:=h;subst h0;cases hb;exact⟨_,h1⟩
 obtain⟨x,hx⟩:=this
 exact(TI.1 hx).1
theorem fN.lt {c:Ctx} {H:gx} {w:World} (h:dD c H w) {r:Nat} (k:fN c H r):r<w.heap.size:=by
 obtain⟨n,o,l,h1,h2,h3⟩:=k
 obtain⟨l',h4,h5⟩:=h.dF n o h1
 rw[h2] at h4
 cases h4
 exact h5.lt h3
theorem Cx {c:Ctx} {H:gx} {w:World} (h:dD c H w) {b i:Nat} {v:Value} (k:c.fz b i=some v):b<w.heap.size:=by
 obtain⟨arr,e,f,h1,_⟩:=h.fz b i v k
 exact(TI.1 h1).1
theorem dD.heap {c:Ctx} {H:gx} {w w':World} (h:dD c H w) (e:w'.heap=w.heap):dD c H w':=
 ⟨fun k o hk=>let⟨l,h1,h2⟩:=h.dF k o hk;⟨l,h1,h2.sF (Le.refl c) (fun b _=>by rw[e]) fun _ _ _ _ hv=>hv⟩,h.sep,fun b i v hv=>by rw[e];exact h.fz b i v hv⟩
theorem dD.draw {c:Ctx} {H:gx} {w:World} (h:dD c H w) (n:Nat):dD c H {w with drawn:=n}:=h.heap rfl
theorem Step.draw {lo hi:Nat} {c c':Ctx} {H H':gx} {w w':World} (h:Step lo hi c H w c' H' w') (n:Nat):Step lo hi c H w c' H' {w' with drawn:=n}:=
 ⟨h.le,h.off,h.hid,h.os,h.tape,h.output,h.size,h.kept,h.owns,h.wR⟩
theorem Step.drawn (lo:Nat) (c:Ctx) (H:gx) (w:World) (n:Nat):Step lo lo c H w c H {w with drawn:=n}:=(Step.refl lo c H w).draw n
theorem nJ (st:St) (o:bm) (m:Nat):bx (st.fresh o).heap m=if m=st.next then some o else bx st.heap m:=by
 show bx ((st.next,o)::st.heap) m=_
 rw[bZ]
 by_cases h:m=st.next
 ·rw[Th h,Th h.symm]
 ·rw[Ti h,Ti (UZ h)]
theorem dw (st:St) (o:bm):eJ st (st.fresh o):=by
 refine⟨rfl,rfl,U1 _,fun n hn=>hn,fun n h7 _ _=>by rw[nJ,Ti ii],fun hw n hn=> ?_,fun n hn=> .inl hn⟩
 have hn:st.next+1<=n:=hn
 rw[nJ,Ti ii]
 exact hw n ii
theorem gO (st:St) (o:bm) {m:Nat} (h:m≠st.next):(st.fresh o).look m=st.look m:=by
 rw[look_eq,look_eq,nJ,Ti h];rfl
def iq (c:Ctx) (k:Nat) (l:Loc):Ctx:=⟨fun n=>if n=k then some l else c.ρ n,c.fz⟩
theorem cI (c:Ctx) (k:Nat) (l:Loc):(iq c k l).ρ k=some l:=by simp[iq]
theorem gp (c:Ctx) {k n:Nat} (l:Loc) (h:n≠k):(iq c k l).ρ n=c.ρ n:=by simp[iq,h]
theorem qz {c:Ctx} {k:Nat} (l:Loc) (h:c.ρ k=none):Le c (iq c k l):=⟨fun n x e=>by
 by_cases e2:n=k
 ·subst e2;rw[h] at e;cases e
 ·exact⟨x,by rw[gp c l e2];exact e,dz.refl x⟩,fun _ _ _ h=>h⟩
structure df (w w':World):Prop where
 os:w'.os=w.os
 tape:w'.tape=w.tape
 output:w'.output=w.output
 size:w.heap.size<=w'.heap.size
 old:∀r,r<w.heap.size->w'.heap[r]? =w.heap[r]?
theorem df.refl (w:World):df w w:=⟨rfl,rfl,rfl,Tp _,fun _ _=>rfl⟩
theorem df.alloc (w:World) (o:Obj):df w (w.alloc o):=⟨rfl,rfl,rfl,by simp,fun r hr=>by show(w.heap.push o)[r]? =_;rw[Array.getElem?_push,Ti ii]⟩
theorem df.drew (w:World) (n:Nat):df w {w with drawn:=n}:=⟨rfl,rfl,rfl,Tp _,fun _ _=>rfl⟩
theorem df.trans {a b c:World} (h:df a b) (k:df b c):df a c:=
 ⟨k.os.trans h.os,k.tape.trans h.tape,k.output.trans h.output,TR h.size k.size,fun r hr=>(k.old r (Us hr h.size)).trans (h.old r hr)⟩
theorem gN {st:St} {o:bm} {c:Ctx} {w w':World} (hr:dD c st.look w) (hf:c.ρ st.next=none) (hwf:Wf st) {l:Loc} (g:df w w') (hl:∀b,iR l=some b->w.heap.size<=b) (ho:eK (iq c st.next l) o l w'):
  dD (iq c st.next l) (st.fresh o).look w'/\Step st.next (st.fresh o).next c st.look w (iq c st.next l) (st.fresh o).look w':=by
 have hle:=qz l hf
 have new:∀o',(st.fresh o).look st.next=some o'->o'=o:=fun o' hm=>by
  have:=(cR hm).1
  rw[nJ,Th rfl] at this
  exact(TD this).symm
 have nn:∀m o',st.look m=some o'->m≠st.next:=fun m o' hm e=>by
  have:=(cR hm).1
  rw[e,hwf.none _ (Tp _)] at this
  cases this
 refine⟨⟨fun m o' hm=> ?_,fun m j o1 o2 l1 l2 r hm hj hne h1 h2 hb1 hb2=> ?_,fun b i v hv=> ?_⟩,⟨hle,fun k hk e=> ?_,fun k l' e e'=> ?_,g.os,g.tape,g.output,g.size,fun r hr' _=>g.old r hr',fun r ⟨m,o',l',hm,h1,h2⟩=> ?_,fun _ _ _ h=> .inl h⟩⟩
 ·by_cases e:m=st.next
  ·subst e
   cases new _ hm
   exact⟨l,cI _ _ _,ho⟩
  ·rw[gO st o e] at hm
   obtain⟨l',h7,h8⟩:=hr.dF m o' hm
   exact⟨l',by rw[gp c l e];exact h7,h8.sF hle (fun b hb=>g.old b (h8.lt hb)) fun _ _ _ _ hv=>hv⟩
 ·by_cases e:m=st.next
  ·subst e
   rw[cI] at h1
   cases h1
   rw[gO st o (UZ hne)] at hj
   rw[gp c l (UZ hne)] at h2
   obtain⟨l3,h7,h8⟩:=hr.dF j o2 hj
   rw[h2] at h7
   cases h7
   have:=h8.lt hb2
   have:=hl r hb1
   omega
  ·rw[gO st o e] at hm
   rw[gp c l e] at h1
   by_cases e2:j=st.next
   ·subst e2
    rw[cI] at h2
    cases h2
    obtain⟨l3,h7,h8⟩:=hr.dF m o1 hm
    rw[h1] at h7
    cases h7
    have:=h8.lt hb1
    have:=hl r hb2
    omega
   ·rw[gO st o e2] at hj
    rw[gp c l e2] at h2
    exact hr.sep m j o1 o2 l1 l2 r hm hj hne h1 h2 hb1 hb2
 ·rw[g.old b (Cx hr hv)]
  exact hr.fz b i v hv
 ·rw[gp c l (by show k≠st.next;have:(st.fresh o).next=st.next+1:=rfl;omega)]
  exact e
 ·have hne:k≠st.next:=fun e2=>by subst e2;rw[hf] at e';cases e'
  exact⟨by rw[gO st o hne];exact e,by rw[gp c l hne];exact e'⟩
 ·by_cases e:m=st.next
  ·subst e
   rw[cI] at h1
   cases h1
   exact .inr (hl r h2)
  ·rw[gO st o e] at hm
   rw[gp c l e] at h1
   exact .inl ⟨m,o',l',hm,h1,h2⟩
theorem np (st:St) (k:Nat) (o:bm) (m:Nat):bx (st.put k o).heap m=if m=k then some o else bx st.heap m:=Dn k o m st.heap
theorem qo (st:St) (k:Nat) (m:Nat):bx (st.drop k).heap m=if m=k then none else bx st.heap m:=vW k m st.heap
theorem pV (st:St) (k:Nat):(∀n∈st.log,n∈st.note k)/\(k<st.mark->k∈st.note k):=by
 unfold St.note
 cases hb:Nat.ble (Nat.succ k) st.mark with
 |true=>exact⟨fun n hn=>Tm _ hn,fun _=>Tn⟩
 |false=>exact⟨fun n hn=>hn,fun h=>by have:=nT hb;omega⟩
theorem B0 {st:St} {k n:Nat} (h:n∈st.note k):n∈st.log\/(n=k/\n<st.mark):=by
 unfold St.note at h
 cases hb:Nat.ble (Nat.succ k) st.mark with
 |true=>
  rw[hb] at h
  rcases Tv.1 h with h|h
  ·exact .inr ⟨h,by rw[h];exact cT hb⟩
  ·exact .inl h
 |false=>rw[hb] at h;exact .inl h
theorem dt {st:St} {k:Nat} (o:bm) {o':bm} (hlk:st.look k=some o'):eJ st (st.put k o):=by
 have hk:=(cR hlk).1
 refine⟨rfl,rfl,Tp _,(pV st k).1,fun n _ hm hn=> ?_,fun hw n hn=> ?_,fun n hn=> ?_⟩
 ·rw[np,Ti (fun e=>by subst e;exact hn ((pV st n).2 hm))]
 ·rw[np,Ti (fun e=>by subst e;rw[hw n hn] at hk;cases hk)]
  exact hw n hn
 ·exact(B0 hn).imp id fun e=>⟨by rw[e.1];exact(cR hlk).2,e.2⟩
theorem L2 {st:St} {k:Nat} {o':bm} (hlk:st.look k=some o'):eJ st (st.drop k):=by
 refine⟨rfl,rfl,Tp _,(pV st k).1,fun n _ hm hn=> ?_,fun hw n hn=> ?_,fun n hn=> ?_⟩
 ·rw[qo,Ti (fun e=>by subst e;exact hn ((pV st n).2 hm))]
 ·rw[qo];split
  ·rfl
  ·exact hw n hn
 ·exact(B0 hn).imp id fun e=>⟨by rw[e.1];exact(cR hlk).2,e.2⟩
theorem KB {st:St} {k:Nat} (o:bm) {o':bm} (hlk:st.look k=some o'):(st.put k o).look k=some o:=by
 rw[look_eq,np,Th rfl,show(st.put k o).cB=st.cB from rfl,(cR hlk).2];rfl
theorem fF {st:St} {k m:Nat} (o:bm) (h:m≠k):(st.put k o).look m=st.look m:=by
 rw[look_eq,look_eq,np,Ti h];rfl
structure QP (b:Option Nat) (w w':World):Prop where
 os:w'.os=w.os
 tape:w'.tape=w.tape
 output:w'.output=w.output
 size:w.heap.size<=w'.heap.size
 old:∀r,r<w.heap.size->b≠some r->w'.heap[r]? =w.heap[r]?
theorem df.but {w w':World} (g:df w w') (b:Option Nat):QP b w w':=⟨g.os,g.tape,g.output,g.size,fun r hr _=>g.old r hr⟩
theorem eE {st:St} {k:Nat} {o o':bm} {c c':Ctx} {w w':World} {l l':Loc} (hr:dD c st.look w) (hk:st.look k=some o) (hl:c.ρ k=some l) (hl':c'.ρ k=some l') (hll:dz l l') (hρ:∀n,n≠k->c'.ρ n=c.ρ n)
  (hfz:∀b i v,c.fz b i=some v->c'.fz b i=some v) (hnew:∀b i v,c'.fz b i=some v->c.fz b i=some v\/iR l=some b) (hblk:∀r,iR l'=some r->iR l=some r\/w.heap.size<=r) (hw:QP (iR l) w w')
  (hok:∀b i v,iR l=some b->c'.fz b i=some v->∃arr e f,w'.heap[b]? =some (.cells arr e f)/\arr[i]? =some v) (ho:eK c' o' l' w'):
  dD c' (st.put k o').look w'/\Step st.next (st.put k o').next c st.look w c' (st.put k o').look w':=by
 have hle:Le c c':=⟨fun n x e=>by
  by_cases e2:n=k
  ·subst e2;rw[hl] at e;cases e;exact⟨l',hl',hll⟩
  ·exact⟨x,by rw[hρ n e2];exact e,dz.refl x⟩,hfz⟩
 obtain⟨l0,hl0,hat⟩:=hr.dF k o hk
 rw[hl] at hl0
 cases hl0
 have other:∀m om lm,m≠k->st.look m=some om->c.ρ m=some lm->∀b,iR lm=some b->iR l≠some b:=fun m om lm hm h1 h2 b hb e=>hr.sep k m o om l lm b hk h1 (UZ hm) hl h2 e hb
 refine⟨⟨fun m om hm=> ?_,fun m j o1 o2 l1 l2 r hm hj hne h1 h2 hb1 hb2=> ?_,fun b i v hv=> ?_⟩,⟨hle,fun n _ e=> ?_,fun n x e e'=> ?_,hw.os,hw.tape,hw.output,hw.size,fun r hr' hn=> ?_,fun r ⟨m,om,lm,hm,h1,h2⟩=> ?_,fun b i v hv=> ?_⟩⟩
 ·by_cases e:m=k
  ·subst e
   rw[KB o' hk] at hm
   cases hm
   exact⟨l',hl',ho⟩
  ·rw[fF o' e] at hm
   obtain⟨lm,h7,h8⟩:=hr.dF m om hm
   refine⟨lm,by rw[hρ m e];exact h7,h8.sF hle (fun b hb=>hw.old b (h8.lt hb) (other m om lm e hm h7 b hb)) fun b hb i v hv=> ?_⟩
   rcases hnew b i v hv with h|h
   ·exact h
   ·exact absurd h (other m om lm e hm h7 b hb)
 ·have one:∀m om lm r,m≠k->(st.put k o').look m=some om->c'.ρ m=some lm->iR lm=some r->iR l'≠some r:=fun m om lm r hm h1 h2 hb e=>by
   rw[fF o' hm] at h1
   rw[hρ m hm] at h2
   rcases hblk r e with h|h
   ·exact other m om lm hm h1 h2 r hb h
   ·obtain⟨l3,h7,h8⟩:=hr.dF m om h1
    rw[h2] at h7
    cases h7
    have:=h8.lt hb
    omega
  by_cases e:m=k
  ·subst e
   rw[hl'] at h1
   cases h1
   exact one j o2 l2 r (UZ hne) hj h2 hb2 hb1
  ·by_cases e2:j=k
   ·subst e2
    rw[hl'] at h2
    cases h2
    exact one m o1 l1 r e hm h1 hb1 hb2
   ·rw[fF o' e] at hm
    rw[fF o' e2] at hj
    rw[hρ m e] at h1
    rw[hρ j e2] at h2
    exact hr.sep m j o1 o2 l1 l2 r hm hj hne h1 h2 hb1 hb2
 ·rcases hnew b i v hv with h|h
  ·by_cases hb:iR l=some b
   ·exact hok b i v hb hv
   ·rw[hw.old b (Cx hr h) hb]
    exact hr.fz b i v h
  ·exact hok b i v h hv
 ·by_cases e2:n=k
  ·subst e2;rw[hl] at e;cases e
  ·rw[hρ n e2];exact e
 ·have hne:n≠k:=fun e2=>by subst e2;rw[hk] at e;cases e
  exact⟨by rw[fF o' hne];exact e,by rw[hρ n hne];exact e'⟩
 ·exact hw.old r hr' fun e=>hn ⟨k,o,l,hk,hl,e⟩
 ·by_cases e:m=k
  ·subst e
   rw[hl'] at h1
   cases h1
   exact(hblk r h2).imp (fun h=>⟨m,o,l,hk,hl,h⟩) id
  ·rw[fF o' e] at hm
   rw[hρ m e] at h1
   exact .inl ⟨m,om,lm,hm,h1,h2⟩
 ·exact(hnew b i v hv).imp id fun h=> .inl ⟨k,o,l,hk,hl,h⟩
theorem L3 {st:St} {k:Nat} {c:Ctx} {w:World} (hr:dD c st.look w):dD c (st.drop k).look w/\Step st.next (st.drop k).next c st.look w c (st.drop k).look w:=by
 have old:∀m o,(st.drop k).look m=some o->m≠k/\st.look m=some o:=fun m o hm=>by
  rw[look_eq,qo,show(st.drop k).cB=st.cB from rfl] at hm
  split at hm
  ·cases hm
  ·rename_i hb
   split at hm
   ·cases hm
   ·rename_i hne;exact⟨hne,by rw[look_eq,Ti hb];exact hm⟩
 refine⟨⟨fun m o hm=>hr.dF m o (old m o hm).2,fun m j o1 o2 l1 l2 r hm hj=>hr.sep m j o1 o2 l1 l2 r (old _ _ hm).2 (old _ _ hj).2,hr.fz⟩,
  ⟨Le.refl c,fun _ _ h=>h,fun n l e e'=>⟨?_,e'⟩,rfl,rfl,rfl,Tp _,fun _ _ _=>rfl,fun r ⟨m,o,l,hm,h1,h2⟩=> .inl ⟨m,o,l,(old _ _ hm).2,h1,h2⟩,fun _ _ _ h=> .inl h⟩⟩
 cases h:(st.drop k).look n with
 |none=>rfl
 |some o=>rw[(old n o h).2] at e;cases e
end Sv
namespace Sv
open Go Go.RowKit
inductive T (α:Type) where
 |nil
 |node (v:Option α) (l r:T α)
noncomputable def T.get {α:Type} (t:T α):Nat->Option α:=
 T.rec (motive:=fun _=>Nat->Option α) (fun _=>none)
  (fun v _ _ gl gr n=>Bool.rec (Bool.rec (gr (Nat.sub (Nat.div n 2) 1)) (gl (Nat.div n 2)) (Nat.beq (Nat.mod n 2) 1)) v (Nat.beq n 0)) t
structure Env where
 types:T TypeInfo
 funcs:T Func
 eqs:List TypeId
structure bt (P:Program) (E:Env):Prop where
 types:∀t i,E.types.get t=some i->P.info? t=some i
 funcs:∀f fn,E.funcs.get f=some fn->P.funcs[f]? =some fn/\(fn.name== "runtime.NumGoroutine")=false
 mixed:P.follows .mixedOrders=true
 eqs:∀t∈E.eqs,P.stoodInHeld t=false/\P.eqGuardType P.depth t=false
noncomputable def eH {α β:Type} (x:Option α) (f:α->Option β):Option β:=Option.rec (motive:=fun _=>Option β) none f x
noncomputable def yZ {α:Type} (b:Bool) (x:Option α):Option α:=Bool.rec (motive:=fun _=>Option α) none x b
theorem bf {α β:Type} {x:Option α} {f:α->Option β} {b:β}:eH x f=some b↔∃a,x=some a/\f a=some b:=by
 cases x with
 |none=>exact⟨fun h=>(by cases h),fun⟨_,h,_⟩=>(by cases h)⟩
 |some a=>exact⟨fun h=>⟨a,rfl,h⟩,fun⟨_,h,h2⟩=>(by cases h;exact h2)⟩
theorem eM {α:Type} {b:Bool} {x:Option α} {a:α}:yZ b x=some a↔b=true/\x=some a:=by
 cases b with
 |false=>exact⟨fun h=>(by cases h),fun⟨h,_⟩=>(by cases h)⟩
 |true=>exact⟨fun h=>⟨rfl,h⟩,fun h=>h.2⟩
section
variable (E:Env)
noncomputable def pF (i:TypeInfo):Option TypeDesc:=
 match i.desc with
 | .named _ u=>eH (E.types.get u) fun j=>some j.desc
 |d=>some d
noncomputable def under (t:TypeId):Option TypeDesc:=eH (E.types.get t) fun i=>pF E i
noncomputable def cQ (t:TypeId):Option Nat:=eH (E.types.get t) fun i=>some i.size
noncomputable def mL (t:TypeId):Option Nat:=eH (E.types.get t) fun i=>some i.bytes
noncomputable def RZ:TypeDesc->Bool
 | .struct _=>true
 | .array _ _=>true
 |_=>false
noncomputable def Kc:TypeDesc->Option TypeId
 | .slice e=>some e
 |_=>none
noncomputable def FN:TypeDesc->Option (List Field)
 | .struct fs=>some fs.toList
 |_=>none
noncomputable def IB:TypeDesc->Option (TypeId×TypeId)
 | .map k e=>some (k,e)
 |_=>none
noncomputable def MV (t:TypeId):Option Bool:=eH (under E t) fun d=>some (RZ d)
noncomputable def dr (t:TypeId):Option TypeId:=eH (under E t) Kc
noncomputable def rr (t:TypeId) (f:Nat):Option Field:=eH (eH (under E t) FN) fun fs=>fs[f]?
end
section
variable {P:Program} {E:Env} (hE:bt P E)
include hE
theorem bU {t:TypeId} {n:Nat} (h:cQ E t=some n):∃i,P.info? t=some i/\i.size=n/\∀w,(Go.sizeOf t).run P w= .ok n w:=by
 unfold cQ at h
 rw[bf] at h
 obtain⟨i,h1,h2⟩:=h
 cases h2
 have:=hE.types t i h1
 exact⟨i,this,rfl,fun w=>by simp[Go.sizeOf,typeInfo,this]⟩
theorem ik {t:TypeId} {n:Nat} (h:mL E t=some n):∃i,P.info? t=some i/\i.bytes=n:=by
 unfold mL at h
 rw[bf] at h
 obtain⟨i,h1,h2⟩:=h
 cases h2
 exact⟨i,hE.types t i h1,rfl⟩
theorem bO {t:TypeId} {d:TypeDesc} (h:under E t=some d):P.underlying t=some d:=by
 unfold under at h
 rw[bf] at h
 obtain⟨i,h1,h2⟩:=h
 have hi:=hE.types t i h1
 unfold pF at h2
 unfold Program.underlying
 rw[hi]
 obtain⟨d0,r⟩:=i
 cases d0<;>simp only at h2⊢<;>try exact h2
 rw[bf] at h2
 obtain⟨j,h3,h4⟩:=h2
 rw[hE.types _ j h3]
 exact h4
theorem yS {t:TypeId} {b:Bool} (h:MV E t=some b) (w:World):(isAgg t).run P w= .ok b w:=by
 unfold MV at h
 rw[bf] at h
 obtain⟨d,h1,h2⟩:=h
 cases h2
 have:=bO hE h1
 simp only[isAgg,Sem.run_bind,run_underlying this,Result.andThen_ok]
 cases d<;>rfl
theorem ck {t e:TypeId} (h:dr E t=some e):P.underlying t=some (.slice e):=by
 unfold dr at h
 rw[bf] at h
 obtain⟨d,h1,h2⟩:=h
 unfold Kc at h2
 split at h2
 ·cases h2;exact bO hE h1
 ·cases h2
theorem sg {t:TypeId} {f:Nat} {fd:Field} (h:rr E t f=some fd):∃fs,P.underlying t=some (.struct fs)/\fs[f]? =some fd:=by
 unfold rr at h
 rw[bf] at h
 obtain⟨l,h1,h2⟩:=h
 rw[bf] at h1
 obtain⟨d,h3,h4⟩:=h1
 unfold FN at h4
 split at h4
 ·cases h4
  exact⟨_,bO hE h3,by simpa using h2⟩
 ·cases h4
theorem xN {t:TypeId} {p:TypeId×TypeId} (h:eH (under E t) IB=some p):P.underlying t=some (.map p.1 p.2):=by
 rw[bf] at h
 obtain⟨d,h1,h2⟩:=h
 unfold IB at h2
 split at h2
 ·cases h2;exact bO hE h1
 ·cases h2
end
noncomputable def DD:Nat->Value->Option SVal
  |0,_=>none
  |d+1,v=>match v with
    | .bool b=>some (.bool b)
    | .int k n=>some (.int k n)
    | .string s=>some (.str s.data.toList)
    | .pointer none=>some .nilPtr
    | .slice none 0 0=>some .ax
    | .map none=>some .eA
    | .func (.func f) ⟨[]⟩ ⟨[]⟩=>some (.func (.func f) [] [])
    | .nilFunc=>some .fT
    | .nilIface=>some .nilIface
    | .agg ⟨a⟩=>(zH d a).map .agg
    | .tuple ⟨a⟩=>(zH d a).map .dT
    |_=>none
 where
  zH (d:Nat):List Value->Option (List SVal)
    |[]=>some []
    |v::r=>match DD d v with
      |none=>none
      |some s=>match zH d r with
        |none=>none
        |some l=>some (s::l)
theorem KY:∀(d:Nat),(∀(v:Value) (s:SVal),DD d v=some s->∀c,Den c s v)/\(∀(l:List Value) (ss:List SVal),DD.zH d l=some ss->∀c,aJ c ss l)
 |0=>by
  refine⟨fun v s h=>by simp[DD] at h,fun l=> ?_⟩
  cases l with
  |nil=>intro ss h c;simp[DD.zH] at h;subst h;rfl
  |cons v r=>intro ss h;simp[DD.zH,DD] at h
 |d+1=>by
  obtain⟨ih1,ih2⟩:=KY d
  have h1:∀(v:Value) (s:SVal),DD (d+1) v=some s->∀c,Den c s v:=by
   intro v s h c
   unfold DD at h
   split at h<;>first
    |(simp only[T8] at h;subst h;first|exact rfl|exact⟨[],[],rfl,rfl,rfl⟩)
    |(simp only[U7] at h;obtain⟨l,h1,rfl⟩:=h;exact⟨_,ih2 _ _ h1 c,rfl⟩)
    |cases h
  refine⟨h1,?_⟩
  intro l
  induction l with
  |nil=>intro ss h c;simp[DD.zH] at h;subst h;rfl
  |cons v r ih=>
   intro ss h c
   unfold DD.zH at h
   cases hv:DD (d+1) v with
   |none=>rw[hv] at h;cases h
   |some s=>
    rw[hv] at h
    cases hr:DD.zH (d+1) r with
    |none=>rw[hr] at h;cases h
    |some l=>rw[hr] at h;cases h;exact⟨_,_,h1 v s hv c,ih l hr c,rfl⟩
theorem zI {d:Nat} {v:Value} {s:SVal} (h:DD d v=some s) (c:Ctx):Den c s v:=(KY d).1 v s h c
noncomputable def iH (E:Env) (t:TypeId):Option SVal:=eH (E.types.get t) fun i=>eH i.zero fun v=>DD 4 v
theorem ey {P:Program} {E:Env} (hE:bt P E) {t:TypeId} {s:SVal} (h:iH E t=some s):∃i z,P.info? t=some i/\i.zero=some z/\(∀c,Den c s z)/\∀w,(zeroValue t).run P w= .ok z w:=by
 unfold iH at h
 rw[bf] at h
 obtain⟨i,h1,h2⟩:=h
 rw[bf] at h2
 obtain⟨z,h3,h4⟩:=h2
 have:=hE.types t i h1
 exact⟨i,z,this,h3,zI h4,fun w=>by simp[zeroValue,typeInfo,this,h3]⟩
theorem gu (b o n:Nat):Addr.add ⟨b,o,none⟩ n=⟨b,o+n,none⟩:=by
 unfold Addr.add
 split
 ·rename_i h;subst h;rfl
 ·rfl
inductive lA (st:St):SVal->List SVal->Prop where
 |box {k off:Nat} {l:List SVal}:st.look k=some (.cells l)->lA st (.ptr k off) (l.drop off)
 |still {k off:Nat} {l:List SVal}:st.look k=some (.still l)->lA st (.ptr k off) (l.drop off)
 |row {k s i off:Nat} {m:Nat} {rows:List (List SVal)} {row:List SVal} {z:Bool}:st.look k=some (.row m rows s z)->rows[i]? =some row->lA st (.fq k s i off) (row.drop off)
 |elem {row:List SVal} {off:Nat}:lA st (.bN row off) (row.drop off)
theorem SS {st:St} {c:Ctx} {w:World} (hr:dD c st.look w) {k b:Nat} {cs:List SVal} (h:st.look k=some (.cells cs)) (hb:c.ρ k=some (.box b)):
  ∃arr e,w.heap[b]? =some (.cells arr e (0,0))/\aJ c cs arr.toList/\∀i v,c.fz b i≠some v:=by
 obtain⟨l',h1,h2⟩:=hr.dF k _ h
 rw[hb] at h1
 cases h1
 exact h2
theorem tW {st:St} {c:Ctx} {w:World} (hr:dD c st.look w) {k s m:Nat} {rows:List (List SVal)} {z:Bool} (h:st.look k=some (.row m rows s z)) {ob:Option Nat} {s' sz:Nat} {u:Value} (hb:c.ρ k=some (.row ob s' sz u)):
  s'=s/\sz=m/\((ob=none/\rows=[]/\∃a,u= .slice a 0 0)\/∃b arr e cap,ob=some b/\Hl c rows z b sz u w arr e cap):=by
 obtain⟨l',h1,h2⟩:=hr.dF k _ h
 rw[hb] at h1
 cases h1
 refine⟨h2.1,h2.2.1,?_⟩
 have h3:=h2.2.2
 cases ob with
 |none=>exact .inl ⟨rfl,h3⟩
 |some b=>obtain⟨arr,e,cap,h3⟩:=h3;exact .inr ⟨b,arr,e,cap,rfl,h3⟩
theorem lA.spec {st:St} {c:Ctx} {w:World} (hr:dD c st.look w) {p:SVal} {l:List SVal} (h:lA st p l) {v:Value} (hd:Den c p v):
  ∃b o,v= .pointer (some ⟨b,o,none⟩)/\∀j s,l[j]? =some s->∃u,w.cell? ⟨b,o+j,none⟩=some u/\Den c s u:=by
 cases h with
 |box h1=>
  rename_i k off cs
  obtain⟨b,h3,rfl⟩:=hd
  obtain⟨arr,e,h5,h6,h7⟩:=SS hr h1 h3
  refine⟨b,off,rfl,fun j s hs=> ?_⟩
  rw[Uw] at hs
  obtain⟨u,hu,hd⟩:=h6.get hs
  exact⟨u,by simpa[World.cell?,h5] using hu,hd⟩
 |still h1=>
  rename_i k off cs
  obtain⟨b,h3,rfl⟩:=hd
  obtain⟨l',h5,h6⟩:=hr.dF _ _ h1
  rw[h3] at h5
  cases h5
  obtain⟨arr,e,h5,h6,h7⟩:=h6
  refine⟨b,off,rfl,fun j s hs=> ?_⟩
  rw[Uw] at hs
  obtain⟨u,hu,hd⟩:=h6.get hs
  exact⟨u,by simpa[World.cell?,h5] using hu,hd⟩
 |row h1 h3=>
  rename_i k s i off m rows row z
  obtain⟨_,ob,st',sz,u,h5,h6,h7⟩:=hd
  obtain⟨rfl,rfl,h8|⟨b,arr,e,cap,rfl,h9⟩⟩:=tW hr h1 h5
  ·obtain⟨rfl,rfl,_⟩:=h8
   simp at h3
  ·obtain⟨r,e1,rfl⟩:=h7 rfl
   cases e1
   obtain⟨h10,h11⟩:=h9.elems i row h3
   refine⟨b,_,rfl,fun j t ht=> ?_⟩
   rw[Uw] at ht
   obtain⟨v,h12,_,h13⟩:=h11 _ t ht
   exact⟨v,by simp only[World.cell?,h9.cells];rw[<-h12];simp[UG],h13⟩
 |elem=>
  rename_i row off
  obtain⟨b,base,rfl,h1⟩:=hd
  refine⟨b,_,rfl,fun j s hs=> ?_⟩
  rw[Uw] at hs
  obtain⟨u,h2,_,h3⟩:=h1.get hs
  obtain⟨arr,e,f,h4,h5⟩:=hr.fz _ _ _ h2
  exact⟨u,by simp only[World.cell?,h4];rw[<-h5];simp[UG],h3⟩
theorem I4 {P:Program} {c:Ctx} {w:World} {b o:Nat} {l:List SVal} (h:∀j s,l[j]? =some s->∃u,w.cell? ⟨b,o+j,none⟩=some u/\Den c s u) {n:Nat} (hn:n<=l.length):
  ∃vs,aJ c (l.take n) vs/\vs.length=n/\(loadCells ⟨b,o,none⟩ n).run P w= .ok vs.toArray w:=by
 have key:∀j,j<n->∃s u,l[j]? =some s/\w.cell? ⟨b,o+j,none⟩=some u/\Den c s u:=fun j hj=>by
  have hj':j<l.length:=by omega
  obtain⟨u,h1,h2⟩:=h j _ (Tj hj')
  exact⟨_,u,Tj hj',h1,h2⟩
 have hlen:((List.range n).map fun j=>(w.cell? ⟨b,o+j,none⟩).getD undef).length=n:=by simp
 refine⟨(List.range n).map fun j=>(w.cell? ⟨b,o+j,none⟩).getD undef,aJ.oR (by simp[hn]) fun i s hs=> ?_,by simp,?_⟩
 ·rw[Ut] at hs
  split at hs
  ·rename_i hi
   obtain⟨s',u,h1,h2,h3⟩:=key i hi
   rw[h1] at hs
   cases hs
   exact⟨u,by simp[hi,h2],h3⟩
  ·cases hs
 ·have:=run_loadCells_list (P:=P) w ⟨b,o,none⟩ ((List.range n).map fun j=>(w.cell? ⟨b,o+j,none⟩).getD undef) fun j v hv=>by
   have hj:j<n:=by have:=(Tk.1 hv).1;simpa using this
   obtain⟨s,u,h1,h2,h3⟩:=key j hj
   simp only[TO,Vy hj,UK,h2,VS,T8] at hv
   subst hv
   rw[gu]
   exact h2
  rw[hlen] at this
  exact this
noncomputable def r7 (E:Env) (t:TypeId) (l:List SVal):Option SVal:=
 eH (MV E t) fun b=>Bool.rec (l[0]?) (eH (cQ E t) fun n=>yZ (Nat.ble n l.length) (some (.agg (l.take n)))) b
theorem uG {P:Program} {E:Env} (hE:bt P E) {t:TypeId} {c:Ctx} {w:World} {b o:Nat} {l:List SVal} (h:∀j s,l[j]? =some s->∃u,w.cell? ⟨b,o+j,none⟩=some u/\Den c s u) {s:SVal} (hl:r7 E t l=some s):
  ∃v,Den c s v/\(loadVar t ⟨b,o,none⟩).run P w= .ok v w:=by
 unfold r7 at hl
 rw[bf] at hl
 obtain⟨g,h1,h2⟩:=hl
 have ha:=yS hE h1 w
 cases g with
 |false=>
  obtain⟨u,h3,h4⟩:=h 0 s h2
  refine⟨u,h4,?_⟩
  rw[Ur] at h3
  simp only[loadVar,Sem.run_bind,ha,Result.andThen_ok,Uz,Vk,load,Sem.run,h3]
 |true=>
  have h2:eH (cQ E t) (fun n=>yZ (Nat.ble n l.length) (some (.agg (l.take n))))=some s:=h2
  rw[bf] at h2
  obtain⟨n,h3,h4⟩:=h2
  rw[eM] at h4
  obtain⟨h5,h6⟩:=h4
  cases h6
  obtain⟨i,_,_,hs⟩:=bU hE h3
  obtain⟨vs,h7,h8,h9⟩:=I4 (P:=P) h (cT h5)
  refine⟨.agg vs.toArray,⟨vs,h7,rfl⟩,?_⟩
  simp only[loadVar,Sem.run_bind,ha,Result.andThen_ok,Vx,hs w,h9]
  rfl
noncomputable def uq (E:Env) (t:TypeId) (l:List SVal) (off:Nat):Option SVal:=r7 E t (l.drop off)
theorem gH {P:Program} {E:Env} (hE:bt P E) {t:TypeId} {c:Ctx} {l:List SVal} {vs:List Value} {off:Nat} {s:SVal} (h:uq E t l off=some s) (hd:aJ c l vs):
  ∃v,Den c s v/\∀w,(part t vs.toArray off).run P w= .ok v w:=by
 unfold uq r7 at h
 rw[bf] at h
 obtain⟨b,h1,h2⟩:=h
 have ha:=yS hE h1
 cases b with
 |false=>
  have h2':(l.drop off)[0]? =some s:=h2
  rw[Uw] at h2'
  obtain⟨v,h3,h4⟩:=hd.get h2'
  refine⟨v,h4,fun w=> ?_⟩
  rw[Ur] at h3
  simp only[part,Sem.run_bind,ha w,Result.andThen_ok,Uz,Vk,UY,h3]
  rfl
 |true=>
  have h2':eH (cQ E t) (fun n=>yZ (Nat.ble n (l.drop off).length) (some (.agg ((l.drop off).take n))))=some s:=h2
  rw[bf] at h2'
  obtain⟨n,h3,h4⟩:=h2'
  rw[eM] at h4
  obtain⟨h5,h6⟩:=h4
  cases h6
  obtain⟨i,_,_,hs⟩:=bU hE h3
  refine⟨.agg ((vs.drop off).take n).toArray,⟨_,(hd.drop off).take n,rfl⟩,fun w=> ?_⟩
  simp only[part,Sem.run_bind,ha w,Result.andThen_ok,Vx,hs w]
  simp
end Sv
namespace Sv
open Go
namespace T
variable {α:Type}
noncomputable def left (t:T α):T α:=T.rec (motive:=fun _=>T α) .nil (fun _ l _ _ _=>l) t
noncomputable def right (t:T α):T α:=T.rec (motive:=fun _=>T α) .nil (fun _ _ r _ _=>r) t
noncomputable def top (t:T α):Option α:=T.rec (motive:=fun _=>Option α) none (fun v _ _ _ _=>v) t
noncomputable def mkL (v:Option α) (r:T α) (c:T α):T α:=T.rec (motive:=fun _=>T α) (.node v .nil r) (fun v' l' r' _ _=> .node v (.node v' l' r') r) c
noncomputable def mkR (v:Option α) (l:T α) (c:T α):T α:=T.rec (motive:=fun _=>T α) (.node v l .nil) (fun v' l' r' _ _=> .node v l (.node v' l' r')) c
noncomputable def Ea (x:Option α) (d:Nat):T α->Nat->T α:=
 Nat.rec (motive:=fun _=>T α->Nat->T α) (fun t _=>t)
  (fun _ ih t n=>Bool.rec (Bool.rec (mkR t.top t.left (ih t.right (Nat.sub (Nat.div n 2) 1))) (mkL t.top t.right (ih t.left (Nat.div n 2))) (Nat.beq (Nat.mod n 2) 1))
   (.node x t.left t.right) (Nat.beq n 0)) d
noncomputable def set(t:T α) (n:Nat) (x:α):Option (T α):=
 Bool.rec (some (Ea (some x) 20 t n)) none (Nat.ble 1048575 n)
noncomputable def lay (t:T α) (i:Nat) (l:List α):Option (T α):=
 List.rec (motive:=fun _=>T α->Nat->Option (T α)) (fun t _=>some t)
  (fun a _ ih t i=>Option.rec none (fun t'=>ih t' (Nat.succ i)) (t.set i a)) l t i
theorem get_nil (n:Nat):(T.nil:T α).get n=none:=rfl
theorem qi (v:Option α) (l r:T α) (n:Nat):
  (T.node v l r).get n=if n=0 then v else if n % 2=1 then l.get (n/2) else r.get (n/2-1):=by
 show @Bool.rec (fun _=>Option α) (@Bool.rec (fun _=>Option α) (r.get (Nat.sub (Nat.div n 2) 1)) (l.get (Nat.div n 2)) (Nat.beq (Nat.mod n 2) 1)) v (Nat.beq n 0)=_
 by_cases h:n=0
 ·subst h;rfl
 ·rw[Ti h,pg h]
  by_cases h2:n % 2=1
  ·rw[Th h2,show Nat.beq (Nat.mod n 2) 1=true from rE h2];rfl
  ·rw[Ti h2,show Nat.beq (Nat.mod n 2) 1=false from pg h2];rfl
theorem rn (t:T α) (n:Nat):t.get n=if n=0 then t.top else if n % 2=1 then t.left.get (n/2) else t.right.get (n/2-1):=by
 cases t with
 |nil=>simp[get_nil,top,left,right]
 |node v l r=>exact qi v l r n
theorem RO (v:Option α) (r c:T α):mkL v r c= .node v c r:=by cases c<;>rfl
theorem RN (v:Option α) (l c:T α):mkR v l c= .node v l c:=by cases c<;>rfl
theorem HW (x:Option α) (d:Nat) (t:T α) (n:Nat):
  Ea x (d+1) t n=if n=0 then .node x t.left t.right else if n % 2=1 then .node t.top (Ea x d t.left (n/2)) t.right else .node t.top t.left (Ea x d t.right (n/2-1)):=by
 show @Bool.rec (fun _=>T α) (@Bool.rec (fun _=>T α) (mkR t.top t.left (Ea x d t.right (Nat.sub (Nat.div n 2) 1))) (mkL t.top t.right (Ea x d t.left (Nat.div n 2))) (Nat.beq (Nat.mod n 2) 1)) (.node x t.left t.right) (Nat.beq n 0)=_
 by_cases h:n=0
 ·subst h;rfl
 ·rw[Ti h,pg h]
  by_cases h2:n % 2=1
  ·rw[Th h2,show Nat.beq (Nat.mod n 2) 1=true from rE h2];exact RO ..
  ·rw[Ti h2,show Nat.beq (Nat.mod n 2) 1=false from pg h2];exact RN ..
theorem u4 (x:Option α):∀(d:Nat) (t:T α) (n m:Nat),n+2<=2^d->(Ea x d t n).get m=if m=n then x else t.get m
 |0,_,n,_,h=>by simp at h
 |d+1,t,n,m,h=>by
  rw[HW]
  have hp:2^(d+1)=2*2^d:=by rw[Nat.pow_succ];omega
  by_cases h0:n=0
  ·subst h0
   rw[Th rfl,qi,rn t m]
   by_cases hm:m=0<;>simp[hm]
  ·rw[Ti h0]
   by_cases h1:n % 2=1
   ·rw[Th h1,qi,rn t m]
    by_cases hm:m=0
    ·simp[hm];omega
    ·rw[Ti hm,Ti hm]
     by_cases hm1:m % 2=1
     ·rw[Th hm1,Th hm1,u4 x d _ _ _ ii]
      by_cases e:m=n
      ·subst e;simp
      ·rw[Ti e,Ti ii]
     ·rw[Ti hm1,Ti hm1,Ti (by intro e;subst e;exact hm1 h1)]
   ·rw[Ti h1,qi,rn t m]
    by_cases hm:m=0
    ·simp[hm];omega
    ·rw[Ti hm,Ti hm]
     by_cases hm1:m % 2=1
     ·rw[Th hm1,Th hm1,Ti (by intro e;subst e;exact h1 hm1)]
     ·rw[Ti hm1,Ti hm1,u4 x d _ _ _ ii]
      by_cases e:m=n
      ·subst e;simp
      ·rw[Ti e,Ti ii]
theorem fm {t t':T α} {n:Nat} {x:α} (h:t.set n x=some t') (m:Nat):t'.get m=if m=n then some x else t.get m:=by
 unfold set at h
 cases hb:Nat.ble 1048575 n with
 |true=>rw[hb] at h;cases h
 |false=>
  rw[hb] at h
  cases h
  refine u4 _ 20 t n m ?_
  have:¬1048575<=n:=fun hl=>by rw[UX hl] at hb;cases hb
  have e:(2:Nat)^20=1048576:=by decide
  omega
theorem OO (t:T α) (i:Nat):t.lay i ([]:List α)=some t:=rfl
theorem Lj (t:T α) (i:Nat) (a:α) (l:List α):t.lay i (a::l)=eH (t.set i a) fun t'=>t'.lay (i+1) l:=by
 rfl
theorem uR:∀{l:List α} {t t':T α} {i:Nat},t.lay i l=some t'->∀m,t'.get m=if i<=m/\m<i+l.length then l[m-i]? else t.get m
 |[],t,t',i,h,m=>by
  rw[OO] at h
  cases h
  rw[Ti (by simp)]
 |a::l,t,t',i,h,m=>by
  rw[Lj,bf] at h
  obtain⟨t1,h1,h2⟩:=h
  rw[uR h2 m]
  have h3:=fm h1 m
  by_cases e:m=i
  ·subst e
   rw[Ti ii,Th (by simp),h3,Th rfl]
   simp
  ·by_cases c:i+1<=m/\m<i+1+l.length
   ·rw[Th c,Th (by simp;omega)]
    have:m-i=(m-(i+1))+1:=by omega
    rw[this];simp
   ·rw[Ti c,Ti (by simp;omega),h3,Ti e]
end T
end Sv
namespace Sv
open Go Go.RowKit
noncomputable def over (l:List SVal) (off:Nat) (v:List SVal):List SVal:=
 match v with
 |[x]=>l.set off x
 |v=>l.take off++(v++l.drop (off+v.length))
theorem pU (l:List SVal) (off:Nat) (v:List SVal) (h:off+v.length<=l.length):over l off v=l.take off++(v++l.drop (off+v.length)):=by
 unfold over
 split
 ·rename_i x
  simp only[TQ] at h⊢
  rw[List.set_eq_take_append_cons_drop,Th ii]
  rfl
 ·rfl
theorem rW (l:List SVal) (off:Nat) (v:List SVal) (h:off+v.length<=l.length):(over l off v).length=l.length:=by
 rw[pU l off v h];simp;omega
theorem uu {α:Type} (l:List α) (off:Nat) (v:List α) (h:off+v.length<=l.length) (i:Nat):
  (l.take off++(v++l.drop (off+v.length)))[i]? =if i<off then l[i]? else if i<off+v.length then v[i-off]? else l[i]? :=by
 by_cases c1:i<off
 ·rw[Th c1,TE (by simp;omega),Ut,Th c1]
 ·rw[Ti c1]
  by_cases c2:i<off+v.length
  ·rw[Th c2,TG (by simp;omega),TE (by simp;omega)]
   congr 1;simp;omega
  ·rw[Ti c2,TG (by simp;omega),TG (by simp;omega),Uw]
   congr 1;simp;omega
theorem D8 (w:World) (g:Nat) (a:Array Value):QP (some g) w (w.setRow g a):=by
 refine⟨rfl,rfl,rfl,by simp[World.setRow],fun k hk hne=> ?_⟩
 have:g≠k:=fun e=>hne (by rw[e])
 simp[World.setRow,Array.getElem?_modify,this]
noncomputable def stored (w:World) (b off:Nat) (arr:Array Value) (vs:List Value):World:=w.setRow b (arr.toList.take off++(vs++arr.toList.drop (off+vs.length))).toArray
theorem kR {w:World} {b off:Nat} {arr:Array Value} {e:TypeId} {vs:List Value} (h:w.heap[b]? =some (.cells arr e (0,0))) (hfit:off+vs.length<=arr.size) (hone:∀v∈vs,v.oneCell'=true):
  (∀P:Program,(storeCells ⟨b,off,none⟩ vs).run P w= .ok () (stored w b off arr vs))/\QP (some b) w (stored w b off arr vs)/\
   (stored w b off arr vs).heap[b]? =some (.cells (arr.toList.take off++(vs++arr.toList.drop (off+vs.length))).toArray e (0,0)):=by
 refine⟨fun P=> ?_,D8 w b _,setRow_heap w b arr _ e (0,0) h⟩
 have:=run_storeCells_at P b off e vs 0 arr w h ii hone
 simp only[Ur] at this
 rw[this]
 unfold stored
 rw[TP]
theorem IQ {c:Ctx} {rows:List (List SVal)} {sz:Nat} {arr arr':Array Value} (h:ef c rows sz arr) {i off:Nat} {row:List SVal} (hi:rows[i]? =some row) {v:List SVal} {vs:List Value} (hd:aJ c v vs) (hone:∀u∈vs,u.oneCell'=true) (hfit:off+v.length<=row.length)
  (ha:∀j,arr'[j]? =if j<i*sz+off then arr[j]? else if j<i*sz+off+vs.length then vs[j-(i*sz+off)]? else arr[j]?):ef c (rows.set i (over row off v)) sz arr':=by
 have hlv:=hd.length
 obtain⟨hsz,hrow⟩:=h i row hi
 have hlt:i<rows.length:=(Tk.1 hi).1
 intro j r hr
 rw[Ud] at hr
 by_cases e:i=j
 ·subst e
  rw[Th rfl,Th hlt] at hr
  cases hr
  refine⟨by rw[rW _ _ _ hfit];exact hsz,fun m s hs=> ?_⟩
  rw[pU _ _ _ hfit,uu _ _ _ hfit] at hs
  rw[ha]
  by_cases c1:m<off
  ·rw[Th c1] at hs
   rw[Th ii]
   exact hrow m s hs
  ·rw[Ti c1] at hs
   by_cases c2:m<off+v.length
   ·rw[Th c2] at hs
    obtain⟨u,h1,h2⟩:=hd.get hs
    rw[Ti ii,Th ii]
    exact⟨u,by rw[<-h1];congr 1;omega,hone u (Ts h1),h2⟩
   ·rw[Ti c2] at hs
    rw[Ti ii,Ti ii]
    exact hrow m s hs
 ·rw[Ti e] at hr
  refine⟨(h j r hr).1,fun m s hs=> ?_⟩
  obtain⟨h3,h4⟩:=h j r hr
  have hm:m<sz:=by rw[<-h3];exact(Tk.1 hs).1
  rw[ha]
  rcases Nat.lt_or_gt_of_ne e with hlt'|hlt'
  ·have:(i+1)*sz<=j*sz:=UA _ hlt'
   rw[Um,U5] at this
   rw[Ti ii,Ti ii]
   exact h4 m s hs
  ·have:(j+1)*sz<=i*sz:=UA _ hlt'
   rw[Um,U5] at this
   rw[Th ii]
   exact h4 m s hs
inductive Ns (st:St):SVal->List SVal->St->Prop where
 |box {k off:Nat} {l v:List SVal}:st.look k=some (.cells l)->off+v.length<=l.length->Ns st (.ptr k off) v (st.put k (.cells (over l off v)))
 |row {k s i off m:Nat} {rows:List (List SVal)} {row v:List SVal}:st.look k=some (.row m rows s false)->rows[i]? =some row->off+v.length<=row.length->Ns st (.fq k s i off) v (st.put k (.row m (rows.set i (over row off v)) s false))
theorem Ns.eP {st st':St} {p:SVal} {v:List SVal} (h:Ns st p v st'):eJ st st':=by
 cases h with
 |box h _=>exact dt _ h
 |row h _ _=>exact dt _ h
theorem Ns.next {st st':St} {p:SVal} {v:List SVal} (h:Ns st p v st'):st'.next=st.next:=by cases h<;>rfl
theorem Ns.ok {st st':St} {p:SVal} {v:List SVal} (h:Ns st p v st') {c:Ctx} {w:World} (hr:dD c st.look w) {u:Value} (hp:Den c p u) {vs:List Value} (hd:aJ c v vs) (hf:sd v):
  ∃b o w',u= .pointer (some ⟨b,o,none⟩)/\(∀P:Program,(storeCells ⟨b,o,none⟩ vs).run P w= .ok () w')/\dD c st'.look w'/\Step st.next st'.next c st.look w c st'.look w':=by
 have hl:=hd.length
 cases h with
 |box hk hfit=>
  rename_i k off l
  obtain⟨b,h1,rfl⟩:=hp
  obtain⟨l',h2,h3⟩:=hr.dF _ _ hk
  rw[h1] at h2
  cases h2
  obtain⟨arr,e,h4,h5,h6⟩:=h3
  have hal:arr.size=l.length:=by simpa using h5.length
  obtain⟨g1,g2,g3⟩:=kR (off:=off) h4 ii (kG hf hd)
  obtain⟨r1,r2⟩:=eE (o':= .cells (over l off v)) hr hk h1 h1 (dz.refl _) (fun _ _=>rfl) (fun _ _ _ h=>h) (fun _ _ _ h=> .inl h) (fun r hr=> .inl hr) g2 (fun b' i x hb hx=>by cases hb;exact absurd hx (h6 i x)) ⟨_,e,g3,by
   rw[pU l off v hfit]
   refine aJ.append.2 ⟨_,_,h5.take off,aJ.append.2 ⟨_,_,hd,h5.drop _,rfl⟩,?_⟩
   rw[hl],h6⟩
  exact⟨b,off,_,rfl,g1,r1,r2⟩
 |row hk hi hfit=>
  rename_i k s i off m rows row
  obtain⟨_,ob,st0,sz,u0,h1,h2,h3⟩:=hp
  obtain⟨l',h4,h5⟩:=hr.dF _ _ hk
  rw[h1] at h4
  cases h4
  obtain⟨rfl,rfl,h5⟩:=h5
  obtain⟨b,rfl,rfl⟩:=h3 rfl
  obtain⟨arr,e,cap,h5⟩:=h5
  have hlt:i<rows.length:=(Tk.1 hi).1
  have hrow:=(h5.elems i row hi).1
  have hle:(i+1)*sz<=cap*sz:=UA _ (by have:=h5.fits;omega)
  rw[Um,U5] at hle
  have hsz:=h5.size
  obtain⟨g1,g2,g3⟩:=kR (off:=i*sz+off) h5.cells ii (kG hf hd)
  have hobj:eK c (.row sz (rows.set i (over row off v)) st0 false) (.row (some b) st0 sz u0) (stored w b (i*sz+off) arr vs):=by
   refine⟨rfl,rfl,_,e,cap,⟨by rw[h5.val,Tx],g3,by simp;omega,by rw[Tx];exact h5.fits,?_,fun j x hx=> ?_⟩⟩
   ·refine IQ h5.elems hi hd (kG hf hd) hfit fun j=> ?_
    rw[UY,uu _ _ _ (by simp;omega)]
    simp
   ·have:=(h5.fz j x hx).1
    cases this
  obtain⟨r1,r2⟩:=eE hr hk h1 h1 (dz.refl _) (fun _ _=>rfl) (fun _ _ _ h=>h) (fun _ _ _ h=> .inl h) (fun r hr=> .inl hr) g2
   (fun b' j x hb hx=>by cases hb;have:=(h5.fz j x hx).1;cases this) hobj
  exact⟨b,i*sz+off,_,rfl,g1,r1,r2⟩
structure Good (st st':St) (s:SVal) (c:Ctx) (w:World) (c':Ctx) (v:Value) (w':World):Prop where
 val:Den c' s v
 rep:dD c' st'.look w'
 step:Step st.next st'.next c st.look w c' st'.look w'
def mP (P:Program) (S:Sem Value) (st st':St) (s:SVal) (c:Ctx) (w:World):Prop:=∃c' v w',S.run P w= .ok v w'/\Good st st' s c w c' v w'
theorem mP.same {P:Program} {S:Sem Value} {st:St} {s:SVal} {c:Ctx} {w:World} {v:Value} (hr:dD c st.look w) (h:S.run P w= .ok v w) (hd:Den c s v):mP P S st st s c w:=
 ⟨c,v,w,h,hd,hr,Step.refl _ _ _ _⟩
abbrev jA:=Operand->Option SVal
def dG (P:Program) (o:Oper) (e:Operand->Value) (st st':St) (s:SVal) (c:Ctx) (w:World):Prop:=
 ∀(a:Act) (next:Act->World->Prop) (Q:Exit->Act->World->Prop),(∀c' v w',Good st st' s c w c' v w'->next (a.put o.dst v) w')->o.uponIn Fence.wide 0 P a next Q ((execOp e o).run P w)
theorem dG.val {P:Program} {o:Oper} {e:Operand->Value} {st st':St} {s:SVal} {c:Ctx} {w:World} {S:Sem Value} (he:execOp e o=(do pure (.value (<-S)):Sem Next)) (h:mP P S st st' s c w):dG P o e st st' s c w:=by
 intro a next Q hn
 obtain⟨c',v,w',h1,h2⟩:=h
 rw[he,Sem.run_bind,h1,Result.andThen_ok,Sem.run_pure]
 exact hn c' v w' h2
theorem dG.same {P:Program} {o:Oper} {e:Operand->Value} {st:St} {s:SVal} {c:Ctx} {w:World} {v:Value} (hr:dD c st.look w) (h:(execOp e o).run P w= .ok (.value v) w) (hd:Den c s v):dG P o e st st s c w:=by
 intro a next Q hn
 rw[h]
 exact hn c v w ⟨hd,hr,Step.refl _ _ _ _⟩
theorem dG.skip {P:Program} {o:Oper} {e:Operand->Value} {st st':St} {c c':Ctx} {w w':World} {S:Sem Unit} (he:execOp e o=(do S;pure .skip:Sem Next)) (h:S.run P w= .ok () w') (hr:dD c' st'.look w') (hs:Step st.next st'.next c st.look w c' st'.look w'):
  dG P o e st st' (.dT []) c w:=by
 intro a next Q hn
 rw[he,Sem.run_bind,h,Result.andThen_ok,Sem.run_pure]
 exact hn c' _ w' ⟨⟨[],rfl,rfl⟩,hr,hs⟩
structure bD (P:Program) (o:Oper) (ev:jA) (st:St) (s:SVal) (st':St):Prop where
 nd:∀d,o.op≠.defer d
 eP:eJ st st'
 ok:∀{c:Ctx} {w:World},dD c st.look w->Wf st->pk c st.next st'.next->∀{e:Operand->Value},(∀x∈o.op.operands.toList,∀s,ev x=some s->Den c s (e x))->dG P o e st st' s c w
section
variable {P:Program} {E:Env} {o:Oper} {ev:jA} {st:St}
theorem Kf {x:Operand} {s:SVal} (ho:o.op= .move x) (hx:ev x=some s):bD P o ev st s st:=
 ⟨by simp[ho],eJ.refl _,fun hr _ _ _ he=>dG.same hr (by simp[execOp,ho]) (he x (by simp[ho,Op.operands]) _ hx)⟩
theorem Eb {x:Operand} {s:SVal} (ho:o.op= .assign x) (hx:ev x=some s):bD P o ev st s st:=
 ⟨by simp[ho],eJ.refl _,fun hr _ _ _ he=>dG.same hr (by simp[execOp,ho]) (he x (by simp[ho,Op.operands]) _ hx)⟩
theorem Bp {x a b:Operand} {t:Bool} {s:SVal} (ho:o.op= .pick x a b) (hx:ev x=some (.bool t)) (hs:ev (Bool.rec b a t)=some s):bD P o ev st s st:=
 ⟨by simp[ho],eJ.refl _,fun{c w} hr _ _ {e} he=>by
  have hc:e x= .bool t:=he x (by simp[ho,Op.operands]) _ hx
  refine dG.same (v:=if t then e a else e b) hr (by simp[execOp,ho,hc,asBool]) ?_
  cases t with
  |true=>exact he a (by simp[ho,Op.operands]) _ hs
  |false=>exact he b (by simp[ho,Op.operands]) _ hs⟩
theorem zk {x:Operand} {s:SVal} (ho:o.op= .nilCheck x) (hx:ev x=some s) (h:(∃k off,s= .ptr k off)\/(∃k t i off,s= .fq k t i off)\/(∃r off,s= .bN r off)\/(∃f a b,s= .func (.func f) a b)):bD P o ev st s st:=
 ⟨by simp[ho],eJ.refl _,fun{c w} hr _ _ {e} he=>by
  have hd:=he x (by simp[ho,Op.operands]) _ hx
  refine dG.same hr ?_ hd
  rcases h with⟨k,off,rfl⟩|⟨k,t,i,off,rfl⟩|⟨r,off,rfl⟩|⟨f,a,b,rfl⟩
  ·obtain⟨b,_,h2⟩:=hd;simp[execOp,ho,h2]
  ·obtain⟨⟨a,h2⟩,_⟩:=hd;simp[execOp,ho,h2]
  ·obtain⟨b,base,h2,_⟩:=hd;simp[execOp,ho,h2]
  ·obtain⟨xs,ys,_,_,h2⟩:=hd;simp[execOp,ho,h2]⟩
theorem wrap_i64 {n:Int} (h0: -9223372036854775808<=n) (h1:n<9223372036854775808):IntKind.i64.wrap n=n:=by
 have e:(2:Int)^64=18446744073709551616:=by decide
 have e2:(2:Int)^(64-1)=9223372036854775808:=by decide
 simp only[IntKind.wrap,IntKind.bits,IntKind.signed,e,e2,TU]
 split
 ·rename_i hc;simp at hc;omega
 ·rename_i hc;simp at hc;omega
theorem wrap_u8 {n:Int} (h0:0<=n) (h1:n<256):IntKind.u8.wrap n=n:=by
 have e:(2:Int)^8=256:=by decide
 simp only[IntKind.wrap,IntKind.bits,IntKind.signed,e,Bool.false_and,Uz,Vk]
 omega
theorem wrap_u64 {n:Int} (h0:0<=n) (h1:n<18446744073709551616):IntKind.u64.wrap n=n:=by
 have e:(2:Int)^64=18446744073709551616:=by decide
 simp only[IntKind.wrap,IntKind.bits,IntKind.signed,e,Bool.false_and,Uz,Vk]
 omega
def xd:IntKind->Int->Prop
 | .i64,n=> -9223372036854775808<=n/\n<9223372036854775808
 | .u8,n=>0<=n/\n<256
 | .u64,n=>0<=n/\n<18446744073709551616
 |k,n=>k.wrap n=n
theorem xd.wrap:∀{k:IntKind} {n:Int},xd k n->k.wrap n=n
 | .i64,_,h=>wrap_i64 h.1 h.2
 | .u8,_,h=>wrap_u8 h.1 h.2
 | .u64,_,h=>wrap_u64 h.1 h.2
 | .i8,_,h=>h
 | .i16,_,h=>h
 | .i32,_,h=>h
 | .u16,_,h=>h
 | .u32,_,h=>h
def arith:BinOp->Int->Int->Option Int
 | .add,a,b=>some (a+b)
 | .sub,a,b=>some (a-b)
 | .mul,a,b=>some (a*b)
 |_,_,_=>none
def An:BinOp->Int->Int->Option Bool
 | .eql,a,b=>some (decide (a=b))
 | .neq,a,b=>some (!decide (a=b))
 | .lss,a,b=>some (decide (a<b))
 | .leq,a,b=>some (decide (a<=b))
 | .gtr,a,b=>some (decide (b<a))
 | .geq,a,b=>some (decide (b<=a))
 |_,_,_=>none
def Ak:BinOp->List UInt8->List UInt8->Option Bool
 | .eql,a,b=>some (decide (a=b))
 | .neq,a,b=>some (!decide (a=b))
 | .lss,a,b=>some (Op.bytesLess a b)
 | .leq,a,b=>some (Op.bytesLess a b||decide (a=b))
 | .gtr,a,b=>some (!(Op.bytesLess a b||decide (a=b)))
 | .geq,a,b=>some (!Op.bytesLess a b)
 |_,_,_=>none
theorem LR {e:Operand->Value} {op:BinOp} {t ty:TypeId} {x y:Operand} (ho:o.op= .binOp op t x y ty):execOp e o=(do pure (.value (<-(do eqGuard op t x y (e x) (e y);binOp op t (e x) (e y):Sem Value))):Sem Next):=by
 simp only[execOp,ho]
theorem eR {op:BinOp} {t ty:TypeId} {x y:Operand} {s1 s2 s:SVal} (ho:o.op= .binOp op t x y ty) (hx:ev x=some s1) (hy:ev y=some s2)
  (h:∀(c:Ctx) (u v:Value),Den c s1 u->Den c s2 v->∃r,Den c s r/\∀w,((do eqGuard op t x y u v;binOp op t u v:Sem Value)).run P w= .ok r w):bD P o ev st s st:=
 ⟨by simp[ho],eJ.refl _,fun{c w} hr _ _ {e} he=>by
  obtain⟨r,h1,h2⟩:=h c _ _ (he x (by simp[ho,Op.operands]) _ hx) (he y (by simp[ho,Op.operands]) _ hy)
  exact dG.val (LR ho) (mP.same hr (h2 w) h1)⟩
theorem qS {op:BinOp} {t ty:TypeId} {x y:Operand} {k:IntKind} {a b r:Int} (ho:o.op= .binOp op t x y ty) (hx:ev x=some (.int k a)) (hy:ev y=some (.int k b)) (h:arith op a b=some r) (hr:xd k r):bD P o ev st (.int k r) st:=
 eR ho hx hy fun c u v hu hv=>by
  cases hu;cases hv
  refine⟨_,rfl,fun w=> ?_⟩
  rw[eqGuard_at_int]
  cases op<;>simp only[arith,T8,reduceCtorEq] at h<;>(subst h;simp[binOp,Op.intArith,hr.wrap])
theorem N8 {t ty:TypeId} {x y:Operand} {k:IntKind} {a b:Int} (ho:o.op= .binOp .quo t x y ty) (hx:ev x=some (.int k a)) (hy:ev y=some (.int k b)) (hb:b≠0) (hr:xd k (a.tdiv b)):bD P o ev st (.int k (a.tdiv b)) st:=
 eR ho hx hy fun c u v hu hv=>by
  cases hu;cases hv
  refine⟨_,rfl,fun w=> ?_⟩
  rw[eqGuard_at_int]
  simp[binOp,Op.intDiv,hb,hr.wrap]
theorem N7 {t ty:TypeId} {x y:Operand} {k:IntKind} {a b:Int} (ho:o.op= .binOp .rem t x y ty) (hx:ev x=some (.int k a)) (hy:ev y=some (.int k b)) (hb:b≠0):bD P o ev st (.int k (a.tmod b)) st:=
 eR ho hx hy fun c u v hu hv=>by
  cases hu;cases hv
  refine⟨_,rfl,fun w=> ?_⟩
  rw[eqGuard_at_int]
  simp[binOp,Op.intDiv,hb]
theorem mW {op:BinOp} {t ty:TypeId} {x y:Operand} {k:IntKind} {a b:Int} {r:Bool} (ho:o.op= .binOp op t x y ty) (hx:ev x=some (.int k a)) (hy:ev y=some (.int k b)) (h:An op a b=some r):bD P o ev st (.bool r) st:=
 eR ho hx hy fun c u v hu hv=>by
  cases hu;cases hv
  refine⟨_,rfl,fun w=> ?_⟩
  rw[eqGuard_at_int]
  cases op<;>simp only[An,T8,reduceCtorEq] at h<;>subst h<;>simp only[binOp_eql,binOp_neq,binOp_lss,binOp_leq,binOp_gtr,binOp_geq,Sem.run_bind,Sem.run_pure,Result.andThen_ok,bne]<;>
   refine Ub (fun b=>Result.ok (Value.bool b) w) ?_<;>rw[Vs]<;>simp
theorem Kk {op:BinOp} {t ty:TypeId} {x y:Operand} {a b:List UInt8} {r:Bool} (ho:o.op= .binOp op t x y ty) (hx:ev x=some (.str a)) (hy:ev y=some (.str b)) (h:Ak op a b=some r):bD P o ev st (.bool r) st:=
 eR ho hx hy fun c u v hu hv=>by
  cases hu;cases hv
  have e:∀op,binOp op t (.string ⟨a.toArray⟩) (.string ⟨b.toArray⟩)=Op.stringOp op ⟨a.toArray⟩ ⟨b.toArray⟩:=fun op=>by cases op<;>rfl
  refine⟨_,rfl,fun w=> ?_⟩
  rw[eqGuard_at_string]
  have e2:(a==b)=decide (a=b):=by rw[Vs];simp
  cases op<;>simp only[Ak,T8,reduceCtorEq] at h<;>subst h<;>simp only[e,Sem.run_bind,Sem.run_pure,Result.andThen_ok]<;>simp[Op.stringOp,ByteArray.toList_eq,e2]
theorem Kl {t ty:TypeId} {x y:Operand} {a b:List UInt8} (ho:o.op= .binOp .add t x y ty) (hx:ev x=some (.str a)) (hy:ev y=some (.str b)) (h:a.length+b.length<=1000000):bD P o ev st (.str (a++b)) st:=
 eR ho hx hy fun c u v hu hv=>by
  cases hu;cases hv
  have e:∀op,binOp op t (.string ⟨a.toArray⟩) (.string ⟨b.toArray⟩)=Op.stringOp op ⟨a.toArray⟩ ⟨b.toArray⟩:=fun op=>by cases op<;>rfl
  refine⟨.string ⟨(a++b).toArray⟩,rfl,fun w=> ?_⟩
  rw[eqGuard_at_string]
  simp only[Sem.run_bind,Sem.run_pure,Result.andThen_ok,e]
  rw[run_string_add_sum w _ _ (by show a.toArray.size+b.toArray.size<=_;simp;omega)]
  congr 2
theorem N9 {t:TypeId} {x:Operand} {b:Bool} (ho:o.op= .unOp .not t x) (hx:ev x=some (.bool b)):bD P o ev st (.bool (!b)) st:=
 ⟨by simp[ho],eJ.refl _,fun{c w} hr _ _ {e} he=>by
  have hd:e x= .bool b:=he x (by simp[ho,Op.operands]) _ hx
  exact dG.same hr (by simp[execOp,ho,hd,Op.unary]) rfl⟩
theorem Oa {t:TypeId} {x:Operand} {k:IntKind} {a:Int} (ho:o.op= .unOp .neg t x) (hx:ev x=some (.int k a)) (hr:xd k (0-a)):bD P o ev st (.int k (0-a)) st:=
 ⟨by simp[ho],eJ.refl _,fun{c w} hrep _ _ {e} he=>by
  have hd:e x= .int k a:=he x (by simp[ho,Op.operands]) _ hx
  exact dG.same (v:= .int k (0-a)) hrep (by simp only[execOp,ho,hd,Op.unary,Op.intArith,hr.wrap];rfl) rfl⟩
end
noncomputable def Si (E:Env) (f:TypeId->SVal->SVal->Option Bool) (xs ys:List SVal):List (TypeId×Nat)->Option Bool
 |[]=>some true
 |p::r=>eH (uq E p.1 xs p.2) fun x=>eH (uq E p.1 ys p.2) fun y=>eH (f p.1 x y) fun b=>eH (Si E f xs ys r) fun q=>some (b&&q)
noncomputable def LX (E:Env) (rec:TypeId->SVal->SVal->Option Bool) (t:TypeId) (d:TypeDesc) (x y:SVal):Option Bool:=
 match d,x,y with
 | .bool,.bool a,.bool b=>some (a==b)
 | .int _,.int k a,.int k' b=>yZ (decide (k=k')) (some (decide (a=b)))
 | .string,.str a,.str b=>some (decide (a=b))
 | .pointer _,.nilPtr,.nilPtr=>some true
 | .pointer _,.nilPtr,.ptr _ _=>some false
 | .pointer _,.ptr _ _,.nilPtr=>some false
 | .slice _,.ax,.ax=>some true
 | .slice _,.aE _ (_::_),.ax=>some false
 | .map _ _,.eA,.eA=>some true
 | .map _ _,.map _,.eA=>some false
 | .func _ _ _,.fT,.fT=>some true
 | .func _ _ _,.func _ _ _,.fT=>some false
 | .struct fs,.agg xs,.agg ys=>yZ (E.eqs.any (Nat.beq t))<|Si E rec xs ys ((fs.toList.filter (fun f=>f.name != "_")).map fun f=>(f.type,f.offset))
 | .array n e,.agg xs,.agg ys=>yZ (E.eqs.any (Nat.beq t))<|eH (cQ E e) fun s=>Si E rec xs ys ((List.range n).map fun i=>(e,i*s))
 |_,_,_=>none
noncomputable def Nq (E:Env):Nat->TypeId->SVal->SVal->Option Bool
 |0,_,_,_=>none
 |d+1,t,x,y=>eH (under E t) fun u=>LX E (Nq E d) t u x y
theorem AD {l:List Nat} {t:Nat} (h:l.any (Nat.beq t)=true):t∈l:=by
 rw[Vg] at h
 obtain⟨x,h1,h2⟩:=h
 cases UN h2
 exact h1
theorem toList_mk (a:List UInt8):(ByteArray.mk a.toArray).toList=a:=by rw[ByteArray.toList_eq]
theorem vo {c:Ctx} {f:Fn} {a b:List SVal} {v:Value} (h:Den c (.func f a b) v):∃g x y,v= .func g x y:=by
 cases f<;>first
  |(obtain⟨_,_,h⟩:=h;exact⟨_,_,_,h⟩)
  |(obtain⟨_,_,_,_,h⟩:=h;exact⟨_,_,_,h⟩)
def Tc (P:Program) (f:TypeId->SVal->SVal->Option Bool) (d:Nat):Prop:=
 ∀t x y b,f t x y=some b->∀c u v w,Den c x u->Den c y v->(Op.equalIn d t u v).run P w= .ok b w
section
variable {P:Program} {E:Env} (hE:bt P E)
include hE
theorem o6 {f:TypeId->SVal->SVal->Option Bool} {d:Nat} (hf:Tc P f d) {c:Ctx} {xs ys:List SVal} {us vs:List Value} (hx:aJ c xs us) (hy:aJ c ys vs) (w:World):
  ∀(fs:List Field) (b:Bool),Si E f xs ys ((fs.filter (fun f=>f.name != "_")).map fun f=>(f.type,f.offset))=some b->(Op.eqFields d us.toArray vs.toArray fs).run P w= .ok b w
 |[],b,h=>by cases h;rfl
 |g::fs,b,h=>by
  rw[List.filter_cons] at h
  unfold Op.eqFields
  by_cases hn:g.name= "_"
  ·rw[Ti (by simp[hn])] at h
   rw[Ti (by simp[hn])]
   exact o6 hf hx hy w fs b h
  ·rw[Th (by simpa using hn),Uo,Si,bf] at h
   obtain⟨x,h1,h⟩:=h
   rw[bf] at h
   obtain⟨y,h2,h⟩:=h
   rw[bf] at h
   obtain⟨r,h3,h⟩:=h
   rw[bf] at h
   obtain⟨q,h8,h⟩:=h
   cases h
   rw[Th hn]
   obtain⟨u,h4,h5⟩:=gH hE h1 hx
   obtain⟨v,h6,h7⟩:=gH hE h2 hy
   simp only[Sem.run_bind,h5 w,h7 w,hf _ _ _ _ h3 c u v w h4 h6,Result.andThen_ok]
   cases r with
   |false=>rfl
   |true=>simpa using o6 hf hx hy w fs q h8
theorem yn {f:TypeId->SVal->SVal->Option Bool} {d:Nat} (hf:Tc P f d) {c:Ctx} {xs ys:List SVal} {us vs:List Value} (hx:aJ c xs us) (hy:aJ c ys vs) (w:World) (e:TypeId) (z:Nat):
  ∀(is:List Nat) (b:Bool),Si E f xs ys (is.map fun i=>(e,i*z))=some b->(Op.eqItems d e z us.toArray vs.toArray is).run P w= .ok b w
 |[],b,h=>by cases h;rfl
 |i::is,b,h=>by
  rw[Uo,Si,bf] at h
  obtain⟨x,h1,h⟩:=h
  rw[bf] at h
  obtain⟨y,h2,h⟩:=h
  rw[bf] at h
  obtain⟨r,h3,h⟩:=h
  rw[bf] at h
  obtain⟨q,h8,h⟩:=h
  cases h
  unfold Op.eqItems
  obtain⟨u,h4,h5⟩:=gH hE h1 hx
  obtain⟨v,h6,h7⟩:=gH hE h2 hy
  simp only[Sem.run_bind,h5 w,h7 w,hf _ _ _ _ h3 c u v w h4 h6,Result.andThen_ok]
  cases r with
  |false=>rfl
  |true=>simpa using yn hf hx hy w e z is q h8
theorem LU (k:Nat):∀d,Tc P (Nq E d) (d+k)
 |0=>fun t x y b h=>by cases h
 |d+1=>fun t x y b h c u v w hx hy=>by
  have ih:=LU k d
  rw[show d+1+k=(d+k)+1 from by omega]
  generalize d+k=d' at*
  have h':(eH (under E t) fun u=>LX E (Nq E d) t u x y)=some b:=h
  rw[bf] at h'
  obtain⟨D,h1,h2⟩:=h'
  have hu:=bO hE h1
  unfold LX at h2
  split at h2
  all_goals first
   |(cases h2;done)
   |skip
  ·cases h2;cases hx;cases hy;simp[Op.equalIn,run_underlying hu]
  ·rw[eM] at h2
   cases TF h2.1
   have:=h2.2
   cases this
   cases hx;cases hy
   rw[run_equalIn_int w d' t _ _ _ _ hu]
   rfl
  ·cases h2;cases hx;cases hy
   rw[run_equalIn_string w d' t _ _ hu,toList_mk,toList_mk]
   congr 1
   rw[Vs];simp
  ·cases h2;cases hx;cases hy;simp[Op.equalIn,run_underlying hu]
  ·cases h2;cases hx;obtain⟨l,_,rfl⟩:=hy;simp[Op.equalIn,run_underlying hu]
  ·cases h2;cases hy;obtain⟨l,_,rfl⟩:=hx;simp[Op.equalIn,run_underlying hu]
  ·cases h2;cases hx;cases hy;simp[Op.equalIn,run_underlying hu]
  ·cases h2;cases hy
   rcases hx with⟨h,_⟩|⟨b,base,size,cap,rfl,_⟩
   ·cases h
   ·simp[Op.equalIn,run_underlying hu]
  ·cases h2;cases hx;cases hy;simp[Op.equalIn,run_underlying hu]
  ·cases h2;cases hy;obtain⟨l,_,rfl⟩:=hx;simp[Op.equalIn,run_underlying hu]
  ·cases h2;cases hx;cases hy;simp[Op.equalIn,run_underlying hu]
  ·cases h2;cases hy;obtain⟨_,p,q,rfl⟩:=vo hx;simp[Op.equalIn,run_underlying hu]
  ·rename_i fs xs ys
   rw[eM] at h2
   obtain⟨us,h3,rfl⟩:=hx
   obtain⟨vs,h4,rfl⟩:=hy
   have hf:P.fieldsOf t=fs:=by unfold Program.fieldsOf;rw[hu]
   rw[run_equalIn_struct w d' t _ _ (by rw[hf];exact hu) (hE.eqs t (AD h2.1)).1,hf]
   exact o6 hE ih h3 h4 w _ b h2.2
  ·rename_i n e xs ys
   rw[eM,bf] at h2
   obtain⟨_,s,h5,h6⟩:=h2
   obtain⟨us,h3,rfl⟩:=hx
   obtain⟨vs,h4,rfl⟩:=hy
   obtain⟨i,hi,rfl,_⟩:=bU hE h5
   rw[run_equalIn_array w d' _ _ hu hi]
   have:P.cellsOf e=i.size:=by simp[Program.cellsOf,hi]
   rw[this]
   exact yn hE ih h3 h4 w e _ _ b h6
theorem CG {t:TypeId} {x y:SVal} {b:Bool} (h:Nq E 100 t x y=some b) {c:Ctx} {u v:Value} (hx:Den c x u) (hy:Den c y v) (w:World):(Op.equal t u v).run P w= .ok b w:=
 LU hE 9900 100 t x y b h c u v w hx hy
end
def Ei:Value->Bool
 | .int _ _=>false
 | .string _=>false
 | .float _ _=>false
 | .complex _ _ _=>false
 |_=>true
theorem vR (t:TypeId) (u v:Value) (h:Ei u=true):binOp .eql t u v=(do pure (.bool (<-Op.equal t u v)):Sem Value):=by
 cases u<;>first|(cases h;done)|(cases v<;>rfl)
theorem Fa (t:TypeId) (u v:Value) (h:Ei u=true):binOp .neq t u v=(do pure (.bool (!(<-Op.equal t u v))):Sem Value):=by
 cases u<;>first|(cases h;done)|(cases v<;>rfl)
def um:SVal->Bool
 | .int _ _=>false
 | .str _=>false
 | .dT _=>false
 | .nilIface=>false
 | .iface _ _=>false
 |_=>true
theorem yt {c:Ctx} {x:SVal} {u:Value} (h:Den c x u) (hp:um x=true):Ei u=true:=by
 cases x<;>first
  |(cases hp;done)
  |(cases h;rfl)
  |(obtain⟨l,_,rfl⟩:=h;rfl)
  |(obtain⟨⟨a,rfl⟩,_⟩:=h;rfl)
  |(obtain⟨⟨a,n,cap,rfl⟩,_⟩:=h;rfl)
  |(obtain⟨b,base,rfl,_⟩:=h;rfl)
  |(obtain⟨_,l,_,rfl⟩:=vo h;rfl)
  |(rcases h with⟨_,a,cap,rfl,_⟩|⟨b,base,size,cap,rfl,_⟩<;>rfl)
theorem Ct {P:Program} {E:Env} (hE:bt P E) {t:TypeId} {x y:SVal} {b:Bool} (h:Nq E 100 t x y=some b) {c:Ctx} {u v:Value} (hx:Den c x u) (hp:um x=true) (op:BinOp) (p q:Operand) (w:World):
  (eqGuard op t p q u v).run P w= .ok () w:=by
 cases x with
 |agg l=>
  obtain⟨us,_,rfl⟩:=hx
  have h':(eH (under E t) fun u=>LX E (Nq E 99) t u (.agg l) y)=some b:=h
  rw[bf] at h'
  obtain⟨D,h1,h2⟩:=h'
  have ht:t∈E.eqs:=by
   unfold LX at h2
   split at h2
   all_goals first
    |(rename_i hh;cases hh;done)
    |(rename_i hh _;cases hh;done)
    |(rename_i hh hh2;cases hh2;done)
    |(rename_i e1 e2;rw[eM] at h2;exact AD h2.1)
    |(cases h2;done)
    |skip
  have:=(hE.eqs t ht).2
  cases v with
  |agg vs=>exact run_eqGuard_agg w op t p q _ _ this
  |_=>cases op<;>rfl
 |ptr k off=>obtain⟨l,_,rfl⟩:=hx;rw[eqGuard_at_pointer];rfl
 |fq=>obtain⟨⟨a,rfl⟩,_⟩:=hx;rw[eqGuard_at_pointer];rfl
 |bN=>obtain⟨b,base,rfl,_⟩:=hx;rw[eqGuard_at_pointer];rfl
 |own=>obtain⟨⟨a,n,cap,rfl⟩,_⟩:=hx;rw[eqGuard_at_slice];rfl
 |aE=>rcases hx with⟨_,a,cap,rfl,_⟩|⟨b,base,size,cap,rfl,_⟩<;>(rw[eqGuard_at_slice];rfl)
 |map k=>obtain⟨l,_,rfl⟩:=hx;rw[eqGuard_at_map];rfl
 |func f a b=>obtain⟨_,l,_,rfl⟩:=vo hx;rw[eqGuard_at_func];rfl
 |bool c=>cases hx;rw[eqGuard_at_bool];rfl
 |nilPtr=>cases hx;rw[eqGuard_at_pointer];rfl
 |ax=>cases hx;rw[eqGuard_at_slice];rfl
 |eA=>cases hx;rw[eqGuard_at_map];rfl
 |fT=>cases hx;rw[eqGuard_at_nilFunc];rfl
 |_=>cases hp
section
variable {P:Program} {E:Env} {o:Oper} {ev:jA} {st:St}
theorem Rj (hE:bt P E) {t ty:TypeId} {x y:Operand} {a b:SVal} {r:Bool} (ho:o.op= .binOp .eql t x y ty) (hx:ev x=some a) (hy:ev y=some b) (hp:um a=true) (h:Nq E 100 t a b=some r):bD P o ev st (.bool r) st:=
 eR ho hx hy fun c u v hu hv=>⟨_,rfl,fun w=>by
  simp only[Sem.run_bind,Ct hE h hu hp,Result.andThen_ok,vR t u v (yt hu hp),CG hE h hu hv w,Sem.run_pure]⟩
theorem Ri (hE:bt P E) {t ty:TypeId} {x y:Operand} {a b:SVal} {r:Bool} (ho:o.op= .binOp .neq t x y ty) (hx:ev x=some a) (hy:ev y=some b) (hp:um a=true) (h:Nq E 100 t a b=some r):bD P o ev st (.bool (!r)) st:=
 eR ho hx hy fun c u v hu hv=>⟨_,rfl,fun w=>by
  simp only[Sem.run_bind,Ct hE h hu hp,Result.andThen_ok,Fa t u v (yt hu hp),CG hE h hu hv w,Sem.run_pure]⟩
def Il:SVal->Nat->Option SVal
 | .ptr k off,n=>some (.ptr k (off+n))
 | .fq k s i off,n=>some (.fq k s i (off+n))
 | .bN row off,n=>some (.bN row (off+n))
 |_,_=>none
theorem BP {c:Ctx} {x s:SVal} {n:Nat} (h:Il x n=some s) {u:Value} (hx:Den c x u):∃b o,u= .pointer (some ⟨b,o,none⟩)/\Den c s (.pointer (some ⟨b,o+n,none⟩))\/(∃a,u= .pointer (some a))/\∀a',Den c s (.pointer (some a')):=by
 unfold Il at h
 split at h
 ·cases h
  obtain⟨b,h1,rfl⟩:=hx
  exact⟨b,_,.inl ⟨rfl,b,h1,rfl⟩⟩
 ·rename_i k t i off
  cases h
  obtain⟨⟨a,rfl⟩,b,st,sz,u',h1,h2,h3⟩:=hx
  by_cases e:st=t
  ·obtain⟨r,rfl,h4⟩:=h3 e
   simp only[Value.pointer.injEq,T8] at h4
   subst h4
   exact⟨r,_,.inl ⟨rfl,⟨_,rfl⟩,_,st,sz,u',h1,h2,fun _=>⟨r,rfl,by rw[UG]⟩⟩⟩
  ·exact⟨0,0,.inr ⟨⟨a,rfl⟩,fun a'=>⟨⟨_,rfl⟩,b,st,sz,u',h1,h2,fun e'=>absurd e' e⟩⟩⟩
 ·cases h
  obtain⟨b,base,rfl,h1⟩:=hx
  exact⟨b,_,.inl ⟨rfl,b,base,by rw[UG],h1⟩⟩
 ·cases h
theorem rQ {t:TypeId} {f:Nat} {fs:Array Field} {fd:Field} (h2:P.underlying t=some (.struct fs)) (h3:fs[f]? =some fd) {n:Nat} (hs:∀w,(Go.sizeOf fd.type).run P w= .ok n w) (h0:n≠0) (a:Addr) (w:World):
  (Instr.fieldAt t (.pointer (some a)) f).run P w= .ok (.pointer (some (a.add fd.offset))) w:=by
 simp only[Instr.fieldAt,Sem.run_bind,run_underlying h2,Result.andThen_ok,h3,Instr.sureAddr,Sem.run_pure,fieldPlace,hs,h0,Vk]
theorem wM (hE:bt P E) {t:TypeId} {x:Operand} {f:Nat} {fd:Field} {p s:SVal} {n:Nat} (ho:o.op= .fieldAddr t x f) (hf:rr E t f=some fd) (hx:ev x=some p) (hn:cQ E fd.type=some n) (h1:Nat.ble 1 n=true) (hp:Il p fd.offset=some s):bD P o ev st s st:=
 ⟨by simp[ho],eJ.refl _,fun{c w} hr _ _ {e} he=>by
  obtain⟨fs,h2,h3⟩:=sg hE hf
  obtain⟨i,_,rfl,hs⟩:=bU hE hn
  have h0:i.size≠0:=by have:=cT h1;omega
  have hd:=he x (by simp[ho,Op.operands]) _ hx
  obtain⟨b,off,h⟩:=BP hp hd
  have:execOp e o=(do pure (.value (<-Instr.fieldAt t (e x) f)):Sem Next):=by simp only[execOp,ho]
  rcases h with⟨h4,h5⟩|⟨⟨a,h4⟩,h5⟩
  ·rw[h4] at this
   exact dG.val this (mP.same hr (rQ h2 h3 hs h0 _ w) (by rw[gu];exact h5))
  ·rw[h4] at this
   exact dG.val this (mP.same hr (rQ h2 h3 hs h0 _ w) (h5 _))⟩
theorem HZ (hE:bt P E) {t:TypeId} {x:Operand} {f:Nat} {fd:Field} {l:List SVal} {s:SVal} (ho:o.op= .field t x f) (hf:rr E t f=some fd) (hx:ev x=some (.agg l)) (hp:uq E fd.type l fd.offset=some s):bD P o ev st s st:=
 ⟨by simp[ho],eJ.refl _,fun{c w} hr _ _ {e} he=>by
  obtain⟨fs,h2,h3⟩:=sg hE hf
  obtain⟨vs,h4,h5⟩:=he x (by simp[ho,Op.operands]) _ hx
  obtain⟨v,h6,h7⟩:=gH hE hp h4
  refine dG.val (S:=Instr.field t (e x) f) (by simp only[execOp,ho]) (mP.same hr (v:=v) ?_ h6)
  simp only[Instr.field,Sem.run_bind,run_underlying h2,Result.andThen_ok,h3,h5,asAgg,Sem.run_pure,h7]⟩
theorem Ki (hE:bt P E) {t:TypeId} {x:Operand} {p s:SVal} {l:List SVal} (ho:o.op= .load t x) (hx:ev x=some p) (hl:lA st p l) (hs:r7 E t l=some s):bD P o ev st s st:=
 ⟨by simp[ho],eJ.refl _,fun{c w} hr _ _ {e} he=>by
  obtain⟨b,off,h1,h2⟩:=hl.spec hr (he x (by simp[ho,Op.operands]) _ hx)
  obtain⟨v,h3,h4⟩:=uG (P:=P) hE h2 hs
  refine dG.val (S:=Instr.loadAt t (e x)) (by simp only[execOp,ho]) (mP.same hr (v:=v) ?_ h3)
  simp only[h1,Instr.loadAt,Sem.run_bind,Instr.sureAddr,Sem.run_pure,Result.andThen_ok,h4]⟩
theorem HY (hE:bt P E) {t:TypeId} {x y:Operand} {p s:SVal} {n:Nat} {st':St} (ho:o.op= .store t x y) (hx:ev x=some p) (hy:ev y=some s) (hn:cQ E t=some n) (hl:Nat.beq (bT s).length n=true) (hf:sd (bT s)) (hp:Ns st p (bT s) st'):bD P o ev st (.dT []) st':=
 ⟨by simp[ho],hp.eP,fun{c w} hr _ _ {e} he=>by
  have hd:=he y (by simp[ho,Op.operands]) _ hy
  have hs:=dR hd
  obtain⟨b,off,w',h1,h2,h3,h4⟩:=hp.ok hr (he x (by simp[ho,Op.operands]) _ hx) hs hf
  obtain⟨i,_,rfl,hsr⟩:=bU hE hn
  have hl:(bT s).length=i.size:=UN hl
  have hc:(e y).cells.size=i.size:=by have:=hs.length;simpa[hl] using this
  refine dG.skip (S:=Instr.storeAt t (e x) (e y)) (by simp only[execOp,ho]) ?_ h3 h4
  simp only[h1,Instr.storeAt,Instr.sureAddr,Sem.run_bind,Sem.run_pure,Result.andThen_ok,storeVar,hsr w,hc,ne_eq,not_true,Vk,h2 P]⟩
theorem jI {t elem:TypeId} {n cap:Nat} {d:TypeDesc} {j:Nat} {a:Addr} {k:IntKind} {v:Value} (hu:P.underlying t=some d) (hv:(d= .array n elem/\v= .pointer (some a))\/(d= .slice elem/\v= .slice (some a) n cap)) {sz:Nat} (hs:∀w,(Go.sizeOf elem).run P w= .ok sz w) (hj:j<n) (w:World):
  (Instr.indexAt t v (.int k j)).run P w= .ok (.pointer (some (a.add (j*sz)))) w:=by
 have hj:(0:Int)<=(j:Int)/\(j:Int)<(n:Int):=by omega
 rcases hv with⟨rfl,rfl⟩|⟨rfl,rfl⟩
 ·simp only[Instr.indexAt,Sem.run_bind,asIntOf,Sem.run_pure,Result.andThen_ok,run_underlying hu,Instr.sureAddr,hj,and_self,Vx,hs,T9]
 ·simp only[Instr.indexAt,Sem.run_bind,asIntOf,Sem.run_pure,Result.andThen_ok,run_underlying hu,hj,and_self,Vx,hs,T9]
theorem wK (hE:bt P E) {t elem:TypeId} {x ix:Operand} {k:IntKind} {n:Int} {j sz:Nat} {f:Bool} {rows:List (List SVal)} {row:List SVal} (ho:o.op= .indexAddr t x ix) (hix:ev ix=some (.int k n)) (hx:ev x=some (.aE f rows))
  (ht:dr E t=some elem) (hsz:cQ E elem=some sz) (hn:n=(j:Int)) (hrow:rows[j]? =some row) (hl:row.length=sz):bD P o ev st (.bN row 0) st:=
 ⟨by simp[ho],eJ.refl _,fun{c w} hr _ _ {e} he=>by
  have hu:=ck hE ht
  obtain⟨i,_,rfl,hs⟩:=bU hE hsz
  have hj:j<rows.length:=(Tk.1 hrow).1
  subst hn
  have hi:e ix= .int k j:=he ix (by simp[ho,Op.operands]) _ hix
  rcases he x (by simp[ho,Op.operands]) _ hx with⟨h,_⟩|⟨b,base,size,cap,h1,h2,h3,h4⟩
  ·rw[h] at hj;simp at hj
  ·obtain⟨h5,h6⟩:=h4.get hrow
   refine dG.val (S:=Instr.indexAt t (e x) (e ix)) (by simp only[execOp,ho]) (mP.same hr (v:= .pointer (some ⟨b,base+j*i.size,none⟩)) ?_ ⟨b,base+j*i.size,rfl,by rw[<-hl,h5];exact h6⟩)
   rw[hi,h1,jI hu (.inr ⟨rfl,rfl⟩) hs hj,gu]⟩
theorem wJ (hE:bt P E) {t elem:TypeId} {x ix:Operand} {k:IntKind} {n:Int} {j sz r s:Nat} {z:Bool} {rows:List (List SVal)} (ho:o.op= .indexAddr t x ix) (hix:ev ix=some (.int k n)) (hx:ev x=some (.own r s)) (hk:st.look r=some (.row sz rows s z))
  (ht:dr E t=some elem) (hsz:cQ E elem=some sz) (hn:n=(j:Int)) (hj:j<rows.length):bD P o ev st (.fq r s j 0) st:=
 ⟨by simp[ho],eJ.refl _,fun{c w} hr _ _ {e} he=>by
  have hu:=ck hE ht
  obtain⟨i,_,rfl,hs⟩:=bU hE hsz
  subst hn
  have hi:e ix= .int k j:=he ix (by simp[ho,Op.operands]) _ hix
  obtain⟨_,ob,st0,sz0,u,h1,h2,h3⟩:=he x (by simp[ho,Op.operands]) _ hx
  obtain⟨l',h4,h5⟩:=hr.dF _ _ hk
  rw[h1] at h4
  cases h4
  obtain⟨rfl,rfl,h5⟩:=h5
  cases ob with
  |none=>obtain⟨rfl,_⟩:=h5;simp at hj
  |some b=>
   obtain⟨arr,ee,cap,h5⟩:=h5
   refine dG.val (S:=Instr.indexAt t (e x) (e ix)) (by simp only[execOp,ho]) (mP.same hr (v:= .pointer (some ⟨b,j*i.size,none⟩)) ?_ ⟨⟨_,rfl⟩,some b,_,_,u,h1,Tp _,fun _=>⟨b,rfl,rfl⟩⟩)
   rw[hi,h3 rfl,h5.val,jI hu (.inr ⟨rfl,rfl⟩) hs hj,gu]
   simp⟩
theorem tO (hE:bt P E) {t elem:TypeId} {x ix:Operand} {k:IntKind} {n:Int} {j sz m:Nat} {p s:SVal} (ho:o.op= .indexAddr t x ix) (hix:ev ix=some (.int k n)) (hx:ev x=some p) (ht:under E t=some (.array m elem)) (hsz:cQ E elem=some sz) (hn:n=(j:Int)) (hj:j<m)
  (hp:Il p (j*sz)=some s):bD P o ev st s st:=
 ⟨by simp[ho],eJ.refl _,fun{c w} hr _ _ {e} he=>by
  have hu:=bO hE ht
  obtain⟨i,_,rfl,hs⟩:=bU hE hsz
  subst hn
  have hi:e ix= .int k j:=he ix (by simp[ho,Op.operands]) _ hix
  obtain⟨b,off,h⟩:=BP hp (he x (by simp[ho,Op.operands]) _ hx)
  have:execOp e o=(do pure (.value (<-Instr.indexAt t (e x) (e ix))):Sem Next):=by simp only[execOp,ho]
  rcases h with⟨h4,h5⟩|⟨⟨a,h4⟩,h5⟩
  ·rw[h4,hi] at this
   exact dG.val this (mP.same hr (jI (cap:=0) hu (.inl ⟨rfl,rfl⟩) hs hj w) (by rw[gu];exact h5))
  ·rw[h4,hi] at this
   exact dG.val this (mP.same hr (jI (cap:=0) hu (.inl ⟨rfl,rfl⟩) hs hj w) (h5 _))⟩
theorem wI (hE:bt P E) {t:TypeId} {x ix:Operand} {k:IntKind} {n:Int} {j:Nat} {l:List UInt8} {b:UInt8} (ho:o.op= .index t x ix) (hix:ev ix=some (.int k n)) (hx:ev x=some (.str l)) (ht:under E t=some .string) (hn:n=(j:Int)) (hb:l[j]? =some b):bD P o ev st (.int .u8 b.toNat) st:=
 ⟨by simp[ho],eJ.refl _,fun{c w} hr _ _ {e} he=>by
  have hu:=bO hE ht
  subst hn
  have hi:e ix= .int k j:=he ix (by simp[ho,Op.operands]) _ hix
  have hs:e x= .string ⟨l.toArray⟩:=he x (by simp[ho,Op.operands]) _ hx
  refine dG.val (S:=Instr.index t (e x) (e ix)) (by simp only[execOp,ho]) (mP.same hr (v:= .int .u8 b.toNat) ?_ rfl)
  have hb:(⟨l.toArray⟩:ByteArray)[j]? =some b:=by
   have h5:=(Tk.1 hb).1
   rw[getElem?_pos (⟨l.toArray⟩:ByteArray) j h5]
   obtain⟨_,h9⟩:=Tk.1 hb
   exact Ub some h9
  have hj:(0:Int)<=(j:Int):=by omega
  simp only[hi,hs,Instr.index,Sem.run_bind,asIntOf,Sem.run_pure,Result.andThen_ok,run_underlying hu,hj,Vx,T9,hb]⟩
theorem wL (hE:bt P E) {t elem:TypeId} {x ix:Operand} {k:IntKind} {n:Int} {j m sz:Nat} {l:List SVal} {s:SVal} (ho:o.op= .index t x ix) (hix:ev ix=some (.int k n)) (hx:ev x=some (.agg l)) (ht:under E t=some (.array m elem)) (hsz:cQ E elem=some sz) (hn:n=(j:Int)) (hj:j<m)
  (hs:uq E elem l (j*sz)=some s):bD P o ev st s st:=
 ⟨by simp[ho],eJ.refl _,fun{c w} hr _ _ {e} he=>by
  have hu:=bO hE ht
  obtain⟨i,_,rfl,hsr⟩:=bU hE hsz
  subst hn
  have hi:e ix= .int k j:=he ix (by simp[ho,Op.operands]) _ hix
  obtain⟨vs,h1,h2⟩:=he x (by simp[ho,Op.operands]) _ hx
  obtain⟨v,h3,h4⟩:=gH hE hs h1
  refine dG.val (S:=Instr.index t (e x) (e ix)) (by simp only[execOp,ho]) (mP.same hr (v:=v) ?_ h3)
  have hj:(0:Int)<=(j:Int)/\(j:Int)<(m:Int):=by omega
  simp only[hi,h2,Instr.index,Sem.run_bind,asIntOf,Sem.run_pure,Result.andThen_ok,run_underlying hu,hj,and_self,Vx,hsr,T9]
  exact h4 w⟩
theorem Bu {x:Operand} {i:Nat} {l:List SVal} {s:SVal} (ho:o.op= .extract x i) (hx:ev x=some (.dT l)) (hs:l[i]? =some s):bD P o ev st s st:=
 ⟨by simp[ho],eJ.refl _,fun{c w} hr _ _ {e} he=>by
  obtain⟨vs,h1,h2⟩:=he x (by simp[ho,Op.operands]) _ hx
  obtain⟨u,h3,h4⟩:=h1.get hs
  exact dG.same hr (v:=u) (by simp[execOp,ho,h2,Instr.extract,h3]) h4⟩
theorem zq (hE:bt P E) {a b:TypeId} {x:Operand} {k k' k2:IntKind} {n:Int} (ho:o.op= .convert a b x) (hx:ev x=some (.int k n)) (ha:under E a=some (.int k2)) (hb:under E b=some (.int k')) (hr:xd k' n):bD P o ev st (.int k' n) st:=
 ⟨by simp[ho],eJ.refl _,fun{c w} hrep _ _ {e} he=>by
  have hd:e x= .int k n:=he x (by simp[ho,Op.operands]) _ hx
  refine dG.val (S:=convert a b (e x)) (by simp only[execOp,ho]) (mP.same hrep (v:= .int k' n) ?_ rfl)
  simp[hd,convert,run_underlying (bO hE ha),run_underlying (bO hE hb),Conv.intToInt,hr.wrap]⟩
theorem zp (hE:bt P E) {a b:TypeId} {x:Operand} {l:List UInt8} (ho:o.op= .convert a b x) (hx:ev x=some (.str l)) (ha:under E a=some .string) (hb:under E b=some .string):bD P o ev st (.str l) st:=
 ⟨by simp[ho],eJ.refl _,fun{c w} hrep _ _ {e} he=>by
  have hd:e x= .string ⟨l.toArray⟩:=he x (by simp[ho,Op.operands]) _ hx
  refine dG.val (S:=convert a b (e x)) (by simp only[execOp,ho]) (mP.same hrep (v:= .string ⟨l.toArray⟩) ?_ rfl)
  simp[hd,convert,run_underlying (bO hE ha),run_underlying (bO hE hb)]⟩
noncomputable def lZ (ev:jA) (l:List Operand):Option (List SVal):=
 List.rec (motive:=fun _=>Option (List SVal)) (some []) (fun x _ ih=>eH (ev x) fun v=>eH ih fun l=>some (v::l)) l
noncomputable def CD (ev:jA) (l:List (Nat×Operand)):Option (List (Nat×SVal)):=
 List.rec (motive:=fun _=>Option (List (Nat×SVal))) (some []) (fun p _ ih=>eH (ev p.2) fun v=>eH ih fun l=>some ((p.1,v)::l)) l
def we (c:Ctx):List (Nat×SVal)->List (Nat×Value)->Prop
 |[],[]=>True
 |p::ps,q::qs=>q.1=p.1/\Den c p.2 q.2/\we c ps qs
 |_,_=>False
theorem nN {e:Operand->Value} {c:Ctx}:∀{l:List Operand} {ss:List SVal},(∀x,x∈l->∀s,ev x=some s->Den c s (e x))->lZ ev l=some ss->aJ c ss (l.map e)
 |[],ss,_,h=>by cases h;rfl
 |x::l,ss,he,h=>by
  have h:eH (ev x) (fun v=>eH (lZ ev l) fun l=>some (v::l))=some ss:=h
  rw[bf] at h
  obtain⟨v,h1,h⟩:=h
  rw[bf] at h
  obtain⟨vs,h2,h3⟩:=h
  cases h3
  exact⟨_,_,he x (.head _) v h1,nN (fun y hy=>he y (.tail _ hy)) h2,rfl⟩
theorem vg {e:Operand->Value} {c:Ctx}:∀{l:List (Nat×Operand)} {ss:List (Nat×SVal)},(∀p∈l,∀s,ev p.2=some s->Den c s (e p.2))->CD ev l=some ss->we c ss (l.map fun p=>(p.1,e p.2))
 |[],ss,_,h=>by cases h;trivial
 |p::l,ss,he,h=>by
  have h:eH (ev p.2) (fun v=>eH (CD ev l) fun l=>some ((p.1,v)::l))=some ss:=h
  rw[bf] at h
  obtain⟨v,h1,h⟩:=h
  rw[bf] at h
  obtain⟨vs,h2,h3⟩:=h
  cases h3
  exact⟨rfl,he _ (.head _) v h1,vg (fun y hy=>he y (.tail _ hy)) h2⟩
theorem nz {α β:Type} (f:α->β) (a:Array α):(a.toList.map f).toArray=a.map f:=Array.ext' (by simp)
theorem zl {fn:Fn} {first cap:Array Operand} {a b:List SVal} (ho:o.op= .makeFunc fn first cap) (hf:dx fn=true) (ha:lZ ev first.toList=some a) (hb:lZ ev cap.toList=some b):bD P o ev st (.func fn a b) st:=
 ⟨by simp[ho],eJ.refl _,fun{c w} hr _ _ {e} he=>by
  have h1:=nN (e:=e) (c:=c) (fun y hy=>he y (by rw[ho];simp only[Op.operands,U4];exact Ua _ hy)) ha
  have h2:=nN (e:=e) (c:=c) (fun y hy=>he y (by rw[ho];simp only[Op.operands,U4];exact Uq _ hy)) hb
  refine dG.same hr (v:= .func fn (first.map e) (cap.map e)) (by simp[execOp,ho,Instr.makeFunc]) ?_
  cases fn<;>first
   |exact⟨_,_,h1,h2,by rw[nz,nz]⟩
   |cases hf⟩
noncomputable def places (E:Env):List Field->Option (List (Nat×Nat))
 |[]=>some []
 |f::r=>eH (cQ E f.type) fun s=>eH (places E r) fun l=>some ((f.offset,s)::l)
noncomputable def se (place:Nat->Option (Nat×Nat)) (cells:List SVal) (ps:List (Nat×SVal)):Option (List SVal):=
 List.rec (motive:=fun _=>List SVal->Option (List SVal)) some
  (fun p _ ih cells=>eH (place p.1) fun q=>yZ (Nat.beq (bT p.2).length q.2) (yZ (Nat.ble (q.1+(bT p.2).length) cells.length) (ih (over cells q.1 (bT p.2))))) ps cells
theorem Cc:∀(vs:List Value) (k:Nat) (cs:Array Value) (off:Nat),off+k+vs.length<=cs.size->
  (vs.zipIdx k).foldl (fun cs p=>cs.setIfInBounds (off+p.2) p.1) cs=(cs.toList.take (off+k)++(vs++cs.toList.drop (off+k+vs.length))).toArray
 |[],k,cs,off,h=>by simp
 |v::vs,k,cs,off,h=>by
  rw[List.zipIdx_cons,Uh,Cc vs (k+1) _ off (by simp at h⊢;omega)]
  simp only[Tu] at h
  refine Ub List.toArray ?_
  simp only[Array.toList_setIfInBounds]
  rw[show off+(k+1)=off+k+1 from by omega,Ux,UM ii,List.drop_set_of_lt ii]
  rw[UE (by simp;omega)]
  simp[UG,Nat.add_comm 1]
theorem KO {c:Ctx} {cells v:List SVal} {vs us:List Value} {off:Nat} (h:off+v.length<=cells.length) (hd:aJ c cells vs) (hv:aJ c v us):aJ c (over cells off v) (vs.take off++(us++vs.drop (off+v.length))):=by
 rw[pU _ _ _ h]
 exact aJ.append.2 ⟨_,_,hd.take off,aJ.append.2 ⟨_,_,hv,hd.drop _,rfl⟩,rfl⟩
theorem ta {c:Ctx} (pl:Nat->Option (Nat×Nat)):∀{ps:List (Nat×SVal)} {us:List (Nat×Value)} {cells r:List SVal} {vs:List Value},se pl cells ps=some r->we c ps us->aJ c cells vs->
  ∃rs,Instr.fill pl vs.toArray us=some rs.toArray/\aJ c r rs
 |[],us,cells,r,vs,h,hp,hd=>by
  cases us with
  |nil=>cases h;exact⟨vs,rfl,hd⟩
  |cons q qs=>exact hp.elim
 |p::ps,us,cells,r,vs,h,hp,hd=>by
  cases us with
  |nil=>exact hp.elim
  |cons q qs=>
   obtain⟨i,u⟩:=q
   obtain⟨e1,e2,hp⟩:=hp
   simp only at e1 e2
   subst e1
   have h:eH (pl p.1) (fun q=>yZ (Nat.beq (bT p.2).length q.2) (yZ (Nat.ble (q.1+(bT p.2).length) cells.length) (se pl (over cells q.1 (bT p.2)) ps)))=some r:=h
   rw[bf] at h
   obtain⟨⟨off,size⟩,h1,h⟩:=h
   rw[eM,eM] at h
   obtain⟨h2,h5,h4⟩:=h
   have h5:off+(bT p.2).length<=cells.length:=cT h5
   have hs:=dR e2
   have hl:=hs.length
   have hlv:=hd.length
   have h2:(bT p.2).length=size:=UN h2
   have hl:u.cells.size=(bT p.2).length:=by simpa using hl
   obtain⟨rs,h7,h8⟩:=ta pl h4 hp (KO h5 hd hs)
   refine⟨rs,?_,h8⟩
   rw[Instr.fill,h1]
   simp only
   rw[Ti (by simp;omega),<-h7]
   congr 1
   rw[<-VG,Array.toList_zipIdx]
   have:=Cc u.cells.toList 0 vs.toArray off (by simp;omega)
   simp only[Ur,Vz,hl] at this
   exact this
noncomputable def tg (E:Env) (z:List SVal) (ps:List (Nat×SVal)):TypeDesc->Option SVal
 | .struct fs=>eH (places E fs.toList) fun pl=>eH (se (fun i=>pl[i]?) z ps) fun l=>some (.agg l)
 | .array _ elem=>eH (cQ E elem) fun size=>eH (se (fun i=>some (i*size,size)) z ps) fun l=>some (.agg l)
 |_=>none
theorem xq (hE:bt P E) {t:TypeId} {parts:Array (Nat×Operand)} {z s:SVal} {d:TypeDesc} {ps:List (Nat×SVal)} (ho:o.op= .build t parts) (hz:iH E t=some z) (hd:under E t=some d) (hps:CD ev parts.toList=some ps) (h:tg E (bT z) ps d=some s):bD P o ev st s st:=
 ⟨by simp[ho],eJ.refl _,fun{c w} hr _ _ {e} he=>by
  have hp:=vg (e:=e) (c:=c) (fun p hp=>he p.2 (by rw[ho];simp only[Op.operands,T4];exact⟨p,hp,rfl⟩)) hps
  obtain⟨it,zv,hit,hzv,hdz,_⟩:=ey hE hz
  have hu:=bO hE hd
  have hs:=dR (hdz c)
  have pl:∀(fs:List Field) (l:List (Nat×Nat)),places E fs=some l->fs.mapM (fun f=>(P.info? f.type).map fun i=>(f.offset,i.size))=some l:=by
   intro fs
   induction fs with
   |nil=>intro l hl;cases hl;rfl
   |cons f fs ih=>
    intro l hl
    unfold places at hl
    rw[bf] at hl
    obtain⟨n,h1,hl⟩:=hl
    rw[bf] at hl
    obtain⟨l',h2,h3⟩:=hl
    cases h3
    obtain⟨i,hi,rfl,_⟩:=bU hE h1
    simp[List.mapM_cons,hi,ih l' h2]
  have fin:∃v,Den c s v/\(Instr.build t (parts.toList.map fun p=>(p.1,e p.2)).toArray).run P w= .ok v w:=by
   unfold tg at h
   split at h
   ·rename_i fs
    rw[bf] at h
    obtain⟨l,h1,h⟩:=h
    rw[bf] at h
    obtain⟨r,h2,h3⟩:=h
    cases h3
    obtain⟨rs,h4,h5⟩:=ta _ h2 hp hs
    refine⟨.agg rs.toArray,⟨rs,h5,rfl⟩,run_build w t _ _ ?_⟩
    simp only[Program.built,hit,hu,hzv,pl _ _ h1]
    simpa using h4
   ·rename_i n e
    rw[bf] at h
    obtain⟨size,h1,h⟩:=h
    rw[bf] at h
    obtain⟨r,h2,h3⟩:=h
    cases h3
    obtain⟨ie,hie,rfl,_⟩:=bU hE h1
    obtain⟨rs,h4,h5⟩:=ta _ h2 hp hs
    refine⟨.agg rs.toArray,⟨rs,h5,rfl⟩,run_build w t _ _ ?_⟩
    simp only[Program.built,hit,hu,hzv,hie]
    simpa using h4
   ·cases h
  obtain⟨v,h1,h2⟩:=fin
  refine dG.same hr (v:=v) ?_ h1
  simp only[execOp,ho,Sem.run_bind]
  rw[nz] at h2
  rw[h2]
  rfl⟩
end
theorem EE {c:Ctx} {H:gx} {w:World} (hr:dD c H w) {b:Nat} (hb:w.heap.size<=b) (i:Nat) (v:Value):c.fz b i≠some v:=fun h=>by
 have:=Cx hr h
 omega
theorem fK (w:World) (o:Obj):(w.alloc o).heap[w.heap.size]? =some o:=by show(w.heap.push o)[w.heap.size]? =_;simp
theorem RK {st:St} {c:Ctx} {w:World} (hr:dD c st.look w) (hf:c.ρ st.next=none) (hwf:Wf st) {cs:List SVal} {arr:Array Value} (hd:aJ c cs arr.toList) (e:TypeId):
  dD (iq c st.next (.box w.heap.size)) (st.fresh (.cells cs)).look (w.alloc (.cells arr e))/\Step st.next (st.fresh (.cells cs)).next c st.look w (iq c st.next (.box w.heap.size)) (st.fresh (.cells cs)).look (w.alloc (.cells arr e)):=
 gN hr hf hwf (df.alloc w _) (fun b hb=>by cases hb;exact Tp _)
  ⟨arr,e,fK w _,aJ.le (qz _ hf) _ _ hd,fun i v=>EE hr (Tp _) i v⟩
section
variable {P:Program} {E:Env} {o:Oper} {ev:jA} {st:St}
theorem tM (hnd:∀d,o.op≠.defer d) {s:SVal} {elem:TypeId} {S:(Operand->Value)->World->Sem Value} (hS:∀e w,execOp e o=(do pure (.value (<-S e w)):Sem Next))
  (h:∀{c:Ctx} {w:World} {e:Operand->Value},(∀x∈o.op.operands.toList,∀s,ev x=some s->Den c s (e x))->∃v,Den c s v/\(S e w).run P w=(do pure (.pointer (some (<-newVar elem v))):Sem Value).run P w):bD P o ev st (.ptr st.next 0) (st.fresh (.cells (bT s))):=
 ⟨hnd,dw _ _,fun{c w} hr hwf hf {e} he=>by
  have hk:c.ρ st.next=none:=hf _ (Tp _) (Ug _)
  obtain⟨v,hd,hrun⟩:=h (w:=w) he
  obtain⟨h1,h2⟩:=RK hr hk hwf (dR hd) elem
  refine dG.val (hS e w) ⟨_,.pointer (some ⟨w.heap.size,0,none⟩),_,?_,⟨_,cI _ _ _,rfl⟩,h1,h2⟩
  rw[hrun]
  simp[newVar,newRow]⟩
theorem H4 (hE:bt P E) {elem:TypeId} {z:SVal} (ho:o.op= .alloc elem) (hz:iH E elem=some z):bD P o ev st (.ptr st.next 0) (st.fresh (.cells (bT z))):=
 tM (elem:=elem) (S:=fun _ _=>Instr.alloc elem true (.tuple #[])) (by simp[ho]) (fun e w=>by simp only[execOp,ho]) fun{c w e} he=>by
  obtain⟨i,zv,_,_,hd,hrun⟩:=ey hE hz
  exact⟨zv,hd c,by simp only[Instr.alloc,Sem.run_bind,hrun w,Result.andThen_ok]⟩
theorem Ob {elem:TypeId} {x:Operand} {s:SVal} (ho:o.op= .box elem x) (hx:ev x=some s):bD P o ev st (.ptr st.next 0) (st.fresh (.cells (bT s))):=
 tM (elem:=elem) (S:=fun e _=>Instr.box elem (e x)) (by simp[ho]) (fun e w=>by simp only[execOp,ho]) fun{c w e} he=>⟨e x,he x (by simp[ho,Op.operands]) _ hx,rfl⟩
theorem Bq {t:TypeId} (ho:o.op= .makeMap t none):bD P o ev st (.map st.next) (st.fresh (.map [])):=
 ⟨by simp[ho],dw _ _,fun{c w} hr hwf hf {e} he=>by
  have hk:c.ρ st.next=none:=hf _ (Tp _) (Ug _)
  obtain⟨h1,h2⟩:=gN (o:= .map []) (l:= .box w.heap.size) hr hk hwf (df.alloc w (.map #[] 0)) (fun b hb=>by cases hb;exact Tp _) ⟨#[],0,fK w _,rfl,fun i p hp=>by simp at hp⟩
  refine dG.val (S:=Instr.makeMap t none) (by simp only[execOp,ho];rfl) ⟨_,.map (some w.heap.size),_,?_,⟨_,cI _ _ _,rfl⟩,h1,h2⟩
  simp[Instr.makeMap]⟩
end
theorem jR:∀{α:Type} {sz:Nat} {rows:List (List α)} {i j:Nat} {row:List α},(∀r∈rows,r.length=sz)->rows[i]? =some row->j<sz->rows.flatten[i*sz+j]? =row[j]?
 |α,sz,[],i,j,row,h,hr,_=>by simp at hr
 |α,sz,r::rows,0,j,row,h,hr,hj=>by
  simp only[U6,T8] at hr
  subst hr
  have:=h r (.head _)
  rw[UB,Nat.zero_mul,Ue,TE ii]
 |α,sz,r::rows,i+1,j,row,h,hr,hj=>by
  have hl:=h r (.head _)
  rw[UB,TG (by rw[hl,Um];omega),hl,show(i+1)*sz+j-sz=i*sz+j from by rw[Um];omega]
  exact jR (fun x hx=>h x (.tail _ hx)) (by simpa using hr) hj
theorem ga:∀{α:Type} {sz:Nat} {rows:List (List α)},(∀r∈rows,r.length=sz)->rows.flatten.length=rows.length*sz
 |α,sz,[],_=>by simp
 |α,sz,r::rows,h=>by
  rw[UB,Tt,ga (fun x hx=>h x (.tail _ hx)),h r (.head _),Tu,Um]
  omega
theorem ef.len {c:Ctx} {rows:List (List SVal)} {sz:Nat} {arr:Array Value} (h:ef c rows sz arr):∀r∈rows,r.length=sz:=fun r hr=>by
 obtain⟨i,hi⟩:=Vv hr
 exact(h i r hi).1
theorem ef.flat {c:Ctx} {rows:List (List SVal)} {sz:Nat} {arr:Array Value} (h:ef c rows sz arr) {q:Nat} {s:SVal} (hq:rows.flatten[q]? =some s):∃v,arr[q]? =some v/\v.oneCell'=true/\Den c s v:=by
 have hlen:=h.len
 have hlt:q<rows.length*sz:=by rw[<-ga hlen];exact(Tk.1 hq).1
 have hsz:0<sz:=VD fun e=>by rw[e] at hlt;omega
 have hi:q/sz<rows.length:=(Nat.div_lt_iff_lt_mul hsz).2 hlt
 have hj:q % sz<sz:=Nat.mod_lt _ hsz
 have hdm:q/sz*sz+q % sz=q:=by rw[VI];exact Nat.div_add_mod q sz
 have:=jR hlen (Tj hi) hj
 rw[hdm,hq] at this
 obtain⟨v,h1,h2,h3⟩:=(h (q/sz) _ (Tj hi)).2 (q % sz) s this.symm
 exact⟨v,by rw[<-hdm];exact h1,h2,h3⟩
theorem ef.of {c:Ctx} {rows:List (List SVal)} {sz:Nat} {arr:Array Value} (hlen:∀r∈rows,r.length=sz) (h:∀(q:Nat) (s:SVal),rows.flatten[q]? =some s->∃v,arr[q]? =some v/\v.oneCell'=true/\Den c s v):ef c rows sz arr:=fun i row hr=>
 ⟨hlen row (Ts hr),fun j s hs=>h _ s (by rw[jR hlen hr (by rw[<-hlen row (Ts hr)];exact(Tk.1 hs).1)];exact hs)⟩
theorem ef.denL {c:Ctx} {rows:List (List SVal)} {sz:Nat} {arr:Array Value} {n:Nat} (h:ef c rows sz arr) (hn:rows.length=n):aJ c rows.flatten (arr.toList.take (n*sz))/\(arr.toList.take (n*sz)).length=n*sz/\∀u∈arr.toList.take (n*sz),u.oneCell'=true:=by
 subst hn
 have hlen:=ga h.len
 have hsz:rows.length*sz<=arr.size:=by
  rcases Ui (rows.length*sz) with e|e
  ·omega
  ·have hq:rows.length*sz-1<rows.flatten.length:=by omega
   obtain⟨v,h1,_⟩:=h.flat (Tj hq)
   have:=(TI.1 h1).1
   omega
 refine⟨aJ.oR (by simp[hlen];omega) fun i s hs=> ?_,by simp;omega,fun u hu=> ?_⟩
 ·have hi:i<rows.length*sz:=by rw[<-hlen];exact(Tk.1 hs).1
  obtain⟨v,h1,_,h2⟩:=h.flat hs
  exact⟨v,by rw[Ut,Th hi];simpa using h1,h2⟩
 ·obtain⟨i,hi⟩:=Vv hu
  have hlt:i<rows.length*sz:=by have:=(Tk.1 hi).1;simp at this;omega
  obtain⟨v,h1,h2,_⟩:=h.flat (Tj (show i<rows.flatten.length by omega))
  rw[Ut,Th hlt,Ve,h1] at hi
  cases hi
  exact h2
theorem bL.flat {c:Ctx} {b size:Nat}:∀{rows:List (List SVal)} {i:Nat},bL c b size rows i->(∀r∈rows,r.length=size)/\∀(q:Nat) (s:SVal),rows.flatten[q]? =some s->∃u,c.fz b (i+q)=some u/\u.oneCell'=true/\Den c s u
 |[],_,_=>⟨fun r h=>absurd h List.not_mem_nil,fun q s h=>absurd h (by simp)⟩
 |row::r,i,⟨h1,h2,h3⟩=>by
  obtain⟨h4,h5⟩:=bL.flat h3
  refine⟨fun x hx=>by rcases Tv.1 hx with rfl|hx;exact h1;exact h4 x hx,fun q s hq=> ?_⟩
  rw[UB] at hq
  by_cases e:q<row.length
  ·rw[TE e] at hq
   exact h2.get hq
  ·rw[TG ii] at hq
   obtain⟨u,h6,h7⟩:=h5 _ s hq
   exact⟨u,by rw[<-h6];congr 1;omega,h7⟩
theorem iQ {w:World} {b:Nat} {arr:Array Value} {e:TypeId} {f:Nat×Nat} (h:w.heap[b]? =some (.cells arr e f)) (i:Nat):w.cell? ⟨b,i,none⟩=arr[i]? :=by simp[World.cell?,h]
inductive dm (st:St):SVal->List (List SVal)->Prop where
 |nil:dm st .ax []
 |aE {f:Bool} {rows:List (List SVal)}:dm st (.aE f rows) rows
 |own {k s m:Nat} {rows:List (List SVal)} {z:Bool}:st.look k=some (.row m rows s z)->dm st (.own k s) rows
theorem dm.spec {st:St} {x:SVal} {rows:List (List SVal)} (h:dm st x rows) {c:Ctx} {w:World} (hr:dD c st.look w) {u:Value} (hx:Den c x u) {sz:Nat} (hsz:∀r∈rows,r.length=sz):
  ∃a cap,u= .slice a rows.length cap/\rows.length<=cap/\∃news,aJ c rows.flatten news/\news.length=rows.length*sz/\(∀v∈news,v.oneCell'=true)/\
   (rows=[]\/∃b base,a=some ⟨b,base,none⟩/\∀j v,news[j]? =some v->w.cell? ⟨b,base+j,none⟩=some v):=by
 cases h with
 |nil=>cases hx;exact⟨none,0,rfl,Tp _,[],rfl,by simp,fun v hv=>(by cases hv),.inl rfl⟩
 |aE=>
  rcases hx with⟨rfl,a,cap,rfl,_⟩|⟨b,base,size,cap,rfl,h2,_,h4⟩
  ·exact⟨a,cap,rfl,TC _,[],rfl,by simp,fun v hv=>(by cases hv),.inl rfl⟩
  ·rcases Ui rows.length with e|e
   ·have:=TH.1 e
    subst this
    exact⟨_,cap,rfl,TC _,[],rfl,by simp,fun v hv=>(by cases hv),.inl rfl⟩
   ·obtain⟨h5,h6⟩:=h4.flat
    have hs:size=sz:=by
     rw[<-h5 _ (TT e),hsz _ (TT e)]
    subst hs
    have hlen:=ga h5
    have key:∀q,q<rows.length*size->∃s v,rows.flatten[q]? =some s/\w.cell? ⟨b,base+q,none⟩=some v/\v.oneCell'=true/\Den c s v:=fun q hq=>by
     have hq':q<rows.flatten.length:=by omega
     obtain⟨v,h7,h8,h9⟩:=h6 q _ (Tj hq')
     obtain⟨arr,ee,f,h10,h11⟩:=hr.fz _ _ _ h7
     exact⟨_,v,Tj hq',by rw[iQ h10];exact h11,h8,h9⟩
    refine⟨_,cap,rfl,h2,(List.range (rows.length*size)).map fun q=>(w.cell? ⟨b,base+q,none⟩).getD undef,aJ.oR (by simp[hlen]) fun i s hs=> ?_,by simp,fun v hv=> ?_,.inr ⟨b,base,rfl,fun j v hv=> ?_⟩⟩
    ·have hi:i<rows.length*size:=by rw[<-hlen];exact(Tk.1 hs).1
     obtain⟨s',v,h7,h8,_,h9⟩:=key i hi
     rw[h7] at hs
     cases hs
     exact⟨v,by simp[hi,h8],h9⟩
    ·obtain⟨q,hq,rfl⟩:=T4.1 hv
     obtain⟨s',v,h7,h8,h9,_⟩:=key q (UO.1 hq)
     rw[h8];exact h9
    ·have hj:j<rows.length*size:=by have:=(Tk.1 hv).1;simpa using this
     obtain⟨s',v',h7,h8,h9,_⟩:=key j hj
     simp[hj,h8] at hv
     rw[h8,hv]
 |own hk=>
  obtain⟨_,ob,st0,sz0,u0,h1,h2,h3⟩:=hx
  obtain⟨rfl,rfl,h4⟩:=tW hr hk h1
  cases h3 rfl
  rcases h4 with⟨rfl,rfl,a,rfl⟩|⟨b,arr,ee,cap,rfl,h5⟩
  ·exact⟨a,0,rfl,TC _,[],rfl,by simp,fun v hv=>(by cases hv),.inl rfl⟩
  ·have hl:=h5.elems.len
   rcases Ui rows.length with e|e
   ·have:=TH.1 e
    subst this
    exact⟨_,cap,h5.val,h5.fits,[],rfl,by simp,fun v hv=>(by cases hv),.inl rfl⟩
   ·have hs:sz0=sz:=by rw[<-hl _ (TT e),hsz _ (TT e)]
    subst hs
    obtain⟨h6,h7,h8⟩:=h5.elems.denL rfl
    refine⟨_,cap,h5.val,h5.fits,_,h6,h7,h8,.inr ⟨b,0,rfl,fun j v hv=> ?_⟩⟩
    rw[iQ h5.cells,Ue]
    rw[Ut] at hv
    split at hv
    ·simpa using hv
    ·cases hv
theorem dm.src {st:St} {x:SVal} {rows:List (List SVal)} (h:dm st x rows) {P:Program} {c:Ctx} {w:World} (hr:dD c st.look w) {u:Value} (hx:Den c x u) {sz:Nat} (hsz:∀r∈rows,r.length=sz) {tx e':TypeId} (hk:P.underlying tx=some (.slice e')):
  ∃news,aJ c rows.flatten news/\news.length=rows.length*sz/\Src P sz tx u rows.length news w:=by
 obtain⟨a,cap,rfl,h1,news,h2,h3,h4,h5⟩:=h.spec hr hx hsz
 refine⟨news,h2,h3,?_⟩
 rcases h5 with rfl|⟨b,base,rfl,h5⟩
 ·have:news=[]:=TH.1 (by rw[h3];simp)
  subst this
  have run:∀w':World,(Builtin.firstCells sz 0 (.slice a 0 cap)).run P w'= .ok #[] w':=fun w'=>by
   cases a with
   |none=>exact run_firstCells_none w' sz 0 0 cap
   |some a=>exact run_firstCells_some w' sz 0 a 0 cap [] (by simp) (fun j u hu=>by simp at hu)
  exact⟨.inl ⟨e',hk⟩,fun _=>rfl,run w,run w.drew,by simp,fun _ h=>by cases h⟩
 ·refine Src.ofSlice w hk _ _ _ news h3 (fun j v hv=> ?_) h4
  rw[gu]
  exact h5 j v hv
theorem newRow {st:St} {c:Ctx} {w w':World} (hr:dD c st.look w) (hf:c.ρ st.next=none) (hwf:Wf st) (g:df w w') {rows:List (List SVal)} {sz cap b:Nat} {arr:Array Value} {e:TypeId} (hb:w'.heap[b]? =some (.cells arr e (0,0))) (hbn:w.heap.size<=b)
  (hsz:arr.size=cap*sz) (hfit:rows.length<=cap) (hel:ef c rows sz arr):
  dD (iq c st.next (.row (some b) 0 sz (.slice (some ⟨b,0,none⟩) rows.length cap))) (st.fresh (.row sz rows 0 false)).look w'/\
   Step st.next (st.fresh (.row sz rows 0 false)).next c st.look w (iq c st.next (.row (some b) 0 sz (.slice (some ⟨b,0,none⟩) rows.length cap))) (st.fresh (.row sz rows 0 false)).look w':=
 gN hr hf hwf g (fun b' hb'=>by cases hb';exact hbn) ⟨rfl,rfl,arr,e,cap,rfl,hb,hsz,hfit,hel.le (qz _ hf),fun i v hv=>absurd hv (EE hr hbn i v)⟩
theorem gU {c:Ctx} {k s sz:Nat} {ob:Option Nat} {u:Value} (h:c.ρ k=some (.row ob s sz u)) (hu:∃a n cap,u= .slice a n cap):Den c (.own k s) u:=⟨hu,ob,s,sz,u,h,Tp _,fun _=>rfl⟩
def chunks (sz:Nat):Nat->List SVal->List (List SVal)
 |0,_=>[]
 |n+1,l=>l.take sz::chunks sz n (l.drop sz)
theorem sq (sz:Nat):∀(n:Nat) (l:List SVal),l.length=n*sz->(chunks sz n l).length=n/\(∀r∈chunks sz n l,r.length=sz)/\(chunks sz n l).flatten=l
 |0,l,h=>by
  have:l=[]:=TH.1 ii
  subst this
  exact⟨rfl,fun r hr=>(by cases hr),rfl⟩
 |n+1,l,h=>by
  rw[Um,U5] at h
  obtain⟨h1,h2,h3⟩:=sq sz n (l.drop sz) (by simp;omega)
  refine⟨by simp[chunks,h1],fun r hr=> ?_,by simp[chunks,h3]⟩
  rcases Tv.1 hr with rfl|hr
  ·simp;omega
  ·exact h2 r hr
def gb:List SVal->Bool
 |[]=>true
 |s::r=>va s&&gb r
theorem hZ:∀{l:List SVal},gb l=true->sd l
 |[],_=>fun s hs=>by cases hs
 |s::r,h=>by
  rw[gb,Tw] at h
  intro t ht
  rcases Tv.1 ht with rfl|ht
  ·exact h.1
  ·exact hZ h.2 t ht
def n5 (z:List SVal):Nat->List SVal
 |0=>[]
 |n+1=>z++n5 z n
theorem iO (z:List SVal):∀n,(n5 z n).length=n*z.length
 |0=>by simp[n5]
 |n+1=>by rw[n5,Tt,iO z n,Um];omega
theorem dP (z:List SVal):∀n,n5 z n=(List.replicate n z).flatten
 |0=>rfl
 |n+1=>by rw[n5,dP z n,U3,UB]
theorem wS {zs:Array Value} {n i:Nat} (h:i<n):(madeCells zs n)[i]? =some (zs[i % zs.size]!):=by simp[madeCells,h]
theorem qI {c:Ctx} {z:List SVal} {zs:List Value} (hd:aJ c z zs) (n:Nat):aJ c (n5 z n) (madeCells zs.toArray (n*zs.length)).toList:=by
 have hl:=hd.length
 refine aJ.oR (by simp[madeCells,iO,hl]) fun i s hs=> ?_
 rw[dP] at hs
 have hi:i<n*z.length:=by rw[<-iO z n,dP];exact(Tk.1 hs).1
 have hz:0<z.length:=VD fun e=>by rw[e] at hi;omega
 have hlen:∀r∈List.replicate n z,r.length=z.length:=fun r hr=>by rw[(UR.1 hr).2]
 have hdm:i/z.length*z.length+i % z.length=i:=by rw[VI];exact Nat.div_add_mod i z.length
 have hj:i % z.length<z.length:=Nat.mod_lt _ hz
 have hq:i/z.length<n:=(Nat.div_lt_iff_lt_mul hz).2 hi
 have:=jR (row:=z) hlen (i:=i/z.length) (by simp[hq]) hj
 rw[hdm,hs] at this
 obtain⟨v,h1,h2⟩:=hd.get this.symm
 refine⟨v,?_,h2⟩
 rw[Ve,wS (by rw[hl];exact hi)]
 simp only[Vo,hl]
 rw[show i % z.length=i % z.length from rfl]
 simp[h1,getElem!_def]
section
variable {P:Program} {E:Env} {o:Oper} {ev:jA} {st:St}
theorem ot {c:Ctx} {rows:List (List SVal)} {sz:Nat} {vs:List Value} (hlen:∀r∈rows,r.length=sz) (hd:aJ c rows.flatten vs) (hf:sd rows.flatten):ef c rows sz vs.toArray:=
 ef.of hlen fun q s hq=>by
  obtain⟨v,h1,h2⟩:=hd.get hq
  exact⟨v,by simpa using h1,kG hf hd v (Ts h1),h2⟩
theorem wH (hE:bt P E) {t elem:TypeId} {x y:Operand} {kl kc:IntKind} {li ci:Int} {l cp bytes size:Nat} {z:SVal} (ho:o.op= .makeSlice t x y) (hx:ev x=some (.int kl li)) (hy:ev y=some (.int kc ci)) (hl:li=(l:Int)) (hc:ci=(cp:Int)) (hlc:l<=cp) (hcb:cp<1000000000)
  (ht:dr E t=some elem) (hb:mL E elem=some bytes) (hsz:cQ E elem=some size) (hz:iH E elem=some z) (hb2:Nat.ble bytes 4096=true) (hzs:Nat.beq (bT z).length size=true) (hf:gb (bT z)=true):
  bD P o ev st (.own st.next 0) (st.fresh (.row size (List.replicate l (bT z)) 0 false)):=
 ⟨by simp[ho],dw _ _,fun{c w} hr hwf hf' {e} he=>by
  have hk:c.ρ st.next=none:=hf' _ (Tp _) (Ug _)
  have hu:=ck hE ht
  obtain⟨ie,hie,rfl,hsr⟩:=bU hE hsz
  obtain⟨ie',zv,hie',hzv,hdz,hzr⟩:=ey hE hz
  rw[hie] at hie'
  cases hie'
  obtain⟨ib,hib,rfl⟩:=ik hE hb
  rw[hie] at hib
  cases hib
  have hs:=dR (hdz c)
  have hzl:=hs.length
  have hzs:(bT z).length=ie.size:=UN hzs
  subst hl hc
  have hex:e x= .int kl l:=he x (by simp[ho,Op.operands]) _ hx
  have hey:e y= .int kc cp:=he y (by simp[ho,Op.operands]) _ hy
  have hzd:=qI hs cp
  have hfz:sd (n5 (bT z) cp):=fun s h=>by
   rw[dP] at h
   obtain⟨r,hr,hs⟩:=List.mem_flatten.1 h
   rw[(UR.1 hr).2] at hs
   exact hZ hf s hs
  have hel:ef c (List.replicate cp (bT z)) ie.size (madeCells zv.cells (cp*ie.size)):=by
   have:=ot (c:=c) (rows:=List.replicate cp (bT z)) (sz:=ie.size) (fun r hr=>by rw[(UR.1 hr).2];exact hzs) (by rw[<-dP];exact hzd) (by rw[<-dP];exact hfz)
   simpa[hzl,hzs] using this
  have hel2:ef c (List.replicate l (bT z)) ie.size (madeCells zv.cells (cp*ie.size)):=fun i row hr=>by
   have hi:i<l:=by have:=(Tk.1 hr).1;simpa using this
   refine hel i row ?_
   rw[Uk] at hr⊢
   rw[Th hi] at hr
   rw[Th ii]
   exact hr
  obtain⟨g1,g2⟩:=newRow (cap:=cp) (b:=w.heap.size) hr hk hwf (df.alloc w (.cells (madeCells zv.cells (cp*ie.size)) elem)) (fK w _) (Tp _) (by simp[madeCells]) (by simpa using hlc) hel2
  refine dG.val (S:=Instr.makeSlice t (e x) (e y)) (by simp only[execOp,ho]) ⟨_,.slice (some ⟨w.heap.size,0,none⟩) l cp,_,?_,gU (by rw[cI,Ty]) ⟨_,_,_,rfl⟩,g1,g2⟩
  rw[hex,hey]
  have hb2:ie.bytes<=4096:=cT hb2
  have hbc:(ie.bytes:Int)*(cp:Int)<=281474976710656:=by
   have:ie.bytes*cp<=4096*1000000000:=UI hb2 ii
   have h2:((ie.bytes*cp:Nat):Int)<=281474976710656:=by omega
   rwa [Int.natCast_mul] at h2
  have:=run_make (P:=P) w t elem ie zv hu hie hzv kl kc l cp ii ii hbc ii
  simpa using this⟩
end
section
variable {P:Program} {E:Env} {o:Oper} {ev:jA} {st st':St}
theorem cU {d:Go.Call} {b:Builtin} {ss:List SVal} {s:SVal} (ho:o.op= .call d) (hb:d.callee= .builtin b) (hev:lZ ev d.args.toList=some ss) (hsta:eJ st st') {S:List Value->Sem Value}
  (hS:∀us consts,builtin b d.argTypes o.type consts us.toArray=(do pure (.value (<-S us)):Sem Next))
  (h:∀{c:Ctx} {w:World},dD c st.look w->Wf st->pk c st.next st'.next->∀{us:List Value},aJ c ss us->mP P (S us) st st' s c w):bD P o ev st s st':=
 ⟨by simp[ho],hsta,fun{c w} hr hwf hf {e} he=>by
  have mem:∀x,x∈d.args.toList->∀s,ev x=some s->Den c s (e x):=fun x hx=>he x (by
   rw[ho]
   show x∈(_++d.args).toList
   rw[U4]
   exact Uq _ hx)
  refine dG.val (S:=S (d.args.toList.map e)) ?_ (h hr hwf hf (nN mem hev))
  simp only[execOp,ho,resolve,hb,pure_bind,Go.invoke]
  rw[<-hS]
  rw[nz]⟩
theorem two {c:Ctx} {a b:SVal} {us:List Value} (hd:aJ c [a,b] us):∃u v,Den c a u/\Den c b v/\us=[u,v]:=by
 obtain⟨u,l,h1,⟨v,l',h2,h3,rfl⟩,rfl⟩:=hd
 cases h3
 exact⟨u,v,h1,h2,rfl⟩
theorem one {c:Ctx} {a:SVal} {us:List Value} (hd:aJ c [a] us):∃u,Den c a u/\us=[u]:=by
 obtain⟨u,l,h1,h2,rfl⟩:=hd
 cases h2
 exact⟨u,h1,rfl⟩
theorem MP {t tx ty e:TypeId} {i:TypeInfo} (ht:P.underlying t=some (.slice e)) (hi:P.info? e=some i) {b off sLen sCap n:Nat} {x:Value} {news:List Value} {w w':World} (hs:Src P i.size tx x n news w) (hroom:sLen+n<=sCap)
  (hst:(storeCells ⟨b,off+sLen*i.size,none⟩ news).run P w= .ok () w'):
  (Builtin.append_ #[t,tx] ty #[.slice (some ⟨b,off,none⟩) sLen sCap,x]).run P w= .ok (.slice (some ⟨b,off,none⟩) (sLen+n) sCap) w':=by
 rcases hs.kind with⟨e',hk⟩|hk<;>simp[Builtin.append_,run_underlying ht,run_underlying hk,Go.sizeOf,typeInfo,hi,hs.len,hroom,hs.cells,Addr.add_lit,hst]
theorem Dl {t tx ty e:TypeId} {i:TypeInfo} (ht:P.underlying t=some (.slice e)) (hi:P.info? e=some i) {a:Option Addr} {sCap:Nat} {x:Value} {w:World} (hs:Src P i.size tx x 0 [] w):
  (Builtin.append_ #[t,tx] ty #[.slice a 0 sCap,x]).run P w= .ok (.slice a 0 sCap) w:=by
 rcases hs.kind with⟨e',hk⟩|hk<;>cases a<;>simp[Builtin.append_,run_underlying ht,run_underlying hk,Go.sizeOf,typeInfo,hi,hs.len,hs.cells]<;>rfl
theorem nG {need old bytes:Nat} (h:old<need) (hn:need<=2147483648) (hb:bytes<=4096):Builtin.nextslicecap need old*bytes<=281474976710656:=by
 refine growslice_fits h ?_
 have:=UI hn hb
 omega
theorem jQ {zc:Array Value} {size need cap:Nat} {xs:List Value} (hz:zc.size=size) (hx:xs.length=need*size) (hc:need<=cap):(xs.toArray++Builtin.zeroCells zc (cap-need)).size=cap*size:=by
 rw[VQ,size_zeroCells,Vo,hx,hz,<-Um]
 congr 1
 omega
structure Qn (P:Program) (E:Env) (d:Go.Call) (t tx e size:Nat):Prop where
 ts:d.argTypes= #[t,tx]
 el:dr E t=some e
 src:∃e',dr E tx=some e'
 sz:cQ E e=some size
 bytes:∃b,mL E e=some b/\Nat.ble b 4096=true
 zero:∃z,iH E e=some z/\Nat.beq (bT z).length size=true
theorem jS {c:Ctx} {rows new:List (List SVal)} {sz:Nat} {olds news:List Value} {tail:Array Value} (h1:aJ c rows.flatten olds) (h2:aJ c new.flatten news) (o1:∀v∈olds,v.oneCell'=true) (o2:∀v∈news,v.oneCell'=true)
  (l1:∀r∈rows,r.length=sz) (l2:∀r∈new,r.length=sz):ef c (rows++new) sz ((olds++news).toArray++tail):=
 ef.of (fun r hr=>(Tz.1 hr).elim (l1 r) (l2 r)) fun q s hq=>by
  rw[List.flatten_append] at hq
  obtain⟨v,h3,h4⟩:=(aJ.append.2 ⟨_,_,h1,h2,rfl⟩:aJ c (rows.flatten++new.flatten) (olds++news)).get hq
  have hlt:=(Tk.1 h3).1
  refine⟨v,by rw[Array.getElem?_append_left (by simpa using hlt)];simpa using h3,?_,h4⟩
  rcases Tz.1 (Ts h3) with h|h
  ·exact o1 v h
  ·exact o2 v h
theorem mb (hE:bt P E) {d:Go.Call} {t tx e size:Nat} {a x:SVal} {new:List (List SVal)} (ho:o.op= .call d) (hb:d.callee= .builtin .append) (hev:lZ ev d.args.toList=some [a,x]) (hT:Qn P E d t tx e size) (ha:a= .ax\/a= .aE true [])
  (hx:dm st x new) (hl:∀r∈new,r.length=size) (hn:new.length<=1000000000):bD P o ev st (.own st.next 0) (st.fresh (.row size new 0 false)):=
 cU (S:=fun us=>Builtin.append_ d.argTypes o.type us.toArray) ho hb hev (dw _ _) (fun us consts=>rfl) fun{c w} hr hwf hf us hd=>by
  obtain⟨u,v,hu,hv,rfl⟩:=two hd
  have hk:c.ρ st.next=none:=hf _ (Tp _) (Ug _)
  obtain⟨e',he'⟩:=hT.src
  obtain⟨by4,hby,hb4⟩:=hT.bytes
  obtain⟨z,hz,hzl⟩:=hT.zero
  have ht:=ck hE hT.el
  obtain⟨ie,hie,rfl,_⟩:=bU hE hT.sz
  obtain⟨ib,hib,rfl⟩:=ik hE hby
  rw[hie] at hib
  cases hib
  obtain⟨iz,zv,hiz,hzv,hdz,_⟩:=ey hE hz
  rw[hie] at hiz
  cases hiz
  have hzs:zv.cells.size=ie.size:=by
   have:=(dR (hdz ⟨fun _=>none,fun _ _=>none⟩)).length
   have h5:=UN hzl
   simp at this
   omega
  obtain⟨news,h1,h2,h3⟩:=hx.src (P:=P) hr hv hl (ck hE he')
  have hbase:∃a0,u= .slice a0 0 0:=by
   rcases ha with rfl|rfl
   ·cases hu;exact⟨none,rfl⟩
   ·rcases hu with⟨_,a0,cap,rfl,hc⟩|⟨b,base,size,cap,rfl,_,hc,_⟩
    ·rw[hc rfl];exact⟨a0,rfl⟩
    ·rw[hc rfl];exact⟨_,rfl⟩
  obtain⟨a0,rfl⟩:=hbase
  rw[hT.ts]
  rcases Ui new.length with h0|h0
  ·have:=TH.1 h0
   subst this
   have hn0:news=[]:=TH.1 (by rw[h2];simp)
   subst hn0
   obtain⟨g1,g2⟩:=gN (o:= .row ie.size [] 0 false) (l:= .row none 0 ie.size (.slice a0 0 0)) hr hk hwf (df.refl w) (fun b hb=>by cases hb) ⟨rfl,rfl,rfl,a0,rfl⟩
   exact⟨_,.slice a0 0 0,w,Dl ht hie h3,gU (cI _ _ _) ⟨_,_,_,rfl⟩,g1,g2⟩
  ·have hfirst:(Builtin.firstCells ie.size 0 (.slice a0 0 0)).run P w.drew= .ok ([]:List Value).toArray w.drew:=by
    cases a0 with
    |none=>exact run_firstCells_none w.drew ie.size 0 0 0
    |some a=>exact run_firstCells_some w.drew ie.size 0 a 0 0 [] (by simp) (fun j u hu=>by simp at hu)
   have hge:=grownCap_ge w (0+new.length) 0 e
   have hrun:=run_append_grow_src w t tx o.type e ie zv ht hie hzv a0 0 0 [] hfirst v new.length news h3 ii ii (nG ii ii (cT hb4))
   have hsz:=jQ (xs:=[]++news) (need:=0+new.length) hzs (by simp[h2]) hge
   obtain⟨g1,g2⟩:=newRow (w':=w.drew.alloc (.cells (([]++news).toArray++Builtin.zeroCells zv.cells (grownCap w (0+new.length) 0 e-(0+new.length))) e)) (cap:=grownCap w (0+new.length) 0 e) (b:=w.heap.size) hr hk hwf
    ((df.drew w _).trans (df.alloc _ _)) (fK w.drew _) (Tp _) hsz (rows:=new) ii (by
     have:=jS (c:=c) (rows:=[]) (olds:=[]) (tail:=Builtin.zeroCells zv.cells (grownCap w (0+new.length) 0 e-(0+new.length))) rfl h1 (fun v hv=>by cases hv) h3.one (fun r hr=>by cases hr) hl
     simpa using this)
   rw[Ue] at hrun g1 g2
   exact⟨_,_,_,hrun,gU (cI _ _ _) ⟨_,_,_,rfl⟩,g1,g2⟩
theorem sE (hE:bt P E) {d:Go.Call} {t tx e size:Nat} {x:SVal} {rows new:List (List SVal)} (ho:o.op= .call d) (hb:d.callee= .builtin .append) (hev:lZ ev d.args.toList=some [.aE true rows,x]) (hT:Qn P E d t tx e size)
  (hx:dm st x new) (hl:∀r∈new,r.length=size) (hlr:∀r∈rows,r.length=size) (h0:1<=new.length) (hn:rows.length+new.length<=1000000000):bD P o ev st (.own st.next 0) (st.fresh (.row size (rows++new) 0 false)):=
 cU (S:=fun us=>Builtin.append_ d.argTypes o.type us.toArray) ho hb hev (dw _ _) (fun us consts=>rfl) fun{c w} hr hwf hf us hd=>by
  obtain⟨u,v,hu,hv,rfl⟩:=two hd
  have hk:c.ρ st.next=none:=hf _ (Tp _) (Ug _)
  obtain⟨e',he'⟩:=hT.src
  obtain⟨by4,hby,hb4⟩:=hT.bytes
  obtain⟨z,hz,hzl⟩:=hT.zero
  have ht:=ck hE hT.el
  obtain⟨ie,hie,rfl,_⟩:=bU hE hT.sz
  obtain⟨ib,hib,rfl⟩:=ik hE hby
  rw[hie] at hib
  cases hib
  obtain⟨iz,zv,hiz,hzv,hdz,_⟩:=ey hE hz
  rw[hie] at hiz
  cases hiz
  have hzs:zv.cells.size=ie.size:=by
   have:=(dR (hdz ⟨fun _=>none,fun _ _=>none⟩)).length
   have h5:=UN hzl
   simp at this
   omega
  obtain⟨news,h1,h2,h3⟩:=hx.src (P:=P) hr hv hl (ck hE he')
  obtain⟨olds,o1,o2,o3⟩:=(dm.aE (st:=st) (f:=true) (rows:=rows)).src (P:=P) hr hu hlr ht
  have hbase:∃a0,u= .slice a0 rows.length rows.length:=by
   rcases hu with⟨rfl,a0,cap,rfl,hc⟩|⟨b,base,size,cap,rfl,_,hc,_⟩
   ·rw[hc rfl];exact⟨a0,rfl⟩
   ·rw[hc rfl];exact⟨_,rfl⟩
  obtain⟨a0,rfl⟩:=hbase
  rw[hT.ts]
  have hge:=grownCap_ge w (rows.length+new.length) rows.length e
  have hrun:=run_append_grow_src w t tx o.type e ie zv ht hie hzv a0 rows.length rows.length olds o3.cellsD v new.length news h3 ii ii (nG ii ii (cT hb4))
  have hsz:=jQ (xs:=olds++news) (need:=rows.length+new.length) hzs (by rw[Tt,o2,h2,Um]) hge
  obtain⟨g1,g2⟩:=newRow (w':=w.drew.alloc (.cells ((olds++news).toArray++Builtin.zeroCells zv.cells (grownCap w (rows.length+new.length) rows.length e-(rows.length+new.length))) e)) (cap:=grownCap w (rows.length+new.length) rows.length e) (b:=w.heap.size) hr hk hwf
   ((df.drew w _).trans (df.alloc _ _)) (fK w.drew _) (Tp _) hsz (rows:=rows++new) (by simpa using hge)
   (jS (tail:=Builtin.zeroCells zv.cells (grownCap w (rows.length+new.length) rows.length e-(rows.length+new.length))) o1 h1 o3.one h3.one hlr hl)
  rw[Tt] at g1 g2
  exact⟨_,_,_,hrun,gU (cI _ _ _) ⟨_,_,_,rfl⟩,g1,g2⟩
theorem tQ (hE:bt P E) {d:Go.Call} {t tx e size k s:Nat} {x:SVal} {rows new:List (List SVal)} {z:Bool} (ho:o.op= .call d) (hb:d.callee= .builtin .append) (hev:lZ ev d.args.toList=some [.own k s,x]) (hT:Qn P E d t tx e size) (hk:st.look k=some (.row size rows s z))
  (hx:dm st x new) (hl:∀r∈new,r.length=size) (hn:rows.length+new.length<=1000000000):bD P o ev st (.own k (s+1)) (st.put k (.row size (rows++new) (s+1) z)):=
 cU (S:=fun us=>Builtin.append_ d.argTypes o.type us.toArray) ho hb hev (dt _ hk) (fun us consts=>rfl) fun{c w} hr hwf hf us hd=>by
  obtain⟨u,v,hu,hv,rfl⟩:=two hd
  obtain⟨e',he'⟩:=hT.src
  obtain⟨by4,hby,hb4⟩:=hT.bytes
  obtain⟨zz,hz,hzl⟩:=hT.zero
  have ht:=ck hE hT.el
  obtain⟨ie,hie,hsize,_⟩:=bU hE hT.sz
  obtain⟨ib,hib,rfl⟩:=ik hE hby
  rw[hie] at hib
  cases hib
  obtain⟨iz,zv,hiz,hzv,hdz,_⟩:=ey hE hz
  rw[hie] at hiz
  cases hiz
  have hzs:zv.cells.size=size:=by
   have:=(dR (hdz ⟨fun _=>none,fun _ _=>none⟩)).length
   have h5:=UN hzl
   simp at this
   omega
  obtain⟨news,h1,h2,h3⟩:=hx.src (P:=P) hr hv hl (ck hE he')
  obtain⟨_,ob,st0,sz,u0,hρ,_,hval⟩:=hu
  obtain⟨rfl,rfl,hat⟩:=tW hr hk hρ
  cases hval rfl
  subst hsize
  rw[hT.ts]
  have place:∀(b':Option Nat) (w':World) (u':Value),(∃a n cap,u'= .slice a n cap)->(∀r,b'=some r->ob=some r\/w.heap.size<=r)->QP ob w w'->
    (∀b i v,ob=some b->c.fz b i=some v->∃arr e f,w'.heap[b]? =some (.cells arr e f)/\arr[i]? =some v)->(∀c':Ctx,Le c c'->c'.fz=c.fz->eK c' (.row ie.size (rows++new) (st0+1) z) (.row b' (st0+1) ie.size u') w')->
    (Builtin.append_ #[t,tx] o.type #[u,v]).run P w= .ok u' w'->mP P (Builtin.append_ #[t,tx] o.type #[u,v]) st (st.put k (.row ie.size (rows++new) (st0+1) z)) (.own k (st0+1)) c w:=by
   intro b' w' u' hu' hblk hbut hfz hob hrun
   have hle:Le c ⟨fun n=>if n=k then some (.row b' (st0+1) ie.size u') else c.ρ n,c.fz⟩:=⟨fun n l e=>by
    by_cases en:n=k
    ·subst en
     rw[hρ] at e
     cases e
     exact⟨_,Th rfl,.inr ⟨b',_,_,u',rfl,Ug _⟩⟩
    ·exact⟨l,by show(if n=k then _ else _)=_;rw[Ti en];exact e,dz.refl l⟩,fun _ _ _ h=>h⟩
   obtain⟨r1,r2⟩:=eE (o':= .row ie.size (rows++new) (st0+1) z) (c':=⟨fun n=>if n=k then some (.row b' (st0+1) ie.size u') else c.ρ n,c.fz⟩) hr hk hρ (Th rfl) (.inr ⟨b',_,_,u',rfl,Ug _⟩) (fun n hn=>Ti hn) (fun _ _ _ h=>h) (fun _ _ _ h=> .inl h) hblk hbut
    hfz (hob _ hle rfl)
   exact⟨_,u',w',hrun,gU (Th rfl) hu',r1,r2⟩
  have grow:∀(a0:Option Addr) (cap:Nat) (olds:List Value),u= .slice a0 rows.length cap->cap<rows.length+new.length->aJ c rows.flatten olds->olds.length=rows.length*ie.size->(∀x∈olds,x.oneCell'=true)->(∀r∈rows,r.length=ie.size)->
    (Builtin.firstCells ie.size rows.length (.slice a0 rows.length cap)).run P w.drew= .ok olds.toArray w.drew->(∀b i v,ob=some b->c.fz b i=some v->b<w.heap.size)->mP P (Builtin.append_ #[t,tx] o.type #[u,v]) st (st.put k (.row ie.size (rows++new) (st0+1) z)) (.own k (st0+1)) c w:=by
   intro a0 cap olds hu hlt hold hol hone hrl hfirst hfzlt
   have hge:=grownCap_ge w (rows.length+new.length) cap e
   have hrun:=run_append_grow_src w t tx o.type e ie zv ht hie hzv a0 rows.length cap olds hfirst v new.length news h3 hlt ii (nG hlt ii (cT hb4))
   have hsz:=jQ (xs:=olds++news) (need:=rows.length+new.length) hzs (by rw[Tt,hol,h2,Um]) hge
   have g:=(df.drew w (w.drawn+1)).trans (df.alloc w.drew (.cells ((olds++news).toArray++Builtin.zeroCells zv.cells (grownCap w (rows.length+new.length) cap e-(rows.length+new.length))) e))
   refine place (some w.heap.size) _ _ ⟨_,_,_,rfl⟩ (fun r hr=>by cases hr;exact .inr (Tp _)) (g.but _) (fun b i v hb hv=> ?_) (fun c' hle hfz=> ?_) (by rw[hu];exact hrun)
   ·rw[show _=_ from g.old b (hfzlt b i v hb hv)]
    exact hr.fz b i v hv
   ·exact⟨rfl,rfl,_,e,_,⟨by simp,fK w.drew _,hsz,by simpa using hge,jS (aJ.le hle _ _ hold) (aJ.le hle _ _ h1) hone h3.one hrl hl,fun i v hv=>absurd (hfz▸hv) (EE hr (Tp _) i v)⟩⟩
  rcases hat with⟨rfl,rfl,a0,rfl⟩|⟨b,arr,ee,cap,rfl,hin⟩
  ·
   rcases Ui new.length with h0|h0
   ·have:=TH.1 h0
    subst this
    have hn0:news=[]:=TH.1 (by rw[h2];simp)
    subst hn0
    exact place none w _ ⟨_,_,_,rfl⟩ (fun r hr=>by cases hr) ((df.refl w).but _) (fun b i v hb=>by cases hb) (fun c' _ _=>⟨rfl,rfl,rfl,a0,rfl⟩) (Dl ht hie h3)
   ·refine grow a0 0 [] rfl (by simpa using h0) rfl (by simp) (fun v hv=>by cases hv) (fun r hr=>by cases hr) ?_ (fun b i v hb=>by cases hb)
    cases a0 with
    |none=>exact run_firstCells_none w.drew ie.size 0 0 0
    |some a=>exact run_firstCells_some w.drew ie.size 0 a 0 0 [] (by simp) (fun j u hu=>by simp at hu)
  ·have hrl:∀r∈rows,r.length=ie.size:=hin.elems.len
   obtain⟨d1,d2,d3⟩:=hin.elems.denL rfl
   have hval:=hin.val
   subst hval
   by_cases hroom:rows.length+new.length<=cap
   ·
    have hcap:(rows.length+new.length)*ie.size<=cap*ie.size:=UA _ hroom
    rw[Um] at hcap
    have hsz:=hin.size
    obtain⟨s1,s2,s3⟩:=kR (off:=rows.length*ie.size) hin.cells (vs:=news) ii h3.one
    have hrun:=MP (w':=stored w b (rows.length*ie.size) arr news) (ty:=o.type) ht hie (b:=b) (off:=0) (sLen:=rows.length) (sCap:=cap) h3 hroom (by simpa using s1 P)
    have hge:∀i v,i<rows.length*ie.size->arr[i]? =some v->(arr.toList.take (rows.length*ie.size)++(news++arr.toList.drop (rows.length*ie.size+news.length))).toArray[i]? =some v:=fun i v hi hv=>by
     rw[UY,uu _ _ _ (by simp;omega),Th hi]
     simpa using hv
    refine place (some b) _ _ ⟨_,_,_,rfl⟩ (fun r hr=> .inl hr) s2 (fun b' i v hb hv=> ?_) (fun c' hle hfz=> ?_) hrun
    ·cases hb
     obtain⟨arr2,e2,f2,h5,h6⟩:=hr.fz _ _ _ hv
     rw[hin.cells] at h5
     cases h5
     exact⟨_,_,_,s3,hge i v (hin.fz i v hv).2 h6⟩
    ·refine⟨rfl,rfl,_,ee,cap,⟨by simp,s3,by simp;omega,by simpa using hroom,?_,fun i v hv=> ?_⟩⟩
     ·refine ef.of (fun r hr=>(Tz.1 hr).elim (hrl r) (hl r)) fun q s hq=> ?_
      have hd:=(aJ.append.2 ⟨_,_,aJ.le hle _ _ d1,aJ.le hle _ _ h1,rfl⟩:aJ c' (rows.flatten++new.flatten) (arr.toList.take (rows.length*ie.size)++news))
      rw[<-List.flatten_append] at hd
      obtain⟨x,hx1,hx2⟩:=hd.get hq
      refine⟨x,?_,?_,hx2⟩
      ·rw[<-TP,UY,TE (Tk.1 hx1).1]
       exact hx1
      ·rcases Tz.1 (Ts hx1) with h|h
       ·exact d3 x h
       ·exact h3.one x h
     ·obtain⟨h5,h6⟩:=hin.fz i v (hfz▸hv)
      exact⟨h5,by rw[Tt,Um];omega⟩
   ·refine grow _ cap _ rfl ii d1 d2 d3 hrl ?_ (fun b i v _ hv=>Cx hr hv)
    refine run_firstCells_some w.drew ie.size rows.length ⟨b,0,none⟩ rows.length cap _ d2 fun j v hv=> ?_
    rw[gu,Ue,iQ (w:=w.drew) hin.cells]
    rw[Ut] at hv
    split at hv
    ·simpa using hv
    ·cases hv
end
section
variable {P:Program} {E:Env} {o:Oper} {ev:jA} {st:St}
theorem F4 {d:Go.Call} {t:TypeId} {n:Nat} {w:World} {u:Value} {ty:TypeId} (ht:d.argTypes[0]? =some t) (h:(P.underlying t=some .string\/∃e,P.underlying t=some (.slice e))/\((∃s,u= .string s/\s.size=n)/\P.underlying t=some .string\/(∃a cap,u= .slice a n cap)/\∃e,P.underlying t=some (.slice e))):
  (Builtin.len_ d.argTypes ty #[u]).run P w= .ok (.int .i64 n) w:=by
 rcases h.2 with⟨⟨s,rfl,rfl⟩,hu⟩|⟨⟨a,cap,rfl⟩,e,hu⟩
 ·simp[Builtin.len_,ht,run_underlying hu,goInt]
 ·simp[Builtin.len_,ht,run_underlying hu,goInt]
theorem Br (hE:bt P E) {d:Go.Call} {t:TypeId} {l:List UInt8} (ho:o.op= .call d) (hb:d.callee= .builtin .len) (hev:lZ ev d.args.toList=some [.str l]) (ht:d.argTypes[0]? =some t) (hu:under E t=some .string):bD P o ev st (.int .i64 l.length) st:=
 cU (S:=fun us=>Builtin.len_ d.argTypes o.type us.toArray) ho hb hev (eJ.refl _) (fun us consts=>rfl) fun{c w} hr hwf hf us hd=>by
  obtain⟨u,hu',rfl⟩:=one hd
  cases hu'
  have h:=bO hE hu
  exact mP.same hr (v:= .int .i64 l.length) (F4 ht ⟨.inl h,.inl ⟨⟨_,rfl,rfl⟩,h⟩⟩) rfl
theorem zo (hE:bt P E) {d:Go.Call} {t e:TypeId} {x:SVal} {rows:List (List SVal)} (ho:o.op= .call d) (hb:d.callee= .builtin .len) (hev:lZ ev d.args.toList=some [x]) (ht:d.argTypes[0]? =some t) (hu:dr E t=some e) (hx:dm st x rows):bD P o ev st (.int .i64 rows.length) st:=
 cU (S:=fun us=>Builtin.len_ d.argTypes o.type us.toArray) ho hb hev (eJ.refl _) (fun us consts=>rfl) fun{c w} hr hwf hf us hd=>by
  obtain⟨u,hu',rfl⟩:=one hd
  have h:=ck hE hu
  have hs:∃a cap,u= .slice a rows.length cap:=by
   cases hx with
   |nil=>cases hu';exact⟨_,_,rfl⟩
   |aE=>
    rcases hu' with⟨rfl,a,cap,rfl,_⟩|⟨b,base,size,cap,rfl,_⟩
    ·exact⟨_,_,rfl⟩
    ·exact⟨_,_,rfl⟩
   |own hk=>
    obtain⟨_,ob,st0,sz,u0,hρ,_,hval⟩:=hu'
    obtain⟨rfl,rfl,hat⟩:=tW hr hk hρ
    cases hval rfl
    rcases hat with⟨rfl,rfl,a,rfl⟩|⟨b,arr,ee,cap,rfl,hin⟩
    ·exact⟨_,_,rfl⟩
    ·exact⟨_,_,hin.val⟩
  exact mP.same hr (v:= .int .i64 rows.length) (F4 ht ⟨.inr ⟨e,h⟩,.inr ⟨hs,e,h⟩⟩) rfl
theorem Bs (hE:bt P E) {d:Go.Call} {t k0 e0:TypeId} {k:Nat} {es:List (SVal×SVal)} (ho:o.op= .call d) (hb:d.callee= .builtin .len) (hev:lZ ev d.args.toList=some [.map k]) (ht:d.argTypes[0]? =some t) (hu:under E t=some (.map k0 e0)) (hk:st.look k=some (.map es)):bD P o ev st (.int .i64 es.length) st:=
 cU (S:=fun us=>Builtin.len_ d.argTypes o.type us.toArray) ho hb hev (eJ.refl _) (fun us consts=>rfl) fun{c w} hr hwf hf us hd=>by
  obtain⟨u,⟨b,hb,rfl⟩,rfl⟩:=one hd
  have h:=bO hE hu
  obtain⟨l',h1,h2⟩:=hr.dF _ _ hk
  rw[hb] at h1
  cases h1
  obtain⟨ents,clock,h3,h4⟩:=h2
  have:ents.size=es.length:=by rw[<-h4.1];simp
  exact mP.same hr (v:= .int .i64 es.length) (by simp[Builtin.len_,ht,run_underlying h,MapKept.run_getObj_map h3,goInt,this]) rfl
theorem Bt (hE:bt P E) {d:Go.Call} {t e:TypeId} {n:Nat} {x:SVal} (ho:o.op= .call d) (hb:d.callee= .builtin .len) (hev:lZ ev d.args.toList=some [x]) (ht:d.argTypes[0]? =some t) (hu:under E t=some (.array n e)):bD P o ev st (.int .i64 n) st:=
 cU (S:=fun us=>Builtin.len_ d.argTypes o.type us.toArray) ho hb hev (eJ.refl _) (fun us consts=>rfl) fun{c w} hr hwf hf us hd=>by
  obtain⟨u,_,rfl⟩:=one hd
  have h:=bO hE hu
  exact mP.same hr (v:= .int .i64 n) (by simp[Builtin.len_,ht,run_underlying h,goInt]) rfl
theorem Kh {d:Go.Call} {k:IntKind} {a b:Int} (ho:o.op= .call d) (hb:d.callee= .builtin .max) (hev:lZ ev d.args.toList=some [.int k a,.int k b]):bD P o ev st (.int k (if b>a then b else a)) st:=
 cU (S:=fun us=>Builtin.max_ d.argTypes o.type us.toArray) ho hb hev (eJ.refl _) (fun us consts=>rfl) fun{c w} hr hwf hf us hd=>by
  obtain⟨u,v,hu,hv,rfl⟩:=two hd
  cases hu;cases hv
  exact mP.same hr (v:= .int k (if b>a then b else a)) (by simp[Builtin.max_,Builtin.max2]) rfl
theorem Kg {d:Go.Call} {k:IntKind} {a b:Int} (ho:o.op= .call d) (hb:d.callee= .builtin .min) (hev:lZ ev d.args.toList=some [.int k a,.int k b]):bD P o ev st (.int k (if b<a then b else a)) st:=
 cU (S:=fun us=>Builtin.min_ d.argTypes o.type us.toArray) ho hb hev (eJ.refl _) (fun us consts=>rfl) fun{c w} hr hwf hf us hd=>by
  obtain⟨u,v,hu,hv,rfl⟩:=two hd
  cases hu;cases hv
  exact mP.same hr (v:= .int k (if b<a then b else a)) (by simp[Builtin.min_,Builtin.min2]) rfl
noncomputable def ym (ev:jA) (x:Option Operand):Option (Option Int):=
 match x with
 |none=>some none
 |some x=>eH (ev x) fun v=>match v with
  | .int _ n=>some (some n)
  |_=>none
theorem gn {k:IntKind} {n y:Nat} (h:n<=y) (c:BoundsCode) (w:World):(Instr.sliceBound (.int k n) y c).run P w= .ok n w:=by
 have hj:(0:Int)<=(n:Int)/\(n:Int)<=(y:Int):=by omega
 simp only[Instr.sliceBound,Sem.run_bind,asIntOf,Sem.run_pure,Result.andThen_ok,hj,and_self,Vx,T9]
def iv (x:Option Int) (d:Nat) (n:Nat):Prop:=match x with
 |none=>n=d
 |some i=>i=(n:Int)
theorem lf {c:Ctx} {e:Operand->Value} {x:Option Operand} {b:Option Int} (h:ym ev x=some b) (he:∀y,x=some y->∀s,ev y=some s->Den c s (e y)):(b=none/\x.map e=none)\/∃k i,b=some i/\x.map e=some (.int k i):=by
 unfold ym at h
 cases x with
 |none=>cases h;exact .inl ⟨rfl,rfl⟩
 |some x=>
  have h:eH (ev x) (fun v=>match v with| .int _ n=>some (some n)|_=>none)=some b:=h
  rw[bf] at h
  obtain⟨v,h1,h2⟩:=h
  have hd:=he x rfl v h1
  cases v<;>simp only[T8,reduceCtorEq] at h2
  rename_i k n
  subst h2
  exact .inr ⟨k,n,rfl,by rw[UK,show e x= .int k n from hd]⟩
theorem nS {len cap l h:Nat} {lo hi:Option Value} (hl:(lo=none/\l=0)\/∃k,lo=some (.int k l)) (hh:(hi=none/\h=len)\/∃k,hi=some (.int k h)) (h1:l<=h) (h2:h<=cap) (b:Bool) (w:World):
  (Instr.sliceBounds b len cap lo hi none).run P w= .ok (l,h,cap) w:=by
 rcases hl with⟨rfl,rfl⟩|⟨k,rfl⟩<;>rcases hh with⟨rfl,rfl⟩|⟨k2,rfl⟩
 ·simp[Instr.sliceBounds]
 ·simp[Instr.sliceBounds,gn (P:=P) h2]
 ·simp[Instr.sliceBounds,gn (P:=P) h1]
 ·simp[Instr.sliceBounds,gn (P:=P) h1,gn (P:=P) h2]
theorem Ha {len cap l h m:Nat} {lo:Option Value} {k1 k2:IntKind} (hl:(lo=none/\l=0)\/∃k,lo=some (.int k l)) (h1:l<=h) (h2:h<=m) (h3:m<=cap) (b:Bool) (w:World):
  (Instr.sliceBounds b len cap lo (some (.int k1 h)) (some (.int k2 m))).run P w= .ok (l,h,m) w:=by
 rcases hl with⟨rfl,rfl⟩|⟨k,rfl⟩
 ·simp[Instr.sliceBounds,gn (P:=P) h2,gn (P:=P) h3]
 ·simp[Instr.sliceBounds,gn (P:=P) h1,gn (P:=P) h2,gn (P:=P) h3]
theorem Je (s:List UInt8) (l h:Nat):(⟨s.toArray⟩:ByteArray).extract l h=⟨((s.take h).drop l).toArray⟩:=by
 rw[ByteArray.extract_mk,List.drop_take]
theorem gR {x:Option Value} {b:Option Int} {d n:Nat} (h:(b=none/\x=none)\/∃k i,b=some i/\x=some (.int k i)) (hb:iv b d n):(x=none/\n=d)\/∃k,x=some (.int k n):=by
 rcases h with⟨rfl,rfl⟩|⟨k,i,rfl,rfl⟩
 ·exact .inl ⟨rfl,hb⟩
 ·exact .inr ⟨k,by rw[show i=(n:Int) from hb]⟩
theorem wB (hE:bt P E) {t:TypeId} {x:Operand} {lo hi:Option Operand} {s:List UInt8} {bl bh:Option Int} {l h:Nat} (ho:o.op= .slice t x lo hi none) (hx:ev x=some (.str s)) (ht:under E t=some .string) (hl:ym ev lo=some bl) (hh:ym ev hi=some bh)
  (hbl:iv bl 0 l) (hbh:iv bh s.length h) (h1:l<=h) (h2:h<=s.length):bD P o ev st (.str ((s.take h).drop l)) st:=
 ⟨by simp[ho],eJ.refl _,fun{c w} hr _ _ {e} he=>by
  have hu:=bO hE ht
  have hs:e x= .string ⟨s.toArray⟩:=he x (by simp[ho,Op.operands]) _ hx
  have d1:=gR (lf (c:=c) (e:=e) hl (fun y hy=>he y (by subst hy;simp[ho,Op.operands]))) hbl
  have d2:=gR (lf (c:=c) (e:=e) hh (fun y hy=>he y (by subst hy;simp[ho,Op.operands]))) hbh
  refine dG.val (S:=Instr.sliceAt t (e x) (lo.map e) (hi.map e) none) (by simp only[execOp,ho];rfl) (mP.same hr (v:= .string ⟨((s.take h).drop l).toArray⟩) ?_ rfl)
  have e2:(⟨s.toArray⟩:ByteArray).size=s.length:=rfl
  have hb:=nS (P:=P) (len:=s.length) (cap:=s.length) d1 d2 h1 h2 false w
  simp only[hs,Instr.sliceAt,Instr.slice,Sem.run_bind,run_underlying hu,Result.andThen_ok,Option.isSome_none,Uz,Vk,e2,hb,Sem.run_pure,Je]⟩
theorem iX {t e:TypeId} {a:Option Addr} {len cap l h m sz:Nat} {lo hi mx:Option Value} (hu:P.underlying t=some (.slice e)) (hs:∀w,(Go.sizeOf e).run P w= .ok sz w) {w:World} (hb:(Instr.sliceBounds true len cap lo hi mx).run P w= .ok (l,h,m) w):
  ∃a',(Instr.slice t (.slice a len cap) lo hi mx).run P w= .ok (.slice a' (h-l) (m-l)) w/\∀b o,a=some ⟨b,o,none⟩->(m=l/\a'=some ⟨b,o,none⟩)\/a'=some ⟨b,o+l*sz,none⟩:=by
 cases a with
 |none=>
  refine⟨none,?_,fun b o h=>by cases h⟩
  simp only[Instr.slice,Sem.run_bind,run_underlying hu,Result.andThen_ok,hb,hs w,Sem.run_pure,Option.map_none,ite_self]
 |some a=>
  refine⟨some (if m=l then a else a.add (l*sz)),?_,fun b o h=> ?_⟩
  ·simp only[Instr.slice,Sem.run_bind,run_underlying hu,Result.andThen_ok,hb,hs w,Sem.run_pure]
   split<;>rfl
  ·cases h
   by_cases e:m=l
   ·exact .inl ⟨e,by rw[Th e]⟩
   ·exact .inr (by rw[Ti e,gu])
theorem CL {c:Ctx} {b size:Nat} {rows:List (List SVal)} {i:Nat} (h:bL c b size rows i) (l n:Nat):bL c b size ((rows.take n).drop l) (i+l*size):=
 bL.of fun j row hr=>by
  rw[Uw,Ut] at hr
  split at hr
  ·obtain⟨h1,h2⟩:=h.get hr
   exact⟨h1,by rw[UG,<-Um];exact h2⟩
  ·cases hr
theorem Gr {c:Ctx} {b base size l h m:Nat} {rows:List (List SVal)} {f:Bool} {a':Option Addr} (h1:l<=h) (h2:h<=rows.length) (hm:h<=m) (hf:f=true->m=h) (hd:bL c b size rows base) (ha:(m=l/\a'=some ⟨b,base,none⟩)\/a'=some ⟨b,base+l*size,none⟩):
  Den c (.aE f ((rows.take h).drop l)) (.slice a' (h-l) (m-l)):=by
 have hlen:((rows.take h).drop l).length=h-l:=by simp;omega
 rcases ha with⟨rfl,rfl⟩|rfl
 ·exact .inl ⟨TH.1 ii,_,_,by rw[show h-m=0 by omega],fun _=>by omega⟩
 ·exact .inr ⟨b,_,size,m-l,by rw[hlen],by rw[hlen];omega,fun hh=>by rw[hlen,hf hh],CL hd l h⟩
theorem gE {t e:TypeId} (hu:P.underlying t=some (.slice e)) (v:Value) (lo hi mx:Option Value) (w:World):(Instr.sliceAt t v lo hi mx).run P w=(Instr.slice t v lo hi mx).run P w:=by
 simp only[Instr.sliceAt,Sem.run_bind,run_underlying hu,Result.andThen_ok]
theorem wD (hE:bt P E) {t el sz:Nat} {x:Operand} {lo hi:Option Operand} {f:Bool} {rows:List (List SVal)} {bl bh:Option Int} {l h:Nat} (ho:o.op= .slice t x lo hi none) (hx:ev x=some (.aE f rows)) (ht:dr E t=some el) (hsz:cQ E el=some sz) (hlr:∀r∈rows,r.length=sz)
  (hl:ym ev lo=some bl) (hh:ym ev hi=some bh) (hbl:iv bl 0 l) (hbh:iv bh rows.length h) (h1:l<=h) (h2:h<=rows.length):bD P o ev st (.aE false ((rows.take h).drop l)) st:=
 ⟨by simp[ho],eJ.refl _,fun{c w} hr _ _ {e} he=>by
  have hu:=ck hE ht
  obtain⟨i,_,rfl,hs⟩:=bU hE hsz
  have hd:=he x (by simp[ho,Op.operands]) _ hx
  have d1:=gR (lf (c:=c) (e:=e) hl (fun y hy=>he y (by subst hy;simp[ho,Op.operands]))) hbl
  have d2:=gR (lf (c:=c) (e:=e) hh (fun y hy=>he y (by subst hy;simp[ho,Op.operands]))) hbh
  have hex:execOp e o=(do pure (.value (<-Instr.sliceAt t (e x) (lo.map e) (hi.map e) none)):Sem Next):=by simp only[execOp,ho];rfl
  rcases hd with⟨rfl,a,cap,hxv,_⟩|⟨b,base,size,cap,hxv,hc,_,hrows⟩
  ·have hh0:h=0:=by simpa using h2
   have hl0:l=0:=by omega
   subst hh0 hl0
   obtain⟨a',hrun,_⟩:=iX (a:=a) hu hs (nS (P:=P) (len:=0) (cap:=cap) d1 d2 (Tp _) (TC _) true w)
   rw[hxv] at hex
   exact dG.val hex (mP.same hr (by rw[gE hu];exact hrun) (.inl ⟨by simp,a',cap,rfl,fun h=>by cases h⟩))
  ·obtain⟨a',hrun,ha⟩:=iX (a:=some ⟨b,base,none⟩) hu hs (nS (P:=P) (len:=rows.length) (cap:=cap) d1 d2 h1 ii true w)
   rw[hxv] at hex
   refine dG.val hex (mP.same hr (by rw[gE hu];exact hrun) (Gr (base:=base) (size:=size) h1 h2 ii (fun h=>by cases h) hrows ?_))
   rcases ha b base rfl with ha|ha
   ·exact .inl ha
   ·rcases Ui rows.length with e0|e0
    ·have:l=0:=by omega
     subst this
     exact .inr (by rw[ha];simp)
    ·have:size=i.size:=by rw[<-(hrows.get (Tj e0)).1,hlr _ (TT e0)]
     exact .inr (by rw[ha,this])⟩
theorem ma (hE:bt P E) {t el sz:Nat} {x hi mx:Operand} {lo:Option Operand} {f:Bool} {rows:List (List SVal)} {bl:Option Int} {k1 k2:IntKind} {nh nm:Int} {l h:Nat} (ho:o.op= .slice t x lo (some hi) (some mx)) (hx:ev x=some (.aE f rows)) (ht:dr E t=some el) (hsz:cQ E el=some sz) (hlr:∀r∈rows,r.length=sz)
  (hl:ym ev lo=some bl) (hh:ev hi=some (.int k1 nh)) (hm:ev mx=some (.int k2 nm)) (hbl:iv bl 0 l) (hnh:nh=(h:Int)) (hnm:nm=(h:Int)) (h1:l<=h) (h2:h<=rows.length):bD P o ev st (.aE true ((rows.take h).drop l)) st:=
 ⟨by simp[ho],eJ.refl _,fun{c w} hr _ _ {e} he=>by
  have hu:=ck hE ht
  obtain⟨i,_,rfl,hs⟩:=bU hE hsz
  subst hnh hnm
  have hd:=he x (by simp[ho,Op.operands]) _ hx
  have hhi:e hi= .int k1 h:=he hi (by simp[ho,Op.operands]) _ hh
  have hmx:e mx= .int k2 h:=he mx (by simp[ho,Op.operands]) _ hm
  have d1:=gR (lf (c:=c) (e:=e) hl (fun y hy=>he y (by subst hy;simp[ho,Op.operands]))) hbl
  have hex:execOp e o=(do pure (.value (<-Instr.sliceAt t (e x) (lo.map e) (some (e hi)) (some (e mx)))):Sem Next):=by simp only[execOp,ho];rfl
  rw[hhi,hmx] at hex
  rcases hd with⟨rfl,a,cap,hxv,_⟩|⟨b,base,size,cap,hxv,hc,_,hrows⟩
  ·have hh0:h=0:=by simpa using h2
   have hl0:l=0:=by omega
   subst hh0 hl0
   obtain⟨a',hrun,_⟩:=iX (a:=a) hu hs (Ha (P:=P) (len:=0) (cap:=cap) d1 (Tp _) (Tp _) (TC _) true w)
   rw[hxv] at hex
   exact dG.val hex (mP.same hr (by rw[gE hu];exact hrun) (.inl ⟨by simp,a',0,rfl,fun h=>rfl⟩))
  ·obtain⟨a',hrun,ha⟩:=iX (a:=some ⟨b,base,none⟩) hu hs (Ha (P:=P) (len:=rows.length) (cap:=cap) d1 h1 (Tp _) ii true w)
   rw[hxv] at hex
   refine dG.val hex (mP.same hr (by rw[gE hu];exact hrun) (Gr (base:=base) (size:=size) h1 h2 (Tp _) (fun _=>rfl) hrows ?_))
   rcases ha b base rfl with ha|ha
   ·exact .inl ha
   ·rcases Ui rows.length with e0|e0
    ·have:l=0:=by omega
     subst this
     exact .inr (by rw[ha];simp)
    ·have:size=i.size:=by rw[<-(hrows.get (Tj e0)).1,hlr _ (TT e0)]
     exact .inr (by rw[ha,this])⟩
theorem wE (hE:bt P E) {t el:Nat} {x hi:Operand} {k s sz h:Nat} {ki:IntKind} {n:Int} {rows:List (List SVal)} (ho:o.op= .slice t x none (some hi) none) (hx:ev x=some (.own k s)) (ht:dr E t=some el) (hsz:cQ E el=some sz) (hk:st.look k=some (.row sz rows s false)) (hh:ev hi=some (.int ki n))
  (hn:n=(h:Int)) (h2:h<=rows.length):bD P o ev st (.own k (s+1)) (st.put k (.row sz (rows.take h) (s+1) false)):=
 ⟨by simp[ho],dt _ hk,fun{c w} hr _ _ {e} he=>by
  have hu:=ck hE ht
  obtain⟨i,_,rfl,hs⟩:=bU hE hsz
  subst hn
  obtain⟨_,ob,st0,sz,u0,hρ,_,hval⟩:=he x (by simp[ho,Op.operands]) _ hx
  have hhi:e hi= .int ki h:=he hi (by simp[ho,Op.operands]) _ hh
  obtain⟨rfl,rfl,hat⟩:=tW hr hk hρ
  have hval:=hval rfl
  have hex:execOp e o=(do pure (.value (<-Instr.sliceAt t (e x) none (some (e hi)) none)):Sem Next):=by simp only[execOp,ho];rfl
  rw[hval,hhi] at hex
  have place:∀(b':Option Nat) (u':Value),(∃a n cap,u'= .slice a n cap)->(∀r,b'=some r->ob=some r)->(∀b i v,ob=some b->c.fz b i≠some v)->(∀c':Ctx,Le c c'->c'.fz=c.fz->eK c' (.row i.size (rows.take h) (st0+1) false) (.row b' (st0+1) i.size u') w)->
    (Instr.slice t u0 none (some (.int ki h)) none).run P w= .ok u' w->mP P (Instr.sliceAt t u0 none (some (.int ki h)) none) st (st.put k (.row i.size (rows.take h) (st0+1) false)) (.own k (st0+1)) c w:=by
   intro b' u' hu' hblk hfz hob hrun
   have hle:Le c ⟨fun n=>if n=k then some (.row b' (st0+1) i.size u') else c.ρ n,c.fz⟩:=⟨fun n l e=>by
    by_cases en:n=k
    ·subst en
     rw[hρ] at e
     cases e
     exact⟨_,Th rfl,.inr ⟨b',_,_,u',rfl,Ug _⟩⟩
    ·exact⟨l,by show(if n=k then _ else _)=_;rw[Ti en];exact e,dz.refl l⟩,fun _ _ _ h=>h⟩
   obtain⟨r1,r2⟩:=eE (o':= .row i.size (rows.take h) (st0+1) false) (c':=⟨fun n=>if n=k then some (.row b' (st0+1) i.size u') else c.ρ n,c.fz⟩) hr hk hρ (Th rfl) (.inr ⟨b',_,_,u',rfl,Ug _⟩) (fun n hn=>Ti hn) (fun _ _ _ h=>h) (fun _ _ _ h=> .inl h) (fun r hr=> .inl (hblk r hr)) ((df.refl w).but _)
    (fun b i v hb hv=>absurd hv (hfz b i v hb)) (hob _ hle rfl)
   exact⟨_,u',w,by rw[gE hu];exact hrun,gU (Th rfl) hu',r1,r2⟩
  refine dG.val hex ?_
  rcases hat with⟨rfl,rfl,a0,rfl⟩|⟨b,arr,ee,cap,rfl,hin⟩
  ·have hh0:h=0:=by simpa using h2
   subst hh0
   obtain⟨a',hrun,_⟩:=iX (a:=a0) hu hs (nS (P:=P) (lo:=none) (len:=0) (cap:=0) (.inl ⟨rfl,rfl⟩) (.inr ⟨ki,rfl⟩) (Tp _) (Tp _) true w)
   exact place none _ ⟨_,_,_,rfl⟩ (fun r hr=>by cases hr) (fun b i v hb=>by cases hb) (fun c' _ _=>⟨rfl,rfl,by simp,a',rfl⟩) hrun
  ·have hv:=hin.val
   subst hv
   have hcap:=hin.fits
   obtain⟨a',hrun,ha⟩:=iX (a:=some ⟨b,0,none⟩) hu hs (nS (P:=P) (lo:=none) (len:=rows.length) (cap:=cap) (h:=h) (.inl ⟨rfl,rfl⟩) (.inr ⟨ki,rfl⟩) (TC _) ii true w)
   have ha':a'=some ⟨b,0,none⟩:=by
    rcases ha b 0 rfl with⟨_,h⟩|h
    ·exact h
    ·rw[h];simp
   subst ha'
   refine place (some b) _ ⟨_,_,_,rfl⟩ (fun r hr=>hr) (fun b' j v hb hv=>by cases hb;have:=(hin.fz j v hv).1;cases this) (fun c' hle hfz=>⟨rfl,rfl,arr,ee,cap,⟨?_,hin.cells,hin.size,?_,fun j row hr=> ?_,fun j v hv=> ?_⟩⟩) hrun
   ·rw[VV,Nat.min_eq_left h2];rfl
   ·rw[VV];omega
   ·rw[Ut] at hr
    split at hr
    ·exact hin.elems.le hle j row hr
    ·cases hr
   ·rw[hfz] at hv
    have:=(hin.fz j v hv).1
    cases this⟩
theorem wC (hE:bt P E) {t el sz:Nat} {x:Operand} {lo hi:Option Operand} {bl bh:Option Int} (ho:o.op= .slice t x lo hi none) (hx:ev x=some .ax) (ht:dr E t=some el) (hsz:cQ E el=some sz) (hl:ym ev lo=some bl) (hh:ym ev hi=some bh) (hbl:iv bl 0 0) (hbh:iv bh 0 0):bD P o ev st .ax st:=
 ⟨by simp[ho],eJ.refl _,fun{c w} hr _ _ {e} he=>by
  have hu:=ck hE ht
  obtain⟨i,_,rfl,hs⟩:=bU hE hsz
  have hd:e x= .slice none 0 0:=he x (by simp[ho,Op.operands]) _ hx
  have d1:=gR (lf (c:=c) (e:=e) hl (fun y hy=>he y (by subst hy;simp[ho,Op.operands]))) hbl
  have d2:=gR (lf (c:=c) (e:=e) hh (fun y hy=>he y (by subst hy;simp[ho,Op.operands]))) hbh
  have hex:execOp e o=(do pure (.value (<-Instr.sliceAt t (e x) (lo.map e) (hi.map e) none)):Sem Next):=by simp only[execOp,ho];rfl
  refine dG.val hex (mP.same hr (v:= .slice none 0 0) ?_ rfl)
  have hb:=nS (P:=P) (len:=0) (cap:=0) d1 d2 (Tp _) (Tp _) true w
  rw[gE hu]
  simp only[hd,Instr.slice,Sem.run_bind,run_underlying hu,Result.andThen_ok,hb,hs w,Sem.run_pure,Option.map_none,ite_self,Vi]⟩
end
def fL:TypeDesc->SVal->Prop
 | .int k,.int k' _=>k'=k
 | .string,.str _=>True
 |_,_=>False
inductive iu:List (SVal×SVal)->SVal->Option (Nat×SVal)->Prop where
 |nil {k:SVal}:iu [] k none
 |here {k v:SVal} {r:List (SVal×SVal)}:iu ((k,v)::r) k (some (0,v))
 |there {k:SVal} {p:SVal×SVal} {r:List (SVal×SVal)} {x:Option (Nat×SVal)}:p.1≠k->iu r k x->iu (p::r) k (x.map fun q=>(q.1+1,q.2))
theorem Cf {d:TypeDesc} {k:SVal} (h:fL d k) {c:Ctx} {u:Value} (hk:Den c k u):MapKept.IsKey d u:=by
 cases d<;>cases k<;>simp only[fL] at h
 ·subst h;cases hk;simp[MapKept.IsKey]
 ·cases hk;simp[MapKept.IsKey]
theorem yO (a b:List UInt8):((⟨a.toArray⟩:ByteArray)==⟨b.toArray⟩)=(a==b):=by
 rw[Vs,MapKept.bytes_beq]
 simp
theorem tV {d:TypeDesc} {k x:SVal} (hk:fL d k) (hx:fL d x) {c:Ctx} {u v:Value} (hu:Den c k u) (hv:Den c x v):(x=k->Instr.sameNow d u v=some true/\u=v)/\(x≠k->Instr.sameNow d u v=some false):=by
 cases d<;>cases k<;>simp only[fL] at hk<;>cases x<;>simp only[fL] at hx
 ·subst hk;subst hx;cases hu;cases hv
  rename_i a k b
  refine⟨fun h=> ?_,fun h=> ?_⟩
  ·cases h;exact⟨by simp[Instr.sameNow],rfl⟩
  ·have:¬(a=b):=fun e=>h (by rw[e])
   simp[Instr.sameNow,this]
 ·cases hu;cases hv
  rename_i a b
  refine⟨fun h=> ?_,fun h=> ?_⟩
  ·cases h;exact⟨by simp[Instr.sameNow,yO],rfl⟩
  ·have:¬(a=b):=fun e=>h (by rw[e])
   simp[Instr.sameNow,yO,this]
def Found (c:Ctx) (l:List MapEntry) (u:Value) (i:Nat):Option (Nat×SVal)->Option (Nat×Value)->Prop
 |none,none=>True
 |some p,some q=>∃e,q=(i+p.1,e.val)/\l[p.1]? =some e/\e.key=u/\Den c p.2 e.val
 |_,_=>False
theorem mR.tail {c:Ctx} {p:SVal×SVal} {es:List (SVal×SVal)} {e:MapEntry} {l:List MapEntry} (h:mR c (p::es) (e::l)):mR c es l:=⟨by simpa using h.1,fun j q hq=>by simpa using h.2 (j+1) q (by simpa using hq)⟩
theorem iu.ok {d:TypeDesc} {k:SVal} {c:Ctx} {u:Value} (hk:fL d k) (hu:Den c k u) {es:List (SVal×SVal)} {r:Option (Nat×SVal)} (h:iu es k r):(∀p∈es,fL d p.1)->∀{l:List MapEntry} (i:Nat),mR c es l->
  ∃r',Instr.findNow d u l i=some r'/\Found c l u i r r':=by
 induction h with
 |nil=>
  intro _ l i he
  have:l=[]:=TH.1 he.1
  subst this
  exact⟨none,rfl,trivial⟩
 |here=>
  rename_i k v r
  intro hks l i he
  obtain⟨e,h3,h4,h5⟩:=he.2 0 _ rfl
  cases l with
  |nil=>simp at h3
  |cons e0 l=>
   simp only[U6,T8] at h3
   subst h3
   obtain⟨h6,h7⟩:=(tV hk hk hu h4).1 rfl
   exact⟨some (i,e0.val),by simp[Instr.findNow,h6],e0,rfl,rfl,h7.symm,h5⟩
 |there hne _ ih=>
  rename_i k p r x _
  intro hks l i he
  obtain⟨e,h3,h4,h5⟩:=he.2 0 _ rfl
  cases l with
  |nil=>simp at h3
  |cons e0 l=>
   simp only[U6,T8] at h3
   subst h3
   have h6:=(tV hk (hks p (.head _)) hu h4).2 hne
   obtain⟨r',h8,h9⟩:=ih hk hu (fun q hq=>hks q (.tail _ hq)) (i+1) he.tail
   refine⟨r',by simp[Instr.findNow,h6,h8],?_⟩
   cases x with
   |none=>cases r' with
    |none=>trivial
    |some q=>exact h9.elim
   |some q0=>cases r' with
    |none=>exact h9.elim
    |some q=>
     obtain⟨e,h11,h12,h14,h15⟩:=h9
     exact⟨e,by rw[h11];simp only[Prod.mk.injEq,and_true];omega,by simpa using h12,h14,h15⟩
theorem La {st:St} {c:Ctx} {w:World} (hr:dD c st.look w) {k b:Nat} {es:List (SVal×SVal)} (h:st.look k=some (.map es)) (hb:c.ρ k=some (.box b)):∃ents clock,w.heap[b]? =some (.map ents clock)/\mR c es ents.toList:=by
 obtain⟨l',h1,h2⟩:=hr.dF k _ h
 rw[hb] at h1
 cases h1
 exact h2
section
variable {P:Program} {E:Env} {o:Oper} {ev:jA} {st:St}
def Gs (ok:Bool) (v:SVal) (b:Bool):SVal:=match ok with
 |true=> .dT [v,.bool b]
 |false=>v
theorem tN (hE:bt P E) {t:TypeId} {x ix:Operand} {ok:Bool} {ke:TypeId×TypeId} {k:Nat} {key:SVal} {es:List (SVal×SVal)} {d:TypeDesc} {r:Option (Nat×SVal)} {s:SVal} (ho:o.op= .lookup t x ix ok) (ht:eH (under E t) IB=some ke) (hd:under E ke.1=some d) (hx:ev x=some (.map k)) (hix:ev ix=some key)
  (hlk:st.look k=some (.map es)) (hk:fL d key) (hks:∀p∈es,fL d p.1) (hf:iu es key r) (hs:(r=none/\∃z,iH E ke.2=some z/\s=Gs ok z false)\/∃i v,r=some (i,v)/\s=Gs ok v true):bD P o ev st s st:=
 ⟨by simp[ho],eJ.refl _,fun{c w} hr _ _ {e} he=>by
  have hu:=xN hE ht
  have hdk:=bO hE hd
  obtain⟨b,hb,hxv⟩:=he x (by simp[ho,Op.operands]) _ hx
  have hku:=he ix (by simp[ho,Op.operands]) _ hix
  have hkey:=Cf hk hku
  obtain⟨ents,clock,h3,h4⟩:=La hr hlk hb
  obtain⟨r',h5,h6⟩:=hf.ok hk hku hks 0 h4
  have tail:∃v,Den c s v/\∀em,(do
    Instr.checkKey em 10000 ke.1 (e ix)
    let(v,ok')<-match<-Instr.findKey ke.1 (e ix) ents.toList with
     |some (_,v)=>(pure (v,true):Sem (Value×Bool))
     |none=>do pure (<-zeroValue ke.2,false)
    pure (if ok then .tuple #[v,.bool ok'] else v):Sem Value).run P w= .ok v w:=by
   rcases hs with⟨rfl,z,hz,rfl⟩|⟨i,v,rfl,rfl⟩
   ·obtain⟨_,zv,_,_,hzd,hzr⟩:=ey hE hz
    cases r' with
    |some q=>exact h6.elim
    |none=>
     refine⟨if ok then .tuple #[zv,.bool false] else zv,by cases ok;exact hzd c;exact⟨_,⟨_,_,hzd c,⟨_,_,rfl,rfl,rfl⟩,rfl⟩,rfl⟩,fun em=> ?_⟩
     simp only[Sem.run_bind,MapKept.run_checkKey hdk hkey,MapKept.run_findKey hdk h5,Result.andThen_ok,hzr w,Sem.run_pure]
   ·cases r' with
    |none=>exact h6.elim
    |some q=>
     obtain⟨en,rfl,h12,h14,h15⟩:=h6
     refine⟨if ok then .tuple #[en.val,.bool true] else en.val,by cases ok;exact h15;exact⟨_,⟨_,_,h15,⟨_,_,rfl,rfl,rfl⟩,rfl⟩,rfl⟩,fun em=> ?_⟩
     simp only[Sem.run_bind,MapKept.run_checkKey hdk hkey,MapKept.run_findKey hdk h5,Result.andThen_ok,Sem.run_pure]
  obtain⟨v,h1,h2⟩:=tail
  refine dG.val (S:=Instr.lookup t (e x) (e ix) ok) (by simp only[execOp,ho]) (mP.same hr (v:=v) (Eq.trans ?_ (h2 ents.isEmpty)) h1)
  simp only[hxv,Instr.lookup,Sem.run_bind,run_underlying hu,Result.andThen_ok,MapKept.run_getObj_map h3,Sem.run_pure]
  rfl⟩
theorem D9 (w:World) (r:Nat) (ob:Obj):QP (some r) w {w with heap:=w.heap.setIfInBounds r ob}:=
 ⟨rfl,rfl,rfl,by simp,fun k _ hk=>by
  have:r≠k:=fun e=>hk (by rw[e])
  simp[this]⟩
theorem mR.append {c:Ctx} {es:List (SVal×SVal)} {l:List MapEntry} (h:mR c es l) {k v:SVal} {e:MapEntry} (hk:Den c k e.key) (hv:Den c v e.val):mR c (es++[(k,v)]) (l++[e]):=by
 refine⟨by simp[h.1],fun i p hp=> ?_⟩
 by_cases hi:i<es.length
 ·rw[TE hi] at hp
  rw[TE (by rw[h.1];exact hi)]
  exact h.2 i p hp
 ·rw[TG ii] at hp
  rw[TG (by rw[h.1];omega),h.1]
  cases hj:i-es.length with
  |zero=>rw[hj] at hp;simp at hp;subst hp;exact⟨e,rfl,hk,hv⟩
  |succ j=>rw[hj] at hp;simp at hp
theorem wG (hE:bt P E) {t:TypeId} {m k x:Operand} {ke:TypeId×TypeId} {r:Nat} {key v:SVal} {es:List (SVal×SVal)} {d:TypeDesc} (ho:o.op= .mapUpdate t m k x\/o.op= .insert t m k x) (ht:eH (under E t) IB=some ke) (hd:under E ke.1=some d) (hm:ev m=some (.map r)) (hk:ev k=some key)
  (hx:ev x=some v) (hlk:st.look r=some (.map es)) (hkd:fL d key) (hks:∀p∈es,fL d p.1) (hf:iu es key none):bD P o ev st (.dT []) (st.put r (.map (es++[(key,v)]))):=
 ⟨by rcases ho with ho|ho<;>simp[ho],dt _ hlk,fun{c w} hr _ _ {e} he=>by
  have hu:=xN hE ht
  have hdk':=bO hE hd
  have mem:∀y∈[m,k,x],y∈o.op.operands.toList:=fun y hy=>by rcases ho with ho|ho<;>simpa[ho,Op.operands] using hy
  obtain⟨b,hb,hmv⟩:=he m (mem _ (by simp)) _ hm
  have hku:=he k (mem _ (by simp)) _ hk
  have hxv:=he x (mem _ (by simp)) _ hx
  have hkey:=Cf hkd hku
  obtain⟨ents,clock,h1,h2⟩:=La hr hlk hb
  obtain⟨q',h4,h5⟩:=hf.ok hkd hku hks 0 h2
  have hlt:b<w.heap.size:=(TI.1 h1).1
  cases q' with
  |some p=>exact h5.elim
  |none=>
   have hne:∀i v,c.fz b i≠some v:=fun i v hv=>by
    obtain⟨arr,ee,f,h6,_⟩:=hr.fz _ _ _ hv
    rw[h1] at h6
    cases h6
   obtain⟨h6,h7⟩:=eE (o':= .map (es++[(key,v)])) (w':={w with heap:=w.heap.setIfInBounds b (.map (ents.push {key:=e k,val:=e x,born:=clock}) (clock+1))}) hr hlk hb hb (dz.refl _) (fun _ _=>rfl) (fun _ _ _ h=>h) (fun _ _ _ h=> .inl h) (fun r hr=> .inl hr) (D9 w b _)
    (fun b' i v hb hv=>by cases hb;exact absurd hv (hne i v)) ⟨ents.push {key:=e k,val:=e x,born:=clock},clock+1,by simp[hlt],by simpa using h2.append (e:={key:=e k,val:=e x,born:=clock}) hku hxv⟩
   refine dG.skip (S:=Instr.mapUpdate t (e m) (e k) (e x)) (by rcases ho with ho|ho<;>simp only[execOp,ho]) ?_ h6 h7
   simp only[hmv,Instr.mapUpdate,Sem.run_bind,run_underlying hu,Result.andThen_ok,MapKept.run_getObj_map h1,MapKept.run_checkKey hdk' hkey,MapKept.run_findKey hdk' h4,MapKept.run_setObj_map _ h1]⟩
def im (l:List UInt8):List (List SVal):=l.map fun b=>[SVal.int .u8 b.toNat]
theorem kL:∀l:List UInt8,(im l).flatten=l.map fun b=>SVal.int .u8 b.toNat
 |[]=>rfl
 |b::l=>by rw[im,Uo,UB,<-im,kL l];rfl
theorem qy {c:Ctx}:∀{l:List UInt8} {vs:List Value},aJ c (l.map fun b=>SVal.int .u8 b.toNat) vs->vs=l.map fun b=>Value.int .u8 b.toNat
 |[],vs,h=>h
 |b::l,vs,⟨v,r,h1,h2,h3⟩=>by cases h1;rw[h3,qy h2];rfl
theorem r9 (w:World) {g:Value->ByteArray->Sem (ForInStep ByteArray)} (hg:∀n s,(g (.int .u8 n) s).run P w= .ok (.yield (s.push (UInt8.ofNat n.toNat))) w):∀(is:List Int) (s:ByteArray),
  (forIn (is.map fun n=>Value.int .u8 n) s g:Sem ByteArray).run P w= .ok (is.foldl (fun s n=>s.push (UInt8.ofNat n.toNat)) s) w
 |[],s=>rfl
 |n::is,s=>by
  simp only[Uo,List.forIn_cons,Sem.run_bind,hg,Result.andThen_ok,Uh]
  exact r9 w hg is _
theorem foldl_push:∀(is:List Int) (s:ByteArray),(is.foldl (fun s n=>s.push (UInt8.ofNat n.toNat)) s)=⟨s.data++(is.map fun n=>UInt8.ofNat n.toNat).toArray⟩
 |[],s=>by simp
 |n::is,s=>by
  rw[Uh,foldl_push is]
  refine Ub ByteArray.mk ?_
  show s.data.push _++_=_
  simp
theorem tP (hE:bt P E) {a b e8:TypeId} {x:Operand} {s:SVal} {l:List UInt8} (ho:o.op= .convert a b x) (hx:ev x=some s) (ha:under E a=some (.slice e8)) (hb:under E b=some .string) (h8:under E e8=some (.int .u8)) (hs:dm st s (im l)):bD P o ev st (.str l) st:=
 ⟨by simp[ho],eJ.refl _,fun{c w} hr _ _ {e} he=>by
  obtain⟨ad,cap,hu,hcap,news,h1,h2,h3,h4⟩:=hs.spec hr (he x (by simp[ho,Op.operands]) _ hx) (sz:=1) (fun r hr=>by
   obtain⟨b,_,rfl⟩:=T4.1 hr
   rfl)
  rw[kL] at h1
  have hn:=qy h1
  have hlen:(im l).length=l.length:=by simp[im]
  refine dG.val (S:=convert a b (e x)) (by simp only[execOp,ho]) (mP.same hr (v:= .string ⟨l.toArray⟩) ?_ rfl)
  have ua:=bO hE ha
  have ub:=bO hE hb
  have u8:=bO hE h8
  rw[hu,hlen]
  rcases h4 with h4|⟨bb,base,rfl,h4⟩
  ·have hl:l=[]:=by
    have:(im l).length=0:=by rw[h4];rfl
    exact TH.1 ii
   subst hl
   cases ad with
   |none=>simp[convert,run_underlying ua,run_underlying ub,run_underlying u8,Conv.bytesToString];rfl
   |some ad=>simp[convert,run_underlying ua,run_underlying ub,run_underlying u8,Conv.bytesToString,loadCells];rfl
  ·have hrun:=run_loadCells_list (P:=P) w ⟨bb,base,none⟩ news fun j v hv=>by rw[gu];exact h4 j v hv
   rw[h2,hlen,Nat.mul_one] at hrun
   have hn2:news=(l.map fun b=>(b.toNat:Int)).map fun n=>Value.int .u8 n:=by rw[hn,List.map_map];rfl
   simp only[convert,Sem.run_bind,run_underlying ua,run_underlying ub,run_underlying u8,Result.andThen_ok,Conv.bytesToString,hrun]
   rw[<-Array.forIn_toList]
   simp only[hn2]
   rw[r9 (P:=P) w (fun n s=>by rfl) _ ByteArray.empty,foldl_push]
   simp only[Result.andThen_ok,Sem.run_pure]
   congr 3
   have e3:((fun n:Int=>UInt8.ofNat n.toNat)∘fun b:UInt8=>(b.toNat:Int))=id:=funext fun b=>by simp
   simp[e3]⟩
end
noncomputable def Fr.set (fr:Fr) (d:Nat) (v:SVal):Option Fr:=yZ (Nat.ble (Nat.succ d) fr.n) (some ⟨fr.n,(d,v)::fr.t⟩)
theorem fm {fr fr':Fr} {d:Nat} {v:SVal} (h:fr.set d v=some fr'):d<fr.n/\fr'.n=fr.n/\∀t,fr'.get t=if t=d then some v else fr.get t:=by
 unfold Fr.set at h
 rw[eM] at h
 obtain⟨h1,h3⟩:=h
 cases h3
 refine⟨cT h1,rfl,fun t=> ?_⟩
 show bx ((d,v)::fr.t) t=_
 rw[bZ]
 by_cases e:t=d
 ·rw[Th e,Th e.symm]
 ·rw[Ti e,Ti (UZ e)];rfl
structure lC (D:List Deferred) (c:Ctx) (fr:Fr) (a:Act):Prop where
 size:a.tmps.size=fr.n
 get:∀t s,fr.get t=some s->∃v,a.tmps[t]? =some v/\Den c s v
 defers:a.defers=D
theorem lC.le {D:List Deferred} {c c':Ctx} {fr:Fr} {a:Act} (h:lC D c fr a) (hle:Le c c'):lC D c' fr a:=
 ⟨h.size,fun t s ht=>let⟨v,h1,h2⟩:=h.get t s ht;⟨v,h1,Den.le hle _ _ h2⟩,h.defers⟩
noncomputable def qV (fr:Fr) (d:Option Nat) (v:SVal):Option Fr:=
 Option.rec (motive:=fun _=>Option Fr) (some fr) (fun d=>fr.set d v) d
theorem iY {fr fr':Fr} {v:SVal} (h:qV fr none v=some fr'):fr'=fr:=by cases h;rfl
theorem gG {fr fr':Fr} {d:Nat} {v:SVal} (h:qV fr (some d) v=some fr'):fr.set d v=some fr':=h
theorem lC.put {D:List Deferred} {c:Ctx} {fr fr':Fr} {a:Act} {d:Option Nat} {s:SVal} {v:Value} (h:lC D c fr a) (hp:qV fr d s=some fr') (hd:Den c s v):lC D c fr' (a.put d v):=by
 cases d with
 |none=>cases iY hp;exact h
 |some d=>
  obtain⟨h1,h2,h3⟩:=fm (gG hp)
  refine⟨by simp[Act.put,h.size,h2],fun t s' ht=> ?_,h.defers⟩
  rw[h3] at ht
  by_cases e:t=d
  ·subst e
   rw[Th rfl] at ht
   cases ht
   exact⟨v,by simp[Act.put,h.size,h1],hd⟩
  ·rw[Ti e] at ht
   obtain⟨v',h4,h5⟩:=h.get t s' ht
   exact⟨v',by simp[Act.put,UL (UZ e),h4],h5⟩
noncomputable def DE (fr:Fr) (x:Operand):Option SVal:=
 Operand.rec (motive:=fun _=>Option SVal) (fun t=>fr.get t) (fun v=>DD 4 v) (fun _=>none) (fun f=>some (.func (.func f) [] [])) x
theorem lC.eval {D:List Deferred} {c:Ctx} {fr:Fr} {a:Act} (h:lC D c fr a) (x:Operand) (s:SVal) (hs:DE fr x=some s):Den c s (a.eval x):=by
 cases x with
 |tmp t=>
  obtain⟨v,h1,h2⟩:=h.get t s hs
  rw[show a.eval (.tmp t)=v by simp[Act.eval,Uj,h1]]
  exact h2
 |const v=>exact zI hs c
 |global g=>cases hs
 |func f=>cases hs;exact⟨[],[],rfl,rfl,rfl⟩
noncomputable def gV (b:Bool):SVal->Option Bool
 | .bool c=>some (c==b)
 | .dT []=>some false
 |_=>none
noncomputable def l6 (ops:List Oper) (fr:Fr) (g:Option (Nat×Bool)):Option Bool:=
 Option.rec (motive:=fun _=>Option Bool) (some true) (fun p=>eH (ops[p.1]?) fun q=>eH q.dst fun d=>eH (fr.get d) fun v=>gV p.2 v) g
def saysB:Value->Option Bool
 | .bool c=>some c
 |_=>none
theorem qf {b r:Bool} {s:SVal} (h:gV b s=some r) {c:Ctx} {v:Value} (hd:Den c s v):(saysB v==some b)=r:=by
 unfold gV at h
 split at h
 ·cases h;cases hd;rename_i c;cases c<;>cases b<;>rfl
 ·cases h;obtain⟨vs,h1,rfl⟩:=hd;cases h1;cases b<;>rfl
 ·cases h
theorem A0 {all:List Oper} {ops:Array Oper} (hall:all=ops.toList) {fr:Fr} {o:Oper} {b:Bool} (h:l6 all fr o.guard=some b) {c:Ctx} {tmps:Array Value} (hf:∀t s,fr.get t=some s->∃v,tmps[t]? =some v/\Den c s v):Region.wanted o (yielded ops tmps)=b:=by
 unfold Region.wanted
 cases hg:o.guard with
 |none=>rw[hg] at h;cases h;rfl
 |some p=>
  obtain⟨j,want⟩:=p
  rw[hg] at h
  have h:eH (all[j]?) (fun q=>eH q.dst fun d=>eH (fr.get d) fun v=>gV want v)=some b:=h
  rw[bf] at h
  obtain⟨q,h1,h⟩:=h
  rw[bf] at h
  obtain⟨d,h2,h⟩:=h
  rw[bf] at h
  obtain⟨s,h3,h4⟩:=h
  obtain⟨v,h5,h6⟩:=hf d s h3
  have h1:ops[j]? =some q:=by rw[hall] at h1;simpa using h1
  have:=qf h4 h6
  simp only[yielded,h1,HP,h2,h5]
  cases v<;>exact this
def je (ro:Option Nat):Fence:={Fence.wide with round:=ro}
theorem bD.wp {P:Program} {o:Oper} {ev:jA} {st st':St} {s:SVal} (h:bD P o ev st s st') (ro:Option Nat) {a:Act} {w:World} {next:Act->World->Prop} {Q:Exit->Act->World->Prop}
  (k:o.uponIn Fence.wide 0 P a next Q ((execOp a.eval o).run P w)):o.wpIn (je ro) 0 P a w next Q:=by
 refine⟨fun _ _=>trivial,?_⟩
 have e:=Oper.semAt_eq ro a.eval o h.nd
 show o.uponIn (je ro) 0 P a next Q ((Oper.semAt ro a.eval o).run P w)
 rw[e]
 exact k
def AM (P:Program) (ops:Array Oper) (l:List Oper) (fr:Fr) (st:St) (fr':Fr) (st':St):Prop:=
 eJ st st'/\fr'.n=fr.n/\∀{ro:Option Nat} {D:List Deferred} {c:Ctx} {w:World} {a:Act},dD c st.look w->Wf st->pk c st.next st'.next->lC D c fr a->∀{Q:Exit->Act->World->Prop},
  (∀c' a' w',lC D c' fr' a'->dD c' st'.look w'->Step st.next st'.next c st.look w c' st'.look w'->Q .normal a' w')->wpListIn (je ro) 0 P ops Q l a w
def wg (P:Program) (ops:Array Oper) (l:List Oper) (fr:Fr) (st:St) (Φ:Fr->St->Prop):Prop:=∃fr' st',AM P ops l fr st fr' st'/\Φ fr' st'
section
variable {P:Program} {ops:Array Oper} {l:List Oper} {o:Oper} {fr fr1:Fr} {st st1:St} {s:SVal} {Φ:Fr->St->Prop}
theorem KC {d:Option Nat} (h:qV fr d s=some fr1):fr1.n=fr.n:=by
 cases d with
 |none=>rw[iY h]
 |some d=>exact(fm (gG h)).2.1
theorem Ot (h:Φ fr st):wg P ops [] fr st Φ:=⟨fr,st,⟨eJ.refl _,rfl,fun{_ _ c w a} hr _ _ hf _ hq=>hq c a w hf hr (Step.refl _ _ _ _)⟩,h⟩
theorem KS (hw:l6 ops.toList fr o.guard=some true) (ho:bD P o (DE fr) st s st1) (hp:qV fr o.dst s=some fr1) (h:wg P ops l fr1 st1 Φ):wg P ops (o::l) fr st Φ:=by
 obtain⟨fr',st',⟨h5,h6,h7⟩,h8⟩:=h
 refine⟨fr',st',⟨ho.eP.trans h5,h6.trans (KC hp),fun{ro D c w a} hr hwf hf hfr Q hq=> ?_⟩,h8⟩
 unfold wpListIn
 rw[A0 rfl hw hfr.get]
 refine ho.wp ro (ho.ok hr hwf (hf.mono (Tp _) h5.next) (e:=a.eval) (fun x _ s=>hfr.eval x s) a _ Q fun c1 v w1 hg=> ?_)
 refine h7 hg.rep (hwf.eP ho.eP) (hf.step hg.step ho.eP.next) ((hfr.le hg.step.le).put hp hg.val) fun c2 a2 w2 k1 k2 k3=> ?_
 exact hq c2 a2 w2 k1 k2 (hg.step.trans k3 ho.eP.next h5.next)
theorem KR (hw:l6 ops.toList fr o.guard=some false) (hp:qV fr o.dst (.dT [])=some fr1) (h:wg P ops l fr1 st Φ):wg P ops (o::l) fr st Φ:=by
 obtain⟨fr',st',⟨h5,h6,h7⟩,h8⟩:=h
 refine⟨fr',st',⟨h5,h6.trans (KC hp),fun{ro D c w a} hr hwf hf hfr Q hq=> ?_⟩,h8⟩
 unfold wpListIn
 rw[A0 rfl hw hfr.get]
 exact⟨fun _ _=>trivial,h7 hr hwf hf (hfr.put hp ⟨[],rfl,rfl⟩) hq⟩
theorem lC.sub {D:List Deferred} {c:Ctx} {a:Act} (h:lC D c fr a) (hn:fr1.n=fr.n) (hs:∀t s,fr1.get t=some s->fr.get t=some s):lC D c fr1 a:=⟨by rw[hn];exact h.size,fun t s ht=>h.get t s (hs t s ht),h.defers⟩
end
theorem EH {lo hi:Nat} {c c':Ctx} {w w':World} {G G' H H':gx} (T:Nat->Prop) (hr:dD c H w) (hsub:∀n o,G n=some o->H n=some o) (hr':dD c' G' w') (hs:Step lo hi c G w c' G' w')
  (h1:∀n,T n->H' n=G' n) (h2:∀n,¬T n->H' n=H n) (h3:∀n,¬T n->G' n=G n):dD c' H' w'/\Step lo hi c H w c' H' w':=by
 have own_up:∀r,fN c G r->fN c H r:=fun r ⟨m,o,l,a,b,d⟩=>⟨m,o,l,hsub _ _ a,b,d⟩
 have split:∀n o,H' n=some o->G' n=some o\/(H n=some o/\G n=none/\¬T n):=fun n o hn=>by
  by_cases ht:T n
  ·exact .inl ((h1 n ht)▸hn)
  ·have hH:H n=some o:=(h2 n ht)▸hn
   cases hg:G n with
   |none=>exact .inr ⟨hH,rfl,ht⟩
   |some o'=>
    have:=hsub _ _ hg
    rw[hH] at this
    cases this
    exact .inl ((h3 n ht).trans hg)
 have outer:∀n o,H n=some o->G n=none->∃l,c.ρ n=some l/\c'.ρ n=some l/\eK c o l w/\∀r,iR l=some r->r<w.heap.size/\¬fN c G r:=fun n o hn hg=>by
  obtain⟨l,a,b⟩:=hr.dF n o hn
  refine⟨l,a,(hs.hid n l hg a).2,b,fun r hlr=>⟨b.lt hlr,fun⟨m,om,lm,d,e,f⟩=> ?_⟩⟩
  have hne:m≠n:=fun q=>by subst q;rw[hg] at d;cases d
  exact hr.sep m n om o lm l r (hsub _ _ d) hn hne e a f hlr
 have mixed:∀n o l m o2 l2 r,G' n=some o->c'.ρ n=some l->iR l=some r->H m=some o2->G m=none->c'.ρ m=some l2->iR l2≠some r:=fun n o l m o2 l2 r a b d e f g hq=>by
  obtain⟨l3,g1,g2,g3,g4⟩:=outer m o2 e f
  rw[g2] at g
  cases g
  obtain⟨g5,g6⟩:=g4 r hq
  rcases hs.owns r ⟨n,o,l,a,b,d⟩ with h|h
  ·exact g6 h
  ·omega
 refine⟨⟨fun n o hn=> ?_,fun n m o1 o2 l1 l2 r hn hm hne GA hl2 hb1 hb2=> ?_,hr'.fz⟩,⟨hs.le,hs.off,fun k l hk hl=> ?_,hs.os,hs.tape,hs.output,hs.size,fun r hr0 hno=>hs.kept r hr0 fun h=>hno (own_up r h),fun r ⟨n,o,l,hn,hl,hb⟩=> ?_,fun b i v hv=> ?_⟩⟩
 ·rcases split n o hn with h|⟨h,hg,_⟩
  ·exact hr'.dF n o h
  ·obtain⟨l,a,b,d,e⟩:=outer n o h hg
   refine⟨l,b,d.sF hs.le (fun r hlr=>hs.kept r (e r hlr).1 (e r hlr).2) fun r hlr i v hv=> ?_⟩
   rcases hs.wR r i v hv with q|q|q
   ·exact q
   ·exact absurd q (e r hlr).2
   ·have:=(e r hlr).1;omega
 ·rcases split n o1 hn with h|⟨h,hg,_⟩
  ·rcases split m o2 hm with k|⟨k,kg,_⟩
   ·exact hr'.sep n m o1 o2 l1 l2 r h k hne GA hl2 hb1 hb2
   ·exact mixed n o1 l1 m o2 l2 r h GA hb1 k kg hl2 hb2
  ·rcases split m o2 hm with k|⟨k,kg,_⟩
   ·exact mixed m o2 l2 n o1 l1 r k hl2 hb2 h hg GA hb1
   ·obtain⟨l,a,b,_⟩:=outer n o1 h hg
    obtain⟨l3,d,e,_⟩:=outer m o2 k kg
    rw[b] at GA
    cases GA
    rw[e] at hl2
    cases hl2
    exact hr.sep n m o1 o2 l1 l2 r h k hne a d hb1 hb2
 ·have hg:G k=none:=by
   cases hg:G k with
   |none=>rfl
   |some o=>rw[hsub _ _ hg] at hk;cases hk
  obtain⟨e1,e2⟩:=hs.hid k l hg hl
  refine⟨?_,e2⟩
  by_cases ht:T k
  ·rw[h1 k ht];exact e1
  ·rw[h2 k ht];exact hk
 ·rcases split n o hn with h|⟨h,hg,_⟩
  ·exact(hs.owns r ⟨n,o,l,h,hl,hb⟩).imp (own_up r) id
  ·obtain⟨l3,a,b,_⟩:=outer n o h hg
   rw[b] at hl
   cases hl
   exact .inl ⟨n,o,l,h,a,hb⟩
 ·exact(hs.wR b i v hv).imp id fun h=>h.imp (own_up b) id
structure fk where
 j:Nat
 lo:Nat
 hi:Nat
 log:List Nat
noncomputable def ordered (before:List Nat) (j k:Nat):Bool:=((before.getD k 0).testBit j)||((before.getD j 0).testBit k)
noncomputable def BU (r:List (Nat×Nat)):List Nat->List (Nat×Nat)
 |[]=>r
 |n::l=>(n,Nat.succ n)::BU r l
noncomputable def kj (before:List Nat) (k:Nat) (ts:List fk) (r:List (Nat×Nat)):List (Nat×Nat):=
 List.rec (motive:=fun _=>List (Nat×Nat)) r (fun t _ ih=>Bool.rec (Bool.rec ((t.lo,t.hi)::BU ih t.log) ih (ordered before t.j k)) ih (Nat.beq t.j k)) ts
noncomputable def below (m:Nat) (l:List Nat):List Nat:=
 List.rec (motive:=fun _=>List Nat) [] (fun n _ ih=>Bool.rec ih (n::ih) (Nat.ble (Nat.succ n) m)) l
noncomputable def eF (before:List Nat) (k m:Nat) (ts:List fk) (r:List (Nat×Nat)):List (Nat×Nat):=
 List.rec (motive:=fun _=>List (Nat×Nat)) r (fun t _ ih=>Bool.rec (Bool.rec (BU ih (below m t.log)) ih (ordered before t.j k)) ih (Nat.beq t.j k)) ts
noncomputable def mU (j lo hi:Nat) (log:List Nat) (acc:List fk):List fk:=
 match log with
 |[]=>Bool.rec (⟨j,lo,hi,[]⟩::acc) acc (Nat.beq lo hi)
 |_::_=>⟨j,lo,hi,log⟩::acc
noncomputable def N0:List Nat->List Nat->Bool
 |[],_=>true
 |n::r,b=>match b.any (Nat.beq n) with
  |true=>N0 r b
  |false=>false
noncomputable def ly (before:List Nat) (j:Nat):Nat->Bool
 |0=>true
 |k+1=>match ordered before k j with
  |true=>ly before j k
  |false=>false
noncomputable def gM (before:List Nat) (sup:List fk):List fk->Bool
 |[]=>true
 |t::ts=>match t.log with
  |[]=>gM before sup ts
  |_::_=>match ly before t.j t.j with
   |true=>gM before sup ts
   |false=>match sup.any (fun s=>match Nat.beq s.j t.j with|true=>N0 t.log s.log|false=>false) with
    |true=>gM before sup ts
    |false=>false
noncomputable def Ia (ops:List Oper) (n:Nat):Bool:=
 ops.zipIdx.all fun x=>
  (x.1.looksAt ops.toArray).all (fun t=>ops.zipIdx.all fun y=>y.1.dst !=some t||(decide (y.2<x.2)&&x.1.after.any (fun e=>e.on==y.2&&Region.binds .any e))||(decide (x.2<y.2)&&y.1.after.any (fun e=>e.on==x.2&&Region.binds .any e)))&&
  ops.zipIdx.all (fun y=>y.2==x.2||y.1.dst==none||y.1.dst !=x.1.dst)&&
  (match x.1.dst with|some d=>decide (d<n)|none=>true)&&
  x.1.after.all (fun e=> !Region.binds .any e||decide (e.on<x.2))
inductive mN (ops:Array Oper):Nat->Nat->Prop where
 |one {k:Nat} {o:Oper} {e:Edge}:ops[k]? =some o->e∈o.after->Region.binds .any e=true->mN ops k e.on
 |more {k j:Nat} {o:Oper} {e:Edge}:ops[k]? =some o->e∈o.after->Region.binds .any e=true->mN ops e.on j->mN ops k j
theorem pH {f:Nat->Edge->Nat} {Q:Edge->Nat->Prop} (hf:∀s e j,(f s e).testBit j=true->s.testBit j=true\/Q e j):∀(l:List Edge) (s j:Nat),(l.foldl f s).testBit j=true->s.testBit j=true\/∃e∈l,Q e j
 |[],s,j,h=> .inl h
 |e::l,s,j,h=>by
  rcases pH hf l (f s e) j h with h1|⟨e',h1,h2⟩
  ·rcases hf s e j h1 with h2|h2
   ·exact .inl h2
   ·exact .inr ⟨e,.head _,h2⟩
  ·exact .inr ⟨e',.tail _ h1,h2⟩
theorem sr (ops:Array Oper):∀(l:List Oper) (acc:Array Nat),(∀i,l[i]? =ops[acc.size+i]?)->(∀k j,(acc.getD k 0).testBit j=true->mN ops k j)->
  ∀k j,(((l.foldl (fun acc o=>acc.push (o.after.foldl (fun s e=>if Region.binds .any e then s|||2^e.on|||acc.getD e.on 0 else s) 0)) acc)).getD k 0).testBit j=true->mN ops k j
 |[],acc,_,h=>h
 |o::l,acc,hl,h=>by
  rw[Uh]
  refine sr ops l _ (fun i=> ?_) fun k j hk=> ?_
  ·have:=hl (i+1)
   simp only[List.getElem?_cons_succ] at this
   rw[this,Array.size_push]
   congr 1
   omega
  ·have ho:ops[acc.size]? =some o:=by have:=hl 0;simpa using this.symm
   rw[Uj,Array.getElem?_push] at hk
   split at hk
   ·rename_i e
    subst e
    simp only[VS] at hk
    rw[<-VG] at hk
    rcases pH (Q:=fun e j=>Region.binds .any e=true/\(j=e.on\/(acc.getD e.on 0).testBit j=true)) (fun s e j hb=>by
     split at hb
     ·rename_i hbd
      rw[Nat.testBit_or,Nat.testBit_or,UT,UT] at hb
      rcases hb with(hb|hb)|hb
      ·exact .inl hb
      ·rw[Nat.testBit_two_pow] at hb
       exact .inr ⟨hbd,.inl (by simpa using(of_decide_eq_true hb).symm)⟩
      ·exact .inr ⟨hbd,.inr hb⟩
     ·exact .inl hb) o.after.toList 0 j hk with h1|⟨e,h1,h2,h3⟩
    ·simp at h1
    ·have h1:e∈o.after:=by simpa using h1
     rcases h3 with rfl|h3
     ·exact .one ho h1 h2
     ·exact .more ho h1 h2 (h _ _ h3)
   ·rename_i hne
    rw[<-Uj] at hk
    exact h k j hk
theorem qB {ops:Array Oper} {k j:Nat} (h:(((Region.before ops).toList).getD k 0).testBit j=true):mN ops k j:=by
 unfold Region.before at h
 rw[<-VG] at h
 refine sr ops ops.toList #[] (fun i=>by simp) (fun k j hk=>by simp at hk) k j ?_
 rw[Uj]
 rw[TB] at h
 simpa using h
theorem su (n:Nat) (p:Nat×Nat) (l:List (Nat×Nat)):b8 n (p::l)=true↔(p.1<=n/\n<p.2)\/b8 n l=true:=by
 show @Bool.rec (fun _=>Bool) (b8 n l) (@Bool.rec (fun _=>Bool) (b8 n l) true (Nat.ble (Nat.succ n) p.2)) (Nat.ble p.1 n)=true↔_
 cases h1:Nat.ble p.1 n with
 |false=>
  have:=nT h1
  simp only
  constructor
  ·intro h;exact .inr h
  ·rintro(h|h)
   ·omega
   ·exact h
 |true=>
  have h1:=cT h1
  cases h2:Nat.ble (Nat.succ n) p.2 with
  |false=>
   have:=nT h2
   simp only
   constructor
   ·intro h;exact .inr h
   ·rintro(h|h)
    ·omega
    ·exact h
  |true=>have:=cT h2;simp;left;omega
theorem mM (n:Nat) (r:List (Nat×Nat)):∀l,b8 n (BU r l)=true↔n∈l\/b8 n r=true
 |[]=>by simp[BU]
 |m::l=>by
  rw[BU,su,mM n r l,Tv]
  constructor
  ·rintro(h|h|h)
   ·exact .inl (.inl ii)
   ·exact .inl (.inr h)
   ·exact .inr h
  ·rintro((h|h)|h)
   ·exact .inl ii
   ·exact .inr (.inl h)
   ·exact .inr (.inr h)
theorem Fb (m n:Nat) (l:List Nat):below m (n::l)= @Bool.rec (fun _=>List Nat) (below m l) (n::below m l) (Nat.ble (Nat.succ n) m):=rfl
theorem kC {m n:Nat}:∀{l:List Nat},n∈below m l↔n∈l/\n<m
 |[]=>by simp[below]
 |x::l=>by
  rw[Fb]
  cases h:Nat.ble (Nat.succ x) m with
  |true=>
   have:=cT h
   simp only[Tv,kC (l:=l)]
   constructor
   ·rintro(h|h)
    ·exact⟨.inl h,by omega⟩
    ·exact⟨.inr h.1,h.2⟩
   ·rintro⟨h|h,h2⟩
    ·exact .inl h
    ·exact .inr ⟨h,h2⟩
  |false=>
   have:=nT h
   simp only[Tv,kC (l:=l)]
   constructor
   ·rintro h;exact⟨.inr h.1,h.2⟩
   ·rintro⟨h|h,h2⟩
    ·omega
    ·exact⟨h,h2⟩
theorem fv (before:List Nat) (k n:Nat) (r:List (Nat×Nat)):∀ts,b8 n (kj before k ts r)=true↔b8 n r=true\/∃t∈ts,t.j≠k/\ordered before t.j k=false/\((t.lo<=n/\n<t.hi)\/n∈t.log)
 |[]=>by simp[kj]
 |t::ts=>by
  have ih:=fv before k n r ts
  have e:kj before k (t::ts) r= @Bool.rec (fun _=>List (Nat×Nat)) (@Bool.rec (fun _=>List (Nat×Nat)) ((t.lo,t.hi)::BU (kj before k ts r) t.log) (kj before k ts r) (ordered before t.j k)) (kj before k ts r) (Nat.beq t.j k):=rfl
  rw[e]
  simp only[Tv,exists_eq_or_imp]
  cases h1:Nat.beq t.j k with
  |true=>
   have h1:=UN h1
   simp only[ih]
   constructor
   ·rintro(h|h)
    ·exact .inl h
    ·exact .inr (.inr h)
   ·rintro(h|h|h)
    ·exact .inl h
    ·exact absurd h1 h.1
    ·exact .inr h
  |false=>
   have h1:=beq_false h1
   cases h2:ordered before t.j k with
   |true=>
    simp only[ih]
    constructor
    ·rintro(h|h)
     ·exact .inl h
     ·exact .inr (.inr h)
    ·rintro(h|h|h)
     ·exact .inl h
     ·cases h.2.1
     ·exact .inr h
   |false=>
    simp only[su,mM,ih]
    constructor
    ·rintro(h|h|h|h)
     ·exact .inr (.inl ⟨h1,trivial,.inl h⟩)
     ·exact .inr (.inl ⟨h1,trivial,.inr h⟩)
     ·exact .inl h
     ·exact .inr (.inr h)
    ·rintro(h|⟨_,_,h|h⟩|h)
     ·exact .inr (.inr (.inl h))
     ·exact .inl h
     ·exact .inr (.inl h)
     ·exact .inr (.inr (.inr h))
theorem ff (before:List Nat) (k m n:Nat) (r:List (Nat×Nat)):∀ts,b8 n (eF before k m ts r)=true↔b8 n r=true\/∃t∈ts,t.j≠k/\ordered before t.j k=false/\n∈t.log/\n<m
 |[]=>by simp[eF]
 |t::ts=>by
  have ih:=ff before k m n r ts
  have e:eF before k m (t::ts) r= @Bool.rec (fun _=>List (Nat×Nat)) (@Bool.rec (fun _=>List (Nat×Nat)) (BU (eF before k m ts r) (below m t.log)) (eF before k m ts r) (ordered before t.j k)) (eF before k m ts r) (Nat.beq t.j k):=rfl
  rw[e]
  simp only[Tv,exists_eq_or_imp]
  cases h1:Nat.beq t.j k with
  |true=>
   have h1:=UN h1
   simp only[ih]
   constructor
   ·rintro(h|h)
    ·exact .inl h
    ·exact .inr (.inr h)
   ·rintro(h|h|h)
    ·exact .inl h
    ·exact absurd h1 h.1
    ·exact .inr h
  |false=>
   have h1:=beq_false h1
   cases h2:ordered before t.j k with
   |true=>
    simp only[ih]
    constructor
    ·rintro(h|h)
     ·exact .inl h
     ·exact .inr (.inr h)
    ·rintro(h|h|h)
     ·exact .inl h
     ·cases h.2.1
     ·exact .inr h
   |false=>
    simp only[mM,ih,kC]
    constructor
    ·rintro(h|h|h)
     ·exact .inr (.inl ⟨h1,trivial,h⟩)
     ·exact .inl h
     ·exact .inr (.inr h)
    ·rintro(h|⟨_,_,h⟩|h)
     ·exact .inr (.inl h)
     ·exact .inl h
     ·exact .inr (.inr h)
theorem zF (before:List Nat) (j k:Nat):ordered before j k=ordered before k j:=by
 unfold ordered
 rw[Bool.or_comm]
theorem oj {ops:Array Oper} {j k:Nat} (h:ordered (Region.before ops).toList j k=true):mN ops k j\/mN ops j k:=by
 unfold ordered at h
 rw[UT] at h
 exact h.imp qB qB
theorem lJ {before:List Nat} {j:Nat}:∀{m:Nat},ly before j m=true->∀k,k<m->ordered before k j=true
 |0,_,k,hk=>by omega
 |m+1,h,k,hk=>by
  unfold ly at h
  split at h
  ·rename_i h1
   by_cases e:k=m
   ·subst e;exact h1
   ·exact lJ h k ii
  ·cases h
theorem xm:∀{l b:List Nat},N0 l b=true->∀n∈l,n∈b
 |[],_,_,n,hn=>by cases hn
 |x::l,b,h,n,hn=>by
  unfold N0 at h
  split at h
  ·rename_i h1
   rcases Tv.1 hn with rfl|hn
   ·exact AD h1
   ·exact xm h n hn
  ·cases h
theorem jO {before:List Nat} {sup:List fk}:∀{ts:List fk},gM before sup ts=true->∀t∈ts,∀n∈t.log,(∀k,k<t.j->ordered before k t.j=true)\/∃s∈sup,s.j=t.j/\n∈s.log
 |[],_,t,ht,_,_=>by cases ht
 |x::ts,h,t,ht,n,hn=>by
  unfold gM at h
  split at h
  ·rename_i h0
   rcases Tv.1 ht with rfl|ht
   ·rw[h0] at hn;cases hn
   ·exact jO h t ht n hn
  ·split at h
   ·rename_i h1
    rcases Tv.1 ht with rfl|ht
    ·exact .inl fun k hk=>lJ h1 k hk
    ·exact jO h t ht n hn
   ·split at h
    ·rename_i h1
     rcases Tv.1 ht with rfl|ht
     ·rw[Vg] at h1
      obtain⟨s,hs,h2⟩:=h1
      split at h2
      ·rename_i h3
       exact .inr ⟨s,hs,UN h3,xm h2 n hn⟩
      ·cases h2
     ·exact jO h t ht n hn
    ·cases h
structure xb (ops:Array Oper) (n:Nat):Prop where
 dep:∀(k:Nat) (o:Oper),ops[k]? =some o->∀t∈o.looksAt ops,∀(j:Nat) (o':Oper),ops[j]? =some o'->o'.dst=some t->(j<k/\∃e∈o.after,e.on=j/\Region.binds .any e=true)\/(k<j/\∃e∈o'.after,e.on=k/\Region.binds .any e=true)
 dist:∀(k:Nat) (o:Oper),ops[k]? =some o->∀(j:Nat) (o':Oper),ops[j]? =some o'->o.dst≠none->o'.dst=o.dst->j=k
 bound:∀(k:Nat) (o:Oper),ops[k]? =some o->∀d:Nat,o.dst=some d->d<n
 down:∀(k:Nat) (o:Oper),ops[k]? =some o->∀e∈o.after,Region.binds .any e=true->e.on<k
theorem H9 {ops:Array Oper} {n:Nat} (h:Ia ops.toList n=true):xb ops n:=by
 unfold Ia at h
 rw[UP] at h
 have mem:∀k o,ops[k]? =some o->(o,k)∈ops.toList.zipIdx:=fun k o hk=>by
  rw[List.mem_zipIdx_iff_getElem?];simpa using hk
 refine⟨fun k o hk t ht j o' hj hd=> ?_,fun k o hk j o' hj hn he=> ?_,fun k o hk d hd=> ?_,fun k o hk e he hb=> ?_⟩
 ·have:=h _ (mem k o hk)
  simp only[Tw,UP] at this
  have h2:=this.1.1.1 t (by simpa using ht) _ (mem j o' hj)
  rw[hd] at h2
  simp only[bne_self_eq_false,UW,UT,Tw,Ul,Array.any_eq_true',beq_iff_eq] at h2
  exact h2
 ·have:=h _ (mem k o hk)
  simp only[Tw,UP] at this
  have h2:=this.1.1.2 _ (mem j o' hj)
  simp at h2
  rcases h2 with(h2|h2)|h2
  ·exact h2
  ·rw[<-he] at hn;exact absurd h2 hn
  ·exact absurd he h2
 ·have:=h _ (mem k o hk)
  simp only[Tw,UP] at this
  have h2:=this.1.2
  simp[hd] at h2
  exact h2
 ·have:=h _ (mem k o hk)
  simp only[Tw,UP] at this
  have h2:=this.2
  rw[Array.all_eq_true_iff_forall_mem] at h2
  have:=h2 e he
  simpa[hb] using this
structure lX where
 fr:Fr
 st:St
 s:SVal
 b:Bool
 post:St
 acc:List fk
noncomputable def inner (before:List Nat) (sup:List fk) (k:Nat) (R:lX):St:=⟨R.st.heap,R.st.next,R.st.next,[],kj before k R.acc (eF before k R.st.next sup R.st.cB)⟩
structure eu (P:Program) (ops:Array Oper) (before:List Nat) (sup:List fk) (k:Nat) (o:Oper) (R R':lX):Prop where
 want:l6 ops.toList R.fr o.guard=some R.b
 run:R.b=true->bD P o (DE R.fr) (inner before sup k R) R.s R.post
 not:R.b=false->R.s= .dT []/\R.post=inner before sup k R
 put:qV R.fr o.dst R.s=some R'.fr
 st:R'.st=⟨R.post.heap,R.post.next,R.st.mark,below R.st.mark R.post.log++R.st.log,R.st.cB⟩
 acc:R'.acc=mU k R.st.next R.post.next R.post.log R.acc
inductive gy (P:Program) (ops:Array Oper) (before:List Nat) (sup:List fk):List Oper->Nat->Fr->St->List fk->Fr->St->List fk->Prop where
 |nil {k:Nat} {fr:Fr} {st:St} {acc:List fk}:gy P ops before sup [] k fr st acc fr st acc
 |skip {o:Oper} {l:List Oper} {k:Nat} {fr fr1 fr':Fr} {st st':St} {acc acc':List fk}:l6 ops.toList fr o.guard=some false->qV fr o.dst (.dT [])=some fr1->gy P ops before sup l (k+1) fr1 st acc fr' st' acc'->gy P ops before sup (o::l) k fr st acc fr' st' acc'
 |cons {o:Oper} {l:List Oper} {k:Nat} {fr fr1 fr':Fr} {st post st':St} {acc acc':List fk} {s:SVal}:l6 ops.toList fr o.guard=some true->bD P o (DE fr) ⟨st.heap,st.next,st.next,[],kj before k acc (eF before k st.next sup st.cB)⟩ s post->
   qV fr o.dst s=some fr1->gy P ops before sup l (k+1) fr1 ⟨post.heap,post.next,st.mark,below st.mark post.log++st.log,st.cB⟩ (mU k st.next post.next post.log acc) fr' st' acc'->gy P ops before sup (o::l) k fr st acc fr' st' acc'
theorem JY {P:Program} {ops:Array Oper} {before:List Nat} {sup:List fk} {l:List Oper} {k:Nat} {fr fr':Fr} {st st':St} {acc acc':List fk} (h:gy P ops before sup l k fr st acc fr' st' acc'):
  ∃R:Nat->lX,(R k).fr=fr/\(R k).st=st/\(R k).acc=acc/\((R (k+l.length)).fr=fr'/\(R (k+l.length)).st=st'/\(R (k+l.length)).acc=acc')/\∀(i:Nat) (o:Oper),l[i]? =some o->eu P ops before sup (k+i) o (R (k+i)) (R (k+i+1)):=by
 have fin:∀{o:Oper} {l:List Oper} {k:Nat} (R:Nat->lX) (rc:lX) {fr':Fr} {st':St} {acc':List fk},eu P ops before sup k o rc (R (k+1))->((R (k+1+l.length)).fr=fr'/\(R (k+1+l.length)).st=st'/\(R (k+1+l.length)).acc=acc')->
   (∀(i:Nat) (o:Oper),l[i]? =some o->eu P ops before sup (k+1+i) o (R (k+1+i)) (R (k+1+i+1)))->
   ∃R:Nat->lX,(R k).fr=rc.fr/\(R k).st=rc.st/\(R k).acc=rc.acc/\((R (k+(o::l).length)).fr=fr'/\(R (k+(o::l).length)).st=st'/\(R (k+(o::l).length)).acc=acc')/\
    ∀(i:Nat) (o':Oper),(o::l)[i]? =some o'->eu P ops before sup (k+i) o' (R (k+i)) (R (k+i+1)):=by
  intro o l k R rc fr' st' acc' hs hr hall
  refine⟨fun j=>if j=k then rc else R j,by simp,by simp,by simp,?_,fun i o' hi=> ?_⟩
  ·have:k+1+l.length=k+(o::l).length:=by simp;omega
   rw[this] at hr
   have hne:k+(o::l).length≠k:=by simp
   simp only[Ti hne]
   exact hr
  ·cases i with
   |zero=>
    simp only[U6,T8] at hi
    subst hi
    simpa using hs
   |succ i=>
    have:=hall i o' (by simpa using hi)
    have e:k+1+i=k+(i+1):=by omega
    rw[e] at this
    simp only[Ti (show k+(i+1)≠k by omega),Ti (show k+(i+1)+1≠k by omega)]
    exact this
 induction h with
 |nil=>
  rename_i k fr st acc
  exact⟨fun _=>⟨fr,st,.nilPtr,false,st,acc⟩,rfl,rfl,rfl,⟨rfl,rfl,rfl⟩,fun i o hi=>by simp at hi⟩
 |skip h1 h2 _ ih=>
  rename_i o l k fr fr1 fr' st st' acc acc' _
  obtain⟨R,g1,g2,g3,g4,g5⟩:=ih
  exact fin R ⟨fr,st,.dT [],false,inner before sup k ⟨fr,st,.dT [],false,st,acc⟩,acc⟩ ⟨h1,fun e=>(by cases e),fun _=>⟨rfl,rfl⟩,by rw[g1];exact h2,by rw[g2];rfl,by
   rw[g3]
   show acc= @Bool.rec (fun _=>List fk) (⟨k,st.next,st.next,[]⟩::acc) acc (Nat.beq st.next st.next)
   rw[VM]⟩ g4 g5
 |cons h1 h2 h3 _ ih=>
  rename_i o l k fr fr1 fr' st post st' acc acc' s _
  obtain⟨R,g1,g2,g3,g4,g5⟩:=ih
  exact fin R ⟨fr,st,s,true,post,acc⟩ ⟨h1,fun _=>h2,fun e=>(by cases e),by rw[g1];exact h3,by rw[g2],by rw[g3]⟩ g4 g5
theorem BZ {j lo hi:Nat} {log:List Nat} {acc:List fk} {t:fk}:t∈mU j lo hi log acc↔t∈acc\/(t=⟨j,lo,hi,log⟩/\(lo≠hi\/log≠[])):=by
 unfold mU
 split
 ·cases h:Nat.beq lo hi with
  |true=>have:=UN h;simp[this]
  |false=>
   have:=beq_false h
   simp only[Tv]
   constructor
   ·rintro(h|h)
    ·exact .inr ⟨h,.inl this⟩
    ·exact .inl h
   ·rintro(h|h)
    ·exact .inr h
    ·exact .inl h.1
 ·simp only[Tv]
  constructor
  ·rintro(h|h)
   ·exact .inr ⟨h,.inr (by simp)⟩
   ·exact .inl h
  ·rintro(h|h)
   ·exact .inr h
   ·exact .inl h.1
def Touch (R:lX) (n:Nat):Prop:=(R.st.next<=n/\n<R.post.next)\/n∈R.post.log
instance (R:lX) (n:Nat):Decidable (Touch R n):=by unfold Touch;infer_instance
theorem HN {P:Program} {ops:Array Oper} {sup:List fk} {R:Nat->lX} (hR:∀(k:Nat) (o:Oper),ops[k]? =some o->eu P ops (Region.before ops).toList sup k o (R k) (R (k+1))) {k:Nat} {o:Oper} (ho:ops[k]? =some o):eJ (inner (Region.before ops).toList sup k (R k)) (R k).post:=by
 have h:=hR k o ho
 cases hb:(R k).b with
 |true=>exact(h.run hb).eP
 |false=>rw[(h.not hb).2];exact eJ.refl _
theorem mo {P:Program} {ops:Array Oper} {sup:List fk} {R:Nat->lX} (hR:∀(k:Nat) (o:Oper),ops[k]? =some o->eu P ops (Region.before ops).toList sup k o (R k) (R (k+1))) {k:Nat} {o:Oper} (ho:ops[k]? =some o):(R k).st.next<=(R k).post.next/\(R (k+1)).st.next=(R k).post.next:=by
 have h:=hR k o ho
 exact⟨(HN hR ho).next,by rw[h.st]⟩
theorem pZ {P:Program} {ops:Array Oper} {sup:List fk} {R:Nat->lX} (hR:∀(k:Nat) (o:Oper),ops[k]? =some o->eu P ops (Region.before ops).toList sup k o (R k) (R (k+1))) {k:Nat} {o:Oper} (ho:ops[k]? =some o) {n:Nat} (hn:n∈(R k).post.log):b8 n (inner (Region.before ops).toList sup k (R k)).cB=false/\n<(R k).st.next:=by
 rcases(HN hR ho).AO n hn with h|h
 ·cases h
 ·exact h
theorem qY {sup:List fk} {k n:Nat} {before:List Nat} {rc:lX} (h:b8 n (inner before sup k rc).cB=false):b8 n rc.st.cB=false:=by
 cases hb:b8 n rc.st.cB with
 |false=>rfl
 |true=>
  have:b8 n (inner before sup k rc).cB=true:=(fv ..).2 (.inl ((ff ..).2 (.inl hb)))
  rw[h] at this
  cases this
theorem N1 {P:Program} {ops:Array Oper} {sup:List fk} {R:Nat->lX} (hR:∀(k:Nat) (o:Oper),ops[k]? =some o->eu P ops (Region.before ops).toList sup k o (R k) (R (k+1))) {k:Nat} {o:Oper} (ho:ops[k]? =some o):eJ (R k).st (R (k+1)).st:=by
 have hs:=HN hR ho
 have h:=hR k o ho
 rw[h.st]
 refine⟨rfl,rfl,hs.next,fun n hn=>Uq _ hn,fun n h1 h2 h3=> ?_,fun hw=>hs.wf hw,fun n hn=> ?_⟩
 ·have hnl:n∉(R k).post.log:=fun hm=>h3 (Ua _ (kC.2 ⟨hm,h2⟩))
  exact hs.same n h1 h1 hnl
 ·rcases Tz.1 hn with hm|hm
  ·obtain⟨h4,h5⟩:=kC.1 hm
   exact .inr ⟨qY (pZ hR ho h4).1,h5⟩
  ·exact .inl hm
theorem rM {P:Program} {ops:Array Oper} {sup:List fk} {R:Nat->lX} (hR:∀(k:Nat) (o:Oper),ops[k]? =some o->eu P ops (Region.before ops).toList sup k o (R k) (R (k+1))):∀{k:Nat},k<=ops.size->∀{j:Nat},j<=k->eJ (R j).st (R k).st
 |0,_,j,hj=>by cases Vu.1 hj;exact eJ.refl _
 |k+1,hk,j,hj=>by
  rcases Vm hj with rfl|hlt
  ·exact eJ.refl _
  ·exact(rM hR ii ii).trans (N1 hR (T6 (show k<ops.size by omega)))
theorem Ny {P:Program} {ops:Array Oper} {sup:List fk} {R:Nat->lX} (hR:∀(k:Nat) (o:Oper),ops[k]? =some o->eu P ops (Region.before ops).toList sup k o (R k) (R (k+1))) (hwf:Wf (R 0).st) {k:Nat} (hk:k<=ops.size):Wf (R k).st:=hwf.eP (rM hR hk (TC _))
theorem gI {P:Program} {ops:Array Oper} {sup:List fk} {R:Nat->lX} (hR:∀(k:Nat) (o:Oper),ops[k]? =some o->eu P ops (Region.before ops).toList sup k o (R k) (R (k+1))) {j k:Nat} (hj:j<k) (hk:k<=ops.size):(R j).post.next<=(R k).st.next:=by
 have:=(mo hR (T6 (show j<ops.size by omega))).2
 rw[<-this]
 exact(rM hR hk (show j+1<=k from hj)).next
theorem Hj {P:Program} {ops:Array Oper} {sup:List fk} {R:Nat->lX} (hR:∀(k:Nat) (o:Oper),ops[k]? =some o->eu P ops (Region.before ops).toList sup k o (R k) (R (k+1))) (hacc:(R 0).acc=[]):∀{k:Nat},k<=ops.size->∀t,t∈(R k).acc↔∃j,j<k/\t=⟨j,(R j).st.next,(R j).post.next,(R j).post.log⟩/\((R j).st.next≠(R j).post.next\/(R j).post.log≠[])
 |0,_,t=>by
  rw[hacc]
  constructor
  ·intro h;cases h
  ·rintro⟨j,hj,_⟩;omega
 |k+1,hk,t=>by
  have h:=hR k _ (T6 (show k<ops.size by omega))
  rw[h.acc,BZ,Hj hR hacc (show k<=ops.size by omega)]
  constructor
  ·rintro(⟨j,hj,h1⟩|⟨h1,h2⟩)
   ·exact⟨j,by omega,h1⟩
   ·exact⟨k,by omega,h1,h2⟩
  ·rintro⟨j,hj,h1,h2⟩
   by_cases e:j=k
   ·subst e;exact .inr ⟨h1,h2⟩
   ·exact .inl ⟨j,by omega,h1,h2⟩
theorem yP {P:Program} {ops:Array Oper} {sup:List fk} {R:Nat->lX} (hR:∀(k:Nat) (o:Oper),ops[k]? =some o->eu P ops (Region.before ops).toList sup k o (R k) (R (k+1))) (hacc:(R 0).acc=[]) {j k:Nat} (hj:j<k) (hk:k<=ops.size) {n:Nat} (ht:Touch (R j) n) (ho:ordered (Region.before ops).toList j k=false):b8 n (inner (Region.before ops).toList sup k (R k)).cB=true:=by
 refine(fv ..).2 (.inr ⟨⟨j,(R j).st.next,(R j).post.next,(R j).post.log⟩,(Hj hR hacc hk _).2 ⟨j,hj,rfl,?_⟩,by show j≠k;omega,ho,ht⟩)
 rcases ht with h|h
 ·left;omega
 ·right;intro e;rw[e] at h;cases h
theorem wfI {P:Program} {ops:Array Oper} {sup:List fk} {R:Nat->lX} (hR:∀(k:Nat) (o:Oper),ops[k]? =some o->eu P ops (Region.before ops).toList sup k o (R k) (R (k+1))) (hacc:(R 0).acc=[]) (hwf:Wf (R 0).st) {k:Nat} {o:Oper} (ho:ops[k]? =some o):Wf (inner (Region.before ops).toList sup k (R k)):=by
 have hk:k<ops.size:=(TI.1 ho).1
 refine⟨(Ny hR hwf ii).none,fun n hn=> ?_,Tp _⟩
 rcases(fv ..).1 hn with h|⟨t,h1,h2,h3,h4⟩
 ·rcases(ff ..).1 h with h|⟨t,_,_,_,_,h5⟩
  ·exact(Ny hR hwf ii).cB n h
  ·exact h5
 ·obtain⟨j,hj,rfl,_⟩:=(Hj hR hacc ii t).1 h1
  have hm:=gI hR hj ii
  have hoj:=T6 (show j<ops.size by omega)
  have hns:=mo hR hoj
  rcases h4 with h4|h4
  ·show n<(R k).st.next
   simp only at h4
   omega
  ·have:=(pZ hR hoj h4).2
   show n<(R k).st.next
   omega
theorem wx {P:Program} {ops:Array Oper} {sup:List fk} {R:Nat->lX} (hR:∀(k:Nat) (o:Oper),ops[k]? =some o->eu P ops (Region.before ops).toList sup k o (R k) (R (k+1))) (hacc:(R 0).acc=[]) {j k:Nat} (hj:j<k) {o:Oper} (ho:ops[k]? =some o) {n:Nat} (h1:Touch (R j) n) (h2:Touch (R k) n):ordered (Region.before ops).toList j k=true:=by
 have hk:k<ops.size:=(TI.1 ho).1
 cases hb:ordered (Region.before ops).toList j k with
 |true=>rfl
 |false=>
  exfalso
  have hban:=yP hR hacc hj ii h1 hb
  have hm:=gI hR hj (show k<=ops.size by omega)
  have hoj:=T6 (show j<ops.size by omega)
  have hns:=mo hR hoj
  rcases h2 with h2|h2
  ·rcases h1 with h1|h1
   ·omega
   ·have:=(pZ hR hoj h1).2;omega
  ·rw[(pZ hR ho h2).1] at hban
   cases hban
noncomputable def gA (R:Nat->lX) (D:Nat->Bool):Nat->gx
 |0,n=>(R 0).st.look n
 |k+1,n=>if D k=true/\Touch (R k) n then(R (k+1)).st.look n else gA R D k n
theorem k8 {R:Nat->lX} {D:Nat->Bool} {n:Nat}:∀{N m:Nat},m<=N->(∀i,m<=i->i<N->D i=true->¬Touch (R i) n)->gA R D N n=gA R D m n
 |0,m,hm,_=>by cases Vu.1 hm;rfl
 |N+1,m,hm,h=>by
  rcases Vm hm with rfl|hlt
  ·rfl
  ·rw[gA,Ti (fun q=>h N ii ii q.1 q.2)]
   exact k8 ii fun i h1 h2=>h i h1 ii
theorem xR {R:Nat->lX} {D D':Nat->Bool} {k:Nat} (hD:∀j,j≠k->D' j=D j) {n:Nat} (hn:¬Touch (R k) n):∀N,gA R D' N n=gA R D N n
 |0=>rfl
 |N+1=>by
  rw[gA,gA,xR hD hn N]
  by_cases e:N=k
  ·subst e
   rw[Ti (fun q=>hn q.2),Ti (fun q=>hn q.2)]
  ·rw[hD N e]
structure Dy (c:Ctx) (fr:Fr) (a:Act) (L:List Tmp):Prop where
 get:∀t∈L,∀s,fr.get t=some s->∃v,a.tmps[t]? =some v/\Den c s v
theorem Dy.eval {c:Ctx} {fr:Fr} {a:Act} {ops:Array Oper} {o:Oper} (h:Dy c fr a (o.looksAt ops)) (x:Operand) (hx:x∈o.op.operands.toList) (s:SVal) (hs:DE fr x=some s):Den c s (a.eval x):=by
 cases x with
 |tmp t=>
  obtain⟨v,h1,h2⟩:=h.get t (Ua _ (List.mem_filterMap.2 ⟨.tmp t,hx,rfl⟩)) s hs
  rw[show a.eval (.tmp t)=v by simp[Act.eval,Uj,h1]]
  exact h2
 |const v=>exact zI hs c
 |global g=>cases hs
 |func f=>cases hs;exact⟨[],[],rfl,rfl,rfl⟩
theorem Dy.want {c:Ctx} {fr:Fr} {a:Act} {ops:Array Oper} {o:Oper} (hf:Dy c fr a (o.looksAt ops)) {b:Bool} (h:l6 ops.toList fr o.guard=some b):Region.wanted o (yielded ops a.tmps)=b:=by
 unfold Region.wanted
 cases hg:o.guard with
 |none=>rw[hg] at h;cases h;rfl
 |some p=>
  obtain⟨j,want⟩:=p
  rw[hg] at h
  have h:eH (ops.toList[j]?) (fun q=>eH q.dst fun d=>eH (fr.get d) fun v=>gV want v)=some b:=h
  rw[bf] at h
  obtain⟨q,h1,h⟩:=h
  rw[bf] at h
  obtain⟨d,h2,h⟩:=h
  rw[bf] at h
  obtain⟨s,h3,h4⟩:=h
  have h1:ops[j]? =some q:=by simpa using h1
  obtain⟨v,h5,h6⟩:=hf.get d (Uq _ (by simp[hg,h1,h2])) s h3
  have:=qf h4 h6
  simp only[yielded,h1,HP,h2,h5]
  cases v<;>exact this
abbrev lH (listed:Array Bool):Nat->Bool:=fun k=>listed.getD k false
structure lD (ops:Array Oper) (listed:Array Bool):Prop where
 size:listed.size=ops.size
 dep:∀(j:Nat) (o:Oper),ops[j]? =some o->lH listed j=true->∀e∈o.after,Region.binds .any e=true->lH listed e.on=true
theorem lD.waits {ops:Array Oper} {listed:Array Bool} (h:lD ops listed) {k j:Nat} (hw:mN ops k j):(∀o,ops[k]? =some o->∀e∈o.after,Region.binds .any e=true->lH listed e.on=true)->lH listed j=true:=by
 induction hw with
 |one h1 h2 h3=>exact fun hd=>hd _ h1 _ h2 h3
 |more h1 h2 h3 _ ih=>exact fun hd=>ih fun o' ho'=>h.dep _ o' ho' (hd _ h1 _ h2 h3)
theorem lD.of {ops:Array Oper} {listed:Array Bool} (h:lD ops listed) {k j:Nat} (hw:mN ops k j) (hk:lH listed k=true):lH listed j=true:=
 h.waits hw fun o ho=>h.dep k o ho hk
structure wb (ops:Array Oper) (listed:Array Bool) (k:Nat) (o:Oper):Prop where
 op:ops[k]? =some o
 un:lH listed k=false
 Sq:∀e∈o.after,Region.binds .any e=true->lH listed e.on=true
theorem A3 {ops:Array Oper} {R:Nat->lX} (hB:xb ops (R 0).fr.n) {k j:Nat} (h:mN ops k j):j<k:=by
 induction h with
 |one h1 h2 h3=>exact hB.down _ _ h1 _ h2 h3
 |more h1 h2 h3 _ ih=>exact Nat.lt_trans ih (hB.down _ _ h1 _ h2 h3)
theorem wQ {ops:Array Oper} {R:Nat->lX} (hB:xb ops (R 0).fr.n) {listed:Array Bool} (hc:lD ops listed) {k j:Nat} {o:Oper} (hr:wb ops listed k o) (hj:j<k) (ho:ordered (Region.before ops).toList j k=true):lH listed j=true:=by
 rcases oj ho with h|h
 ·exact hc.waits h fun o' ho'=>by rw[hr.op] at ho';cases ho';exact hr.Sq
 ·have:=A3 hB h;omega
theorem rT {ops:Array Oper} {R:Nat->lX} (hB:xb ops (R 0).fr.n) {listed:Array Bool} (hc:lD ops listed) {k i:Nat} {o:Oper} (hr:wb ops listed k o) (hi:k<i) (hd:lH listed i=true):ordered (Region.before ops).toList k i=false:=by
 cases h:ordered (Region.before ops).toList k i with
 |false=>rfl
 |true=>
  exfalso
  rcases oj h with h|h
  ·have:=hc.of h hd
   rw[hr.un] at this
   cases this
  ·have:=A3 hB h;omega
theorem ye {P:Program} {ops:Array Oper} {sup:List fk} {R:Nat->lX} (hR:∀(k:Nat) (o:Oper),ops[k]? =some o->eu P ops (Region.before ops).toList sup k o (R k) (R (k+1))) {n:Nat}:∀{k:Nat},k<=ops.size->∀{j:Nat},j<=k->(∀i,j<=i->i<k->¬Touch (R i) n)->Wf (R 0).st->(R k).st.look n=(R j).st.look n
 |0,_,j,hj,_,_=>by cases Vu.1 hj;rfl
 |k+1,hk,j,hj,h,hwf=>by
  rcases Vm hj with rfl|hlt
  ·rfl
  ·have ho:=T6 (show k<ops.size by omega)
   rw[<-ye hR (show k<=ops.size by omega) (show j<=k by omega) (fun i h1 h2=>h i h1 ii) hwf]
   have ht:=h k ii ii
   have hs:=HN hR ho
   have hw:=Ny hR hwf (show k<=ops.size by omega)
   have hst:=(hR k _ ho).st
   have hheap:bx (R k).post.heap n=bx (R k).st.heap n:=by
    by_cases hn:n<(R k).st.next
    ·exact hs.same n hn hn fun hm=>ht (.inr hm)
    ·have hn':(R k).post.next<=n:=by
      rcases TX n (R k).post.next with q|q
      ·exact absurd (.inl ⟨by omega,q⟩) ht
      ·exact q
     rw[hs.wf hw.none n hn',hw.none n ii]
   rw[look_eq,look_eq,hst]
   simp only
   rw[hheap]
theorem oT {P:Program} {ops:Array Oper} {sup:List fk} {R:Nat->lX} (hR:∀(k:Nat) (o:Oper),ops[k]? =some o->eu P ops (Region.before ops).toList sup k o (R k) (R (k+1))) (hwf:Wf (R 0).st) {D:Nat->Bool} {n:Nat}:∀{m:Nat},m<=ops.size->(∀j,j<m->Touch (R j) n->D j=true)->gA R D m n=(R m).st.look n
 |0,_,_=>rfl
 |m+1,hm,h=>by
  rw[gA]
  by_cases ht:Touch (R m) n
  ·rw[Th ⟨h m ii ht,ht⟩]
  ·rw[Ti (fun q=>ht q.2),oT hR hwf (show m<=ops.size by omega) fun j hj=>h j ii]
   have hno:∀i,m<=i->i<m+1->¬Touch (R i) n:=fun i h1 h2=>by
    have e:i=m:=by omega
    rw[e]
    exact ht
   exact(ye hR hm (show m<=m+1 by omega) hno hwf).symm
theorem sees {P:Program} {ops:Array Oper} {sup:List fk} {R:Nat->lX} (hR:∀(k:Nat) (o:Oper),ops[k]? =some o->eu P ops (Region.before ops).toList sup k o (R k) (R (k+1))) (hacc:(R 0).acc=[]) (hwf:Wf (R 0).st) (hB:xb ops (R 0).fr.n) (hlate:gM (Region.before ops).toList sup (R ops.size).acc=true) {listed:Array Bool} (hc:lD ops listed) {k:Nat} {o:Oper} (hr:wb ops listed k o) {n:Nat} {ob:bm} (hn:(inner (Region.before ops).toList sup k (R k)).look n=some ob):
  gA R (lH listed) ops.size n=some ob:=by
 have hk:k<ops.size:=(TI.1 hr.op).1
 obtain⟨h1,h2⟩:=cR hn
 have h1:bx (R k).st.heap n=some ob:=h1
 have hlk:(R k).st.look n=some ob:=by rw[look_eq,qY h2];exact h1
 have hw:=Ny hR hwf (show k<=ops.size by omega)
 have hlt:n<(R k).st.next:=by
  rcases TX n (R k).st.next with q|q
  ·exact q
  ·rw[hw.none n q] at h1;cases h1
 have hA:∀i,k<=i->i<ops.size->lH listed i=true->¬Touch (R i) n:=by
  intro i hki hi hd ht
  have hne:i≠k:=fun e=>by subst e;rw[hr.un] at hd;cases hd
  have hord:=rT hB hc hr (show k<i by omega) hd
  have hoi:=T6 hi
  have hm:=gI hR (show k<i by omega) (show i<=ops.size by omega)
  have hns:=mo hR hr.op
  rcases ht with ht|ht
  ·omega
  ·have hmem:(⟨i,(R i).st.next,(R i).post.next,(R i).post.log⟩:fk)∈(R ops.size).acc:=(Hj hR hacc (Tp _) _).2 ⟨i,hi,rfl,.inr fun e=>by rw[e] at ht;cases ht⟩
   rcases jO hlate _ hmem n ht with h3|⟨s,h3,h4,h5⟩
   ·have:=h3 k (by show k<i;omega)
    simp only at this
    rw[hord] at this
    cases this
   ·have h4:s.j=i:=h4
    have:b8 n (inner (Region.before ops).toList sup k (R k)).cB=true:=(fv ..).2 (.inl ((ff ..).2 (.inr ⟨s,h3,by omega,by rw[h4,zF];exact hord,h5,hlt⟩)))
    have h2:b8 n (inner (Region.before ops).toList sup k (R k)).cB=false:=h2
    rw[h2] at this
    cases this
 have hC:∀j,j<k->Touch (R j) n->lH listed j=true:=by
  intro j hj ht
  cases hb:ordered (Region.before ops).toList j k with
  |true=>exact wQ hB hc hr hj hb
  |false=>
   have:=yP hR hacc hj ii ht hb
   have h2:b8 n (inner (Region.before ops).toList sup k (R k)).cB=false:=h2
   rw[h2] at this
   cases this
 rw[k8 (m:=k) ii hA,oT hR hwf ii hC,hlk]
theorem Ko {P:Program} {ops:Array Oper} {sup:List fk} {R:Nat->lX} (hR:∀(k:Nat) (o:Oper),ops[k]? =some o->eu P ops (Region.before ops).toList sup k o (R k) (R (k+1))) (hacc:(R 0).acc=[]) (hwf:Wf (R 0).st) {k:Nat} {o:Oper} (ho:ops[k]? =some o) {n:Nat} (ht:Touch (R k) n):(R (k+1)).st.look n=(R k).post.look n:=by
 have hs:=HN hR ho
 have hb:b8 n (inner (Region.before ops).toList sup k (R k)).cB=false:=by
  rcases ht with h|h
  ·cases hb:b8 n (inner (Region.before ops).toList sup k (R k)).cB with
   |false=>rfl
   |true=>
    have:n<(R k).st.next:=(wfI hR hacc hwf ho).cB n hb
    omega
  ·exact(pZ hR ho h).1
 rw[look_eq,look_eq,(hR k o ho).st,hs.cB,hb]
 simp only
 rw[qY hb]
theorem Lc {P:Program} {ops:Array Oper} {sup:List fk} {R:Nat->lX} (hR:∀(k:Nat) (o:Oper),ops[k]? =some o->eu P ops (Region.before ops).toList sup k o (R k) (R (k+1))) (hacc:(R 0).acc=[]) (hB:xb ops (R 0).fr.n) {listed:Array Bool} (hc:lD ops listed) {k:Nat} {o:Oper} (hr:wb ops listed k o) {listed':Array Bool} (hk':lH listed' k=true) (hD:∀j,j≠k->lH listed' j=lH listed j) {n:Nat} (ht:Touch (R k) n):
  gA R (lH listed') ops.size n=(R (k+1)).st.look n:=by
 have hk:k<ops.size:=(TI.1 hr.op).1
 have hA:∀i,k+1<=i->i<ops.size->lH listed' i=true->¬Touch (R i) n:=by
  intro i hki hi hd ht'
  rw[hD i ii] at hd
  have:=wx hR hacc (show k<i by omega) (T6 hi) ht ht'
  rw[rT hB hc hr ii hd] at this
  cases this
 rw[k8 (m:=k+1) ii hA,gA,Th ⟨hk',ht⟩]
structure Fv (D:List Deferred) (ops:Array Oper) (R:Nat->lX) (c0:Ctx) (w0:World) (listed:Array Bool) (c:Ctx) (a:Act) (w:World):Prop where
 closed:lD ops listed
 rep:dD c (gA R (lH listed) ops.size) w
 step:Step (R 0).st.next (R ops.size).st.next c0 (R 0).st.look w0 c (gA R (lH listed) ops.size) w
 free:∀j,j<ops.size->lH listed j=false->pk c (R j).st.next (R j).post.next
 JX:a.tmps.size=(R 0).fr.n
 defers:a.defers=D
 sF:∀(t:Nat) (s:SVal),(∀(j:Nat) (o:Oper),ops[j]? =some o->lH listed j=true->o.dst≠some t)->(R 0).fr.get t=some s->∃v,a.tmps[t]? =some v/\Den c s v
 dQ:∀(j:Nat) (o:Oper) (d:Nat),ops[j]? =some o->lH listed j=true->o.dst=some d->∃v,a.tmps[d]? =some v/\Den c (R j).s v
theorem Ab {P:Program} {ops:Array Oper} {sup:List fk} {R:Nat->lX} (hR:∀(k:Nat) (o:Oper),ops[k]? =some o->eu P ops (Region.before ops).toList sup k o (R k) (R (k+1))) {t:Nat} {s:SVal}:∀{k:Nat},k<=ops.size->(R k).fr.get t=some s->(∃(j:Nat) (o:Oper),j<k/\ops[j]? =some o/\o.dst=some t/\s=(R j).s)\/((∀(j:Nat) (o:Oper),j<k->ops[j]? =some o->o.dst≠some t)/\(R 0).fr.get t=some s)
 |0,_,h=> .inr ⟨fun j o hj=>by omega,h⟩
 |k+1,hk,h=>by
  have ho:=T6 (show k<ops.size by omega)
  have hp:=(hR k _ ho).put
  cases hd:ops[k].dst with
  |none=>
   rw[hd] at hp
   rw[iY hp] at h
   rcases Ab hR (show k<=ops.size by omega) h with⟨j,o,h1,h2,h3,h4⟩|⟨h1,h2⟩
   ·exact .inl ⟨j,o,by omega,h2,h3,h4⟩
   ·refine .inr ⟨fun j o hj hjo=> ?_,h2⟩
    by_cases e:j=k
    ·subst e;rw[ho] at hjo;cases hjo;rw[hd];simp
    ·exact h1 j o ii hjo
  |some d=>
   rw[hd] at hp
   obtain⟨_,_,h3⟩:=fm (gG hp)
   rw[h3] at h
   by_cases e:t=d
   ·subst e
    rw[Th rfl] at h
    exact .inl ⟨k,ops[k],by omega,ho,hd,(TD h).symm⟩
   ·rw[Ti e] at h
    rcases Ab hR (show k<=ops.size by omega) h with⟨j,o,h1,h2,h3,h4⟩|⟨h1,h2⟩
    ·exact .inl ⟨j,o,by omega,h2,h3,h4⟩
    ·refine .inr ⟨fun j o hj hjo=> ?_,h2⟩
     by_cases e2:j=k
     ·subst e2;rw[ho] at hjo;cases hjo;rw[hd];intro q;cases q;exact e rfl
     ·exact h1 j o ii hjo
theorem knows {D:List Deferred} {P:Program} {ops:Array Oper} {sup:List fk} {R:Nat->lX} (hR:∀(k:Nat) (o:Oper),ops[k]? =some o->eu P ops (Region.before ops).toList sup k o (R k) (R (k+1))) (hB:xb ops (R 0).fr.n) {c0 c:Ctx} {w0 w:World} {listed:Array Bool} {a:Act} (hI:Fv D ops R c0 w0 listed c a w) {k:Nat} {o:Oper} (hr:wb ops listed k o):Dy c (R k).fr a (o.looksAt ops):=by
 have hk:k<ops.size:=(TI.1 hr.op).1
 refine⟨fun t ht s hs=> ?_⟩
 rcases Ab hR (show k<=ops.size by omega) hs with⟨j,o',h1,h2,h3,rfl⟩|⟨h1,h2⟩
 ·rcases hB.dep k o hr.op t ht j o' h2 h3 with⟨_,e,he,heon,hb⟩|⟨q,_⟩
  ·exact hI.dQ j o' t h2 (heon▸hr.Sq e he hb) h3
  ·omega
 ·refine hI.sF t s (fun j o' hj hd hdst=> ?_) h2
  rcases hB.dep k o hr.op t ht j o' hj hdst with⟨hjk,_⟩|⟨_,e,he,heon,hb⟩
  ·exact h1 j o' hjk hj hdst
  ·have:=hI.closed.dep j o' hj hd e he hb
   rw[heon,hr.un] at this
   cases this
theorem yq {D:List Deferred} {P:Program} {ops:Array Oper} {sup:List fk} {R:Nat->lX} (hR:∀(k:Nat) (o:Oper),ops[k]? =some o->eu P ops (Region.before ops).toList sup k o (R k) (R (k+1))) (hacc:(R 0).acc=[]) (hwf:Wf (R 0).st) (hB:xb ops (R 0).fr.n) (hlate:gM (Region.before ops).toList sup (R ops.size).acc=true) {c0 c c':Ctx} {w0 w w':World} {listed:Array Bool} {a:Act} {v:Value} (hI:Fv D ops R c0 w0 listed c a w) {k:Nat} {o:Oper} (hr:wb ops listed k o)
  (hg:Good (inner (Region.before ops).toList sup k (R k)) (R k).post (R k).s c w c' v w'):Fv D ops R c0 w0 (listed.setIfInBounds k true) c' (a.put o.dst v) w':=by
 have hk:k<ops.size:=(TI.1 hr.op).1
 have hkl:k<listed.size:=by rw[hI.closed.size];exact hk
 have hset:lH (listed.setIfInBounds k true) k=true:=by simp[lH,hkl]
 have hne:∀j,j≠k->lH (listed.setIfInBounds k true) j=lH listed j:=fun j hj=>getD_set_ne false (UZ hj)
 have hdone:∀j,lH (listed.setIfInBounds k true) j=true->j=k\/lH listed j=true:=fun j hj=>by
  by_cases e:j=k
  ·exact .inl e
  ·rw[hne j e] at hj;exact .inr hj
 have hs:=HN hR hr.op
 have hns:=mo hR hr.op
 have hw:=wfI hR hacc hwf hr.op
 obtain⟨h1,h2⟩:=EH (Touch (R k)) hI.rep (fun n ob hn=>sees hR hacc hwf hB hlate hI.closed hr hn) hg.rep hg.step (H':=gA R (lH (listed.setIfInBounds k true)) ops.size)
  (fun n hn=>by rw[Lc hR hacc hB hI.closed hr hset hne hn,Ko hR hacc hwf hr.op hn]) (fun n hn=>xR hne hn _)
  (fun n hn=>by
   have hheap:bx (R k).post.heap n=bx (inner (Region.before ops).toList sup k (R k)).heap n:=by
    by_cases hlt:n<(R k).st.next
    ·exact hs.same n hlt hlt fun hm=>hn (.inr hm)
    ·have hn':(R k).post.next<=n:=by
      rcases TX n (R k).post.next with q|q
      ·exact absurd (.inl ⟨by omega,q⟩) hn
      ·exact q
     rw[hs.wf hw.none n hn',hw.none n (by show(R k).st.next<=n;omega)]
   rw[look_eq,look_eq,hs.cB,hheap])
 have hlo:(R 0).st.next<=(inner (Region.before ops).toList sup k (R k)).next:=(rM hR (show k<=ops.size by omega) (TC _)).next
 have hhi:(R k).post.next<=(R ops.size).st.next:=gI hR hk (Tp _)
 have hstep:=hI.step.trans' (h2.wide hlo hhi)
 have hle:=hg.step.le
 refine⟨⟨by simp[hI.closed.size],fun j o' hj hd e he hb=> ?_⟩,h1,hstep,fun j hj hd=> ?_,by cases o.dst<;>simp[Act.put,hI.JX],by cases o.dst<;>exact hI.defers,fun t s ht hs'=> ?_,fun j o' d hj hd hdst=> ?_⟩
 ·rcases hdone j hd with rfl|hd'
  ·rw[hr.op] at hj
   cases hj
   have:=hr.Sq e he hb
   by_cases q:e.on=j
   ·rw[q];exact hset
   ·rw[hne _ q];exact this
  ·have:=hI.closed.dep j o' hj hd' e he hb
   by_cases q:e.on=k
   ·rw[q];exact hset
   ·rw[hne _ q];exact this
 ·have hjk:j≠k:=fun e=>by subst e;rw[hset] at hd;cases hd
  rw[hne j hjk] at hd
  intro n hn hn'
  refine hg.step.off n ?_ (hI.free j hj hd n hn hn')
  show n<(R k).st.next\/(R k).post.next<=n
  rcases TX j k with q|q
  ·have:=gI hR q (show k<=ops.size by omega);omega
  ·have:=gI hR (show k<j by omega) (show j<=ops.size by omega);omega
 ·obtain⟨v',h3,h4⟩:=hI.sF t s (fun j o' hj hd hdst=>by
   refine ht j o' hj ?_ hdst
   by_cases e:j=k
   ·subst e;exact hset
   ·rw[hne j e];exact hd) hs'
  refine⟨v',?_,Den.le hle _ _ h4⟩
  cases hdst:o.dst with
  |none=>exact h3
  |some d=>
   have:d≠t:=fun e=>ht k o hr.op hset (by rw[hdst,e])
   simp[Act.put,UL this,h3]
 ·rcases hdone j hd with rfl|hd'
  ·rw[hr.op] at hj
   cases hj
   have hb:=hB.bound j o hr.op d hdst
   exact⟨v,by rw[hdst];simp[Act.put,hI.JX,hb],hg.val⟩
  ·obtain⟨v',h3,h4⟩:=hI.dQ j o' d hj hd' hdst
   refine⟨v',?_,Den.le hle _ _ h4⟩
   cases hdst2:o.dst with
   |none=>exact h3
   |some d2=>
    have:d2≠d:=fun e=>by
     have:=hB.dist j o' hj k o hr.op (by rw[hdst];simp) (by rw[hdst,hdst2,e])
     subst this
     rw[hr.un] at hd'
     cases hd'
    simp[Act.put,UL this,h3]
theorem dD.mono {c:Ctx} {G H:gx} {w:World} (h:dD c H w) (hs:∀n o,G n=some o->H n=some o):dD c G w:=
 ⟨fun k o hk=>h.dF k o (hs k o hk),fun k j o o' l l' r hk hj=>h.sep k j o o' l l' r (hs _ _ hk) (hs _ _ hj),h.fz⟩
theorem count_set (l:Array Bool) (i:Nat) (h:l.getD i true=false):(l.setIfInBounds i true).toList.count false+1=l.toList.count false:=by
 have hi:i<l.size:=by
  rcases TX i l.size with h'|h'
  ·exact h'
  ·simp[Array.getD,Nat.not_lt.2 h'] at h
 have hv:l[i]=false:=by simpa[hi] using h
 rw[Array.toList_setIfInBounds,List.count_set (by simpa using hi)]
 have hm:0<l.toList.count false:=List.count_pos_iff.2 (by rw[<-hv];simp)
 have h1:(l.toList[i]==false)=true:=by simp[hv]
 have h2:(true==false)=false:=rfl
 rw[h1,h2]
 simp only[Vx,Uz,Vk]
 omega
theorem s9 {l:Array Bool} {j:Nat} (hj:j<l.size):l.getD j true=l.getD j false:=by simp[hj]
theorem my {l:Array Bool} {j:Nat} (h:l.getD j true=false):j<l.size:=by
 rcases TX j l.size with h'|h'
 ·exact h'
 ·simp[Array.getD,Nat.not_lt.2 h'] at h
theorem Pn {D:List Deferred} {ro:Option Nat} {P:Program} {ops:Array Oper} {sup:List fk} {R:Nat->lX} (hR:∀(k:Nat) (o:Oper),ops[k]? =some o->eu P ops (Region.before ops).toList sup k o (R k) (R (k+1))) (hacc:(R 0).acc=[]) (hwf:Wf (R 0).st) (hB:xb ops (R 0).fr.n) (hlate:gM (Region.before ops).toList sup (R ops.size).acc=true) {c0 c:Ctx} {w0 w:World} {listed:Array Bool} {a:Act} (hI:Fv D ops R c0 w0 listed c a w) {k:Nat} {o:Oper} (hr:wb ops listed k o) {Q:Exit->Act->World->Prop} {K:Act->World->Prop}
  (hK:∀c' a' w',Fv D ops R c0 w0 (listed.setIfInBounds k true) c' a' w'->K a' w'):wpOpIn (je ro) 0 P ops Q k K a w:=by
 have hk:k<ops.size:=(TI.1 hr.op).1
 have h:=hR k o hr.op
 have kn:=knows hR hB hI hr
 have hrep:dD c (inner (Region.before ops).toList sup k (R k)).look w:=hI.rep.mono fun n ob hn=>sees hR hacc hwf hB hlate hI.closed hr hn
 unfold wpOpIn
 rw[hr.op]
 simp only
 rw[kn.want h.want]
 cases hb:(R k).b with
 |false=>
  obtain⟨h1,h2⟩:=h.not hb
  refine⟨fun _ _=>trivial,hK c _ _ (yq hR hacc hwf hB hlate hI hr ?_)⟩
  rw[h1,h2]
  exact⟨⟨[],rfl,rfl⟩,hrep,Step.refl _ _ _ _⟩
 |true=>
  exact(h.run hb).wp ro ((h.run hb).ok hrep (wfI hR hacc hwf hr.op) (hI.free k hk hr.un) kn.eval a K Q fun c' v w' hg=>hK c' _ _ (yq hR hacc hwf hB hlate hI hr hg))
theorem Pm {D:List Deferred} {ro:Option Nat} {P:Program} {ops:Array Oper} {sup:List fk} {R:Nat->lX} (hR:∀(k:Nat) (o:Oper),ops[k]? =some o->eu P ops (Region.before ops).toList sup k o (R k) (R (k+1))) (hacc:(R 0).acc=[]) (hwf:Wf (R 0).st) (hB:xb ops (R 0).fr.n) (hlate:gM (Region.before ops).toList sup (R ops.size).acc=true) {c0:Ctx} {w0:World} {Q:Exit->Act->World->Prop}
  (hQ:∀c' a' w',lC D c' (R ops.size).fr a'->dD c' (R ops.size).st.look w'->Step (R 0).st.next (R ops.size).st.next c0 (R 0).st.look w0 c' (R ops.size).st.look w'->Q .normal a' w'):
  ∀(fuel:Nat) (listed:Array Bool) (c:Ctx) (a:Act) (w:World),listed.toList.count false=fuel->Fv D ops R c0 w0 listed c a w->wpAnyIn (je ro) 0 P .any ops Q fuel listed a w:=by
 have done:∀(listed:Array Bool) (c:Ctx) (a:Act) (w:World),Fv D ops R c0 w0 listed c a w->(∀k,k<ops.size->lH listed k=true)->Q .normal a w:=by
  intro listed c a w hI hall
  have hlk:gA R (lH listed) ops.size=(R ops.size).st.look:=funext fun n=>oT hR hwf (Tp _) fun j hj _=>hall j hj
  have hrep:=hI.rep
  have hst:=hI.step
  rw[hlk] at hrep hst
  have frn:∀k,k<=ops.size->(R k).fr.n=(R 0).fr.n:=by
   intro k
   induction k with
   |zero=>intro _;rfl
   |succ k ih=>
    intro hk
    have hp:=(hR k _ (T6 (show k<ops.size by omega))).put
    rw[<-ih ii]
    cases hd:ops[k].dst with
    |none=>rw[hd] at hp;rw[iY hp]
    |some d=>rw[hd] at hp;exact(fm (gG hp)).2.1
  refine hQ c a w ⟨by rw[hI.JX,frn _ (Tp _)],fun t s hs=> ?_,hI.defers⟩ hrep hst
  rcases Ab hR (Tp _) hs with⟨j,o,h1,h2,h3,rfl⟩|⟨h1,h2⟩
  ·exact hI.dQ j o t h2 (hall j h1) h3
  ·exact hI.sF t s (fun j o hj _=>h1 j o (TI.1 hj).1 hj) h2
 intro fuel
 induction fuel with
 |zero=>
  intro listed c a w hc hI
  have hall:∀k,k<ops.size->lH listed k=true:=by
   intro k hk
   have hks:k<listed.size:=by rw[hI.closed.size];exact hk
   cases hv:listed.getD k false with
   |true=>exact hv
   |false=>
    have:=count_set listed k (by rw[s9 hks];exact hv)
    omega
  refine⟨List.eq_nil_iff_forall_not_mem.2 fun i hi=> ?_,done listed c a w hI hall⟩
  have h1:=(mem_ready.1 hi).1
  have h2:=my h1
  have:=hall i (by rw[<-hI.closed.size];exact h2)
  rw[lH,<-s9 h2,h1] at this
  cases this
 |succ fuel ih=>
  intro listed c a w hc hI
  refine⟨fun hr=> ?_,fun i hi=> ?_⟩
  ·refine done listed c a w hI fun k=> ?_
   induction k using Nat.strongRecOn with
   |_ k ihk=>
    intro hk
    cases hv:listed.getD k false with
    |true=>exact hv
    |false=>
     exfalso
     have ho:=T6 hk
     have hks:k<listed.size:=by rw[hI.closed.size];exact hk
     have:k∈Region.ready .any ops listed:=mem_ready.2 ⟨by rw[s9 hks];exact hv,_,ho,fun e he hb=>by
      have hlt:=hB.down k _ ho e he hb
      exact ihk e.on hlt ii⟩
     rw[hr] at this
     cases this
  ·obtain⟨hun,o,ho,hdeps⟩:=mem_ready.1 hi
   have hin:i<listed.size:=my hun
   refine Pn hR hacc hwf hB hlate hI ⟨ho,by rw[lH,<-s9 hin];exact hun,hdeps⟩ fun c' a' w' hI'=> ?_
   refine ih _ c' a' w' ?_ hI'
   have:=count_set listed i hun
   omega
def Ql (P:Program) (ops:Array Oper) (fr:Fr) (st:St) (fr':Fr) (st':St):Prop:=
 eJ st st'/\fr'.n=fr.n/\∀{ro:Option Nat} {D:List Deferred} {c:Ctx} {w:World} {a:Act} (id:Nat),dD c st.look w->Wf st->pk c st.next st'.next->lC D c fr a->∀{Q:Exit->Act->World->Prop},
  (∀c' a' w',lC D c' fr' a'->dD c' st'.look w'->Step st.next st'.next c st.look w c' st'.look w'->Q .normal a' w')->(Code.region id ops true).wpIn (je ro) 0 P Q a w
theorem L5 {P:Program} (hmix:P.follows .mixedOrders=true) {ops:Array Oper} {sup:List fk} {fr fr':Fr} {st st':St} {acc':List fk} (h:gy P ops (Region.before ops).toList sup ops.toList 0 fr st [] fr' st' acc') (hrel:Ia ops.toList fr.n=true)
  (hl:gM (Region.before ops).toList sup acc'=true):Ql P ops fr st fr' st':=by
 obtain⟨R,h1,h2,h3,⟨h4,h6,h7⟩,h5⟩:=JY h
 have hR:∀(k:Nat) (o:Oper),ops[k]? =some o->eu P ops (Region.before ops).toList sup k o (R k) (R (k+1)):=fun k o hk=>by
  have:=h5 k o (by simpa using hk)
  rw[Ue] at this
  exact this
 have e:0+ops.toList.length=ops.size:=by simp
 rw[e] at h4 h6 h7
 subst h1 h2 h4 h6 h7
 have frn:∀k,k<=ops.size->(R k).fr.n=(R 0).fr.n:=by
  intro k
  induction k with
  |zero=>intro _;rfl
  |succ k ih=>
   intro hk
   have hp:=(hR k _ (T6 (show k<ops.size by omega))).put
   rw[<-ih ii]
   cases hd:ops[k].dst with
   |none=>rw[hd] at hp;rw[iY hp]
   |some d=>rw[hd] at hp;exact(fm (gG hp)).2.1
 refine⟨rM hR (Tp _) (TC _),frn _ (Tp _),fun{ro D c w a} id hr hwf hf hfr Q hQ=> ?_⟩
 have hB:=H9 hrel
 have none:∀k,lH (Array.replicate ops.size false) k=true->False:=fun k hk=>by
  unfold lH at hk
  rw[Uj,Array.getElem?_replicate] at hk
  split at hk<;>cases hk
 have hlk:gA R (lH (Array.replicate ops.size false)) ops.size=(R 0).st.look:=funext fun n=>by
  rw[k8 (m:=0) (TC _) fun i _ _ hd=>(none i hd).elim]
  rfl
 have hr':dD c (R 0).st.look {w with drawn:=w.drawn+1}:=hr.draw _
 refine wpIn_region_any hmix (Pm hR h3 hwf hB hl (c0:=c) (w0:={w with drawn:=w.drawn+1}) (fun c' a' w' k1 k2 k3=> ?_) ops.size _ c a _ (by simp) ⟨⟨by simp,fun j o hj hd=>(none j hd).elim⟩,by rw[hlk];exact hr',by
  rw[hlk]
  exact(Step.refl (R 0).st.next c _ _).wide (Tp _) (rM hR (Tp _) (TC _)).next,fun j hj _=> ?_,hfr.size,hfr.defers,fun t s _ hs=>hfr.get t s hs,fun j o d hj hd=>(none j hd).elim⟩)
 ·exact hQ c' a' w' k1 k2 (((Step.drawn (R 0).st.next c _ w _).wide (Tp _) (rM hR (Tp _) (TC _)).next).trans' k3)
 ·exact hf.mono (rM hR (show j<=ops.size by omega) (TC _)).next (gI hR hj (Tp _))
def DrawW (P:Program) (ops:Array Oper) (before:List Nat) (sup:List fk) (l:List Oper) (k:Nat) (fr:Fr) (st:St) (acc:List fk) (Φ:Fr->St->List fk->Prop):Prop:=∃fr' st' acc',gy P ops before sup l k fr st acc fr' st' acc'/\Φ fr' st' acc'
section
variable {P:Program} {ops:Array Oper} {before:List Nat} {sup:List fk} {l:List Oper} {o:Oper} {k:Nat} {fr fr1:Fr} {st st1:St} {acc:List fk} {s:SVal} {Φ:Fr->St->List fk->Prop}
end
inductive Ex where
 |normal
 |exit (id:Nat)
 |ret
def toExit:Ex->Exit
 | .normal=> .normal
 | .exit id=> .exit id
 | .ret=> .ret
def ra (b:Nat):Deferred:={target:= .collected b,args:= #[]}
def JC (B:Nat) (D:List Deferred) (w:World):Prop:=∃bs:List Nat,D=bs.map ra/\bs.Nodup/\∀b∈bs,B<=b/\w.heap[b]? =some (.deferred (some []))
theorem JC.nil (B:Nat) (w:World):JC B [] w:=⟨[],rfl,List.nodup_nil,fun b hb=>(by cases hb)⟩
theorem rY {c:Ctx} {o:bm} {l:Loc} {w:World} (h:eK c o l w) {b:Nat} (hb:iR l=some b):∃x,w.heap[b]? =some x/\∀y,x≠.deferred y:=by
 cases o with
 |cells cs=>cases l with
  |row=>exact h.elim
  |box b=>cases hb;obtain⟨arr,e,h1,_⟩:=h;exact⟨_,h1,fun y h=>by cases h⟩
 |still cs=>cases l with
  |row=>exact h.elim
  |box b=>cases hb;obtain⟨arr,e,h1,_⟩:=h;exact⟨_,h1,fun y h=>by cases h⟩
 |row m rows s froz=>cases l with
  |box b=>exact h.elim
  |row ob st sz u=>cases hb;obtain⟨_,_,arr,e,cap,h1⟩:=h;exact⟨_,h1.cells,fun y h=>by cases h⟩
 |map es=>cases l with
  |row=>exact h.elim
  |box b=>cases hb;obtain⟨ents,clock,h1,_⟩:=h;exact⟨_,h1,fun y h=>by cases h⟩
 |loop r=>cases l with
  |row=>exact h.elim
  |box b=>cases hb;obtain⟨x,h1,_⟩:=h;exact⟨_,h1,fun y h=>by cases h⟩
 |lR g cs=>cases l with
  |box=>exact h.elim
  |row ob st sz u=>obtain⟨h0,_,arr,e,f,_,h1,_⟩:=h;subst h0;cases hb;exact⟨_,h1,fun y h=>by cases h⟩
theorem BV {c:Ctx} {H:gx} {w:World} (hr:dD c H w) {b:Nat} {x:Option (List Deferred)} (h:w.heap[b]? =some (.deferred x)):¬fN c H b:=by
 rintro⟨k,o,l,h1,h2,h3⟩
 obtain⟨l',h5,h6⟩:=hr.dF k o h1
 rw[h2] at h5
 cases h5
 obtain⟨y,h7,h8⟩:=rY h6 h3
 rw[h] at h7
 cases h7
 exact h8 x rfl
theorem JC.kept {B:Nat} {D:List Deferred} {w w':World} (h:JC B D w) (hk:∀(b:Nat) (x:Option (List Deferred)),w.heap[b]? =some (.deferred x)->w'.heap[b]? =w.heap[b]?):JC B D w':=
 let⟨bs,h1,h2,h3⟩:=h
 ⟨bs,h1,h2,fun b hb=>⟨(h3 b hb).1,(hk b _ (h3 b hb).2).trans (h3 b hb).2⟩⟩
structure eh (lo:Nat) (c:Ctx) (H:gx) (w:World) (c':Ctx) (H':gx) (w':World):Prop where
 le:∀k l,k<lo->c.ρ k=some l->∃l',c'.ρ k=some l'/\dz l l'
 fz:∀b i v,c.fz b i=some v->c'.fz b i=some v
 off:∀k,k<lo->c.ρ k=none->c'.ρ k=none
 hid:∀k l,k<lo->H k=none->c.ρ k=some l->H' k=none/\c'.ρ k=some l
 os:w'.os=w.os
 tape:w'.tape=w.tape
 output:w'.output=w.output
 size:w.heap.size<=w'.heap.size
 kept:∀r,r<w.heap.size->¬fN c H r->w'.heap[r]? =w.heap[r]?
 owns:∀r,fN c' H' r->fN c H r\/w.heap.size<=r
 wR:∀b i v,c'.fz b i=some v->c.fz b i=some v\/fN c H b\/w.heap.size<=b
theorem eh.refl (lo:Nat) (c:Ctx) (H:gx) (w:World):eh lo c H w c H w:=
 ⟨fun _ l _ h=>⟨l,h,dz.refl l⟩,fun _ _ _ h=>h,fun _ _ h=>h,fun _ _ _ h h'=>⟨h,h'⟩,rfl,rfl,rfl,Tp _,fun _ _ _=>rfl,fun _ h=> .inl h,fun _ _ _ h=> .inl h⟩
theorem eh.trans {lo:Nat} {c c1 c2:Ctx} {H H1 H2:gx} {w w1 w2:World} (h:eh lo c H w c1 H1 w1) (k:eh lo c1 H1 w1 c2 H2 w2):eh lo c H w c2 H2 w2 where
 le:=fun n l hn e=>let⟨l1,h1,h2⟩:=h.le n l hn e;let⟨l2,h3,h4⟩:=k.le n l1 hn h1;⟨l2,h3,h2.trans h4⟩
 fz:=fun b i v e=>k.fz b i v (h.fz b i v e)
 off:=fun n hn e=>k.off n hn (h.off n hn e)
 hid:=fun n l hn e e'=>let⟨h1,h2⟩:=h.hid n l hn e e';k.hid n l hn h1 h2
 os:=k.os.trans h.os
 tape:=k.tape.trans h.tape
 output:=k.output.trans h.output
 size:=TR h.size k.size
 kept:=fun r hr hn=>(k.kept r (Us hr h.size) fun ho=>(h.owns r ho).elim hn (fun h'=>by omega)).trans (h.kept r hr hn)
 owns:=fun r ho=>(k.owns r ho).elim (h.owns r) (fun h'=> .inr (TR h.size h'))
 wR:=fun b i v e=>by
  rcases k.wR b i v e with h1|h1|h1
  ·exact h.wR b i v h1
  ·exact .inr (h.owns b h1)
  ·exact .inr (.inr (TR h.size h1))
theorem Step.c {lo a b:Nat} {c c':Ctx} {H H':gx} {w w':World} (h:Step a b c H w c' H' w') (hlo:lo<=a):eh lo c H w c' H' w':=
 ⟨fun k l _ e=>h.le.ρ k l e,h.le.fz,fun k hk e=>h.off k ii e,fun k l _ e e'=>h.hid k l e e',h.os,h.tape,h.output,h.size,h.kept,h.owns,h.wR⟩
theorem JC.step {B:Nat} {D:List Deferred} {lo:Nat} {c c':Ctx} {H H':gx} {w w':World} (h:JC B D w) (hr:dD c H w) (hs:eh lo c H w c' H' w'):JC B D w':=
 h.kept fun b _ hb=>hs.kept b (TI.1 hb).1 (BV hr hb)
structure rI (lo:Nat) (st st':St):Prop where
 cB:st'.cB=st.cB
 mark:st'.mark=st.mark
 log:∀n∈st.log,n∈st'.log
 same:∀k,k<lo->k<st.mark->k∉st'.log->bx st'.heap k=bx st.heap k
 AO:∀n∈st'.log,n∈st.log\/(b8 n st.cB=false/\n<st.mark)
theorem rI.refl (lo:Nat) (st:St):rI lo st st:=⟨rfl,rfl,fun _ h=>h,fun _ _ _ _=>rfl,fun _ h=> .inl h⟩
theorem rI.trans {lo:Nat} {a b c:St} (h:rI lo a b) (k:rI lo b c):rI lo a c:=
 ⟨k.cB.trans h.cB,k.mark.trans h.mark,fun n hn=>k.log n (h.log n hn),fun n h1 h2 h3=>(k.same n h1 (h.mark▸h2) h3).trans (h.same n h1 h2 fun e=>h3 (k.log n e)),
  fun n hn=>(k.AO n hn).elim (h.AO n) (fun hb=> .inr ⟨h.cB▸hb.1,h.mark▸hb.2⟩)⟩
theorem eJ.c {lo:Nat} {st st':St} (h:eJ st st') (hlo:lo<=st.next):rI lo st st':=⟨h.cB,h.mark,h.log,fun k h1 h2 h3=>h.same k ii h2 h3,h.AO⟩
structure Qi (lo:Nat) (D:List Deferred) (B:Nat) (c:Ctx) (fr:Fr) (st:St) (a:Act) (w:World):Prop where
 rep:dD c st.look w
 wf:Wf st
 wW:∀k,st.next<=k->c.ρ k=none
 fr:lC D c fr a
 Ep:JC B D w
 base:B<=w.heap.size
 low:lo<=st.next
 mark:st.mark<=lo
def mQ (ro:Option Nat) (P:Program) (c:Code) (Q:Exit->Act->World->Prop) (a:Act) (w:World):Prop:=
 ∀(b:Frame) (k:List Item) (cs:List Frame),b.roundOf=(je ro).round->(je ro).fn b.fn->(je ro).room (cs.length+1+0)->
  ∃e a' w',Q e a' w'/\ArrivesIn (Machine.fenced P (je ro)) P (lone (b.atR a (.code c:: .inLoop c::k)) cs w) b k cs e a' w'
theorem mQ.wp {ro:Option Nat} {P:Program} {c:Code} {Q:Exit->Act->World->Prop} {a:Act} {w:World} (h:mQ ro P c Q a w):(Code.loop c).wpIn (je ro) 0 P Q a w:=fun b k cs hro hb hr=>
 let⟨e,a',w',hq,harr⟩:=h b k cs hro hb hr
 ⟨e,a',w',hq,.of_steps (.one (fenced_calm hb hr rfl) stepR_loop) harr⟩
theorem mQ.turn {ro:Option Nat} {P:Program} {c:Code} {Q:Exit->Act->World->Prop} {a:Act} {w:World} (h:c.wpIn (je ro) 0 P (Exit.then (mQ ro P c Q) Q) a w):mQ ro P c Q a w:=by
 intro b k cs hro hb hr
 obtain⟨e,a₁,w₁,hq,harr⟩:=h b (.inLoop c::k) cs hro hb hr
 cases e with
 |normal=>
  obtain⟨e₂,a₂,w₂,hq₂,harr₂⟩:=hq b k cs hro hb hr
  exact⟨e₂,a₂,w₂,hq₂,.of_steps (StepsIn.trans harr (.one (fenced_calm hb hr rfl) stepR_inLoop)) harr₂⟩
 |exit id=>exact⟨_,a₁,w₁,hq,.pass (x:= .inLoop c) rfl (fun _ _=> .inl (by simp)) harr⟩
 |goto l=>exact⟨_,a₁,w₁,hq,.pass (x:= .inLoop c) rfl (fun _ _=> .inl (by simp)) harr⟩
 |ret=>exact⟨_,a₁,w₁,hq,.pass (x:= .inLoop c) rfl (fun _ _=> .inl (by simp)) harr⟩
 |panic ch=>exact⟨_,a₁,w₁,hq,.pass (x:= .inLoop c) rfl (fun _ _=> .inl (by simp)) harr⟩
 |outgrown=>exact⟨_,a₁,w₁,hq,.pass (x:= .inLoop c) rfl (fun _ _=> .inl (by simp)) harr⟩
section
variable {P:Program} {F:Fence} {n:Nat} {b:Frame} {a:Act} {k:List Item} {cs:List Frame} {w:World} {Q:Exit->Act->World->Prop}
theorem fD {c:Code}:step P (lone (b.atR a (.code (.scope c)::k)) cs w)= .next (lone (b.atR a (.code c:: .inScope c::k)) cs w):=
 step_lone_go (by simp[stepG,stepG.exec,Frame.atR])
theorem wA {c:Code}:step P (lone (b.atR a (.inScope c::k)) cs w)= .next (lone (b.atR a k) cs w):=
 step_lone_go (by simp[stepG,stepG.exec,Frame.atR])
theorem DP {c:Code} (h:c.wpIn F n P (Exit.noGoto Q) a w):(Code.scope c).wpIn F n P Q a w:=by
 intro b k cs hro hb hr
 have h0:(lone (b.atR a (.code (.scope c)::k)) cs w).fenced P F:=fenced_calm hb hr rfl
 obtain⟨e,a₁,w₁,hq,harr⟩:=h b (.inScope c::k) cs hro hb hr
 cases e with
 |normal=>exact⟨.normal,a₁,w₁,hq,.head h0 fD (StepsIn.trans harr (.one (fenced_calm hb hr rfl) wA))⟩
 |exit id=>
  exact⟨.exit id,a₁,w₁,hq,fun k' hk=> .head h0 fD (harr.1 k' (by simp[exitTo,hk])),fun hr' hk=>
   let⟨k₁,h1,h2⟩:=harr.2 hr' (by simp[exitTo,hk])
   ⟨k₁,h1,.head h0 fD h2⟩⟩
 |goto l=>exact hq.elim
 |ret=>exact⟨_,a₁,w₁,hq,.of_steps (.one h0 fD) harr⟩
 |panic ch=>exact⟨_,a₁,w₁,hq,.of_steps (.one h0 fD) harr⟩
 |outgrown=>exact⟨_,a₁,w₁,hq,.of_steps (.one h0 fD) harr⟩
end
def WP (ro:Option Nat) (P:Program) (c:Code) (Q:Exit->Act->World->Prop) (a:Act) (w:World):Prop:=
 match c with
 | .loop c=>mQ ro P c Q a w
 |c=>c.wpIn (je ro) 0 P Q a w
theorem WP.wp {ro:Option Nat} {P:Program} {c:Code} {Q:Exit->Act->World->Prop} {a:Act} {w:World} (h:WP ro P c Q a w):c.wpIn (je ro) 0 P Q a w:=by
 cases c with
 |loop c=>exact mQ.wp h
 |_=>exact h
def Fin (lo B:Nat) (c:Ctx) (st:St) (w:World) (n:Nat) (Φ:Ex->Fr->St->Prop) (Q:Exit->Act->World->Prop):Prop:=
 ∀x fr' st' D' c' a' w',Φ x fr' st'->Qi lo D' B c' fr' st' a' w'->eh lo c st.look w c' st'.look w'->rI lo st st'->fr'.n=n->Q (toExit x) a' w'
def W (P:Program) (lo:Nat) (z:Code) (fr:Fr) (st:St) (Φ:Ex->Fr->St->Prop):Prop:=
 ∀{ro:Option Nat} {B:Nat} {D:List Deferred} {c:Ctx} {w:World} {a:Act},Qi lo D B c fr st a w->(ro=none\/jM z=true)->∀{Q:Exit->Act->World->Prop},Fin lo B c st w fr.n Φ Q->WP ro P z Q a w
theorem Fin.trans {lo B n n2:Nat} {c c2:Ctx} {st st2:St} {w w2:World} {Φ:Ex->Fr->St->Prop} {Q:Exit->Act->World->Prop} (h:Fin lo B c st w n Φ Q) (hs:eh lo c st.look w c2 st2.look w2) (ht:rI lo st st2) (hn:n2=n):Fin lo B c2 st2 w2 n2 Φ Q:=
 fun x fr' st' D' c' a' w' h1 h2 h3 h4 h5=>h x fr' st' D' c' a' w' h1 h2 (hs.trans h3) (ht.trans h4) (h5.trans hn)
theorem Fin.mono {lo B n:Nat} {c:Ctx} {st:St} {w:World} {Φ Ψ:Ex->Fr->St->Prop} {Q R:Exit->Act->World->Prop} (h:Fin lo B c st w n Φ Q) (hw:∀x fr' st',Ψ x fr' st'->Φ x fr' st') (hq:∀x a w,Q (toExit x) a w->R (toExit x) a w):Fin lo B c st w n Ψ R:=
 fun x fr' st' D' c' a' w' h1 h2 h3 h4 h5=>hq _ _ _ (h x fr' st' D' c' a' w' (hw _ _ _ h1) h2 h3 h4 h5)
theorem pG {a b:Bool} (h: @Bool.rec (fun _=>Bool) false b a=true):a=true/\b=true:=by
 cases a with
 |false=>cases h
 |true=>exact⟨rfl,h⟩
section
variable {P:Program} {lo:Nat} {fr:Fr} {st:St} {Φ Ψ:Ex->Fr->St->Prop}
theorem W.mono {z:Code} (h:W P lo z fr st Ψ) (hw:∀x fr' st',Ψ x fr' st'->Φ x fr' st'):W P lo z fr st Φ:=fun he hr _ hq=>h he hr (hq.mono hw fun _ _ _ h=>h)
theorem Fin.here {B n:Nat} {c:Ctx} {w:World} {Q:Exit->Act->World->Prop} {D:List Deferred} {a:Act} {x:Ex} (hq:Fin lo B c st w n Φ Q) (he:Qi lo D B c fr st a w) (hn:fr.n=n) (h:Φ x fr st):Q (toExit x) a w:=hq x fr st D c a w h he (eh.refl _ _ _ _) (rI.refl _ _) hn
theorem W.skip (h:Φ .normal fr st):W P lo .skip fr st Φ:=fun he _ _ hq=>wpIn_skip (hq.here he rfl h)
theorem W.label {l:Nat} (h:Φ .normal fr st):W P lo (.label l) fr st Φ:=fun he _ _ hq=>wpIn_label (hq.here he rfl h)
theorem W.exit {id:Nat} (h:Φ (.exit id) fr st):W P lo (.exit id) fr st Φ:=fun he _ _ hq=>wpIn_exit (hq.here he rfl h)
theorem W.ret (h:Φ .ret fr st):W P lo .ret fr st Φ:=fun he _ _ hq=>wpIn_ret (hq.here he rfl h)
theorem W.ops {id:Nat} {ops:Array Oper} (h:wg P ops ops.toList fr st (Φ .normal)):W P lo (.region id ops false) fr st Φ:=by
 intro ro B D c w a he _ Q hq
 obtain⟨fr',st',⟨h1,h2,h3⟩,h4⟩:=h
 refine wpIn_region_list (h3 he.rep he.wf (fun k hk _=>he.wW k hk) he.fr fun c' a' w' c1 c2 c3=> ?_)
 have hs:eh lo c st.look w c' st'.look w':=c3.c he.low
 refine hq .normal fr' st' D c' a' w' h4 ⟨c2,he.wf.eP h1,fun k hk=>c3.off k (.inr hk) (he.wW k (TR h1.next hk)),c1,he.Ep.step he.rep hs,TR he.base hs.size,TR he.low h1.next,by rw[h1.mark];exact he.mark⟩ hs (h1.c he.low) h2
theorem W.draw' {id:Nat} {ops:Array Oper} (hmix:P.follows .mixedOrders=true) (sup:List fk) (hrel:Ia ops.toList fr.n=true) (h:DrawW P ops (Region.before ops).toList sup ops.toList 0 fr st [] fun fr' st' acc=>gM (Region.before ops).toList sup acc=true/\Φ .normal fr' st'):W P lo (.region id ops true) fr st Φ:=by
 intro ro B D c w a he _ Q hq
 obtain⟨fr',st',acc',h0,hl,h4⟩:=h
 obtain⟨h1,h2,h3⟩:=L5 hmix h0 hrel hl
 refine h3 id he.rep he.wf (fun k hk _=>he.wW k hk) he.fr fun c' a' w' c1 c2 c3=> ?_
 have hs:eh lo c st.look w c' st'.look w':=c3.c he.low
 refine hq .normal fr' st' D c' a' w' h4 ⟨c2,he.wf.eP h1,fun k hk=>c3.off k (.inr hk) (he.wW k (TR h1.next hk)),c1,he.Ep.step he.rep hs,TR he.base hs.size,TR he.low h1.next,by rw[h1.mark];exact he.mark⟩ hs (h1.c he.low) h2
def S3 (P:Program) (lo:Nat) (y:Code) (Φ:Ex->Fr->St->Prop):Ex->Fr->St->Prop
 | .normal,fr,st=>W P lo y fr st Φ
 |x,fr,st=>Φ x fr st
theorem Bc {y:Code} {ro:Option Nat} {B:Nat} {c:Ctx} {w:World} {Q:Exit->Act->World->Prop} {n:Nat} (hy:ro=none\/jM y=true) (hq:Fin lo B c st w n Φ Q):Fin lo B c st w n (S3 P lo y Φ) (Exit.then (WP ro P y Q) Q):=by
 intro e fr' st' D' c' a' w' h1 h2 h3 h4 h5
 cases e with
 |normal=>exact h1 h2 hy (hq.trans h3 h4 h5)
 |exit id=>exact hq _ _ _ _ _ _ _ h1 h2 h3 h4 h5
 |ret=>exact hq _ _ _ _ _ _ _ h1 h2 h3 h4 h5
theorem W.seq {x y:Code} (h:W P lo x fr st (S3 P lo y Φ)):W P lo (.seq x y) fr st Φ:=by
 intro ro B D c w a he hr Q hq
 have hx:=hr.imp id fun h=>(pG h).1
 have hy:=hr.imp id fun h=>(pG h).2
 refine wpIn_seq (wpIn_mono (h he hx (Bc hy hq)).wp fun e a w hq=>by cases e<;>first|exact WP.wp hq|exact hq)
theorem W.cond {x:Operand} {y z:Code} {b:Bool} (hx:DE fr x=some (.bool b)) (h1:b=true->W P lo y fr st Φ) (h2:b=false->W P lo z fr st Φ):W P lo (.cond x y z) fr st Φ:=by
 intro ro B D c w a he hr Q hq
 have hd:a.eval x= .bool b:=he.fr.eval x _ hx
 refine wpIn_cond hd ?_
 cases b with
 |true=>exact(h1 rfl he (hr.imp id fun h=>(pG h).1) hq).wp
 |false=>exact(h2 rfl he (hr.imp id fun h=>(pG h).2) hq).wp
def Leave (id:Nat) (Φ:Ex->Fr->St->Prop):Ex->Fr->St->Prop
 | .exit j,fr,st=>if j=id then Φ .normal fr st else Φ (.exit j) fr st
 |x,fr,st=>Φ x fr st
theorem W.block {id:Nat} {x:Code} (h:W P lo x fr st (Leave id Φ)):W P lo (.block id x) fr st Φ:=by
 intro ro B D c w a he hr Q hq
 refine wpIn_block (h he hr fun e fr' st' D' c' a' w' h1 h2 h3 h4 h5=> ?_).wp
 cases e with
 |normal=>exact hq _ _ _ _ _ _ _ h1 h2 h3 h4 h5
 |ret=>exact hq _ _ _ _ _ _ _ h1 h2 h3 h4 h5
 |exit j=>
  show(if j=id then Q .normal a' w' else Q (.exit j) a' w')
  by_cases e:j=id
  ·rw[Th e]
   have h1:(if j=id then Φ .normal fr' st' else Φ (.exit j) fr' st'):=h1
   rw[Th e] at h1
   exact hq .normal _ _ _ _ _ _ h1 h2 h3 h4 h5
  ·rw[Ti e]
   have h1:(if j=id then Φ .normal fr' st' else Φ (.exit j) fr' st'):=h1
   rw[Ti e] at h1
   exact hq (.exit j) _ _ _ _ _ _ h1 h2 h3 h4 h5
theorem W.loop {x:Code} (h:W P lo x fr st (S3 P lo (.loop x) Φ)):W P lo (.loop x) fr st Φ:=by
 intro ro B D c w a he hr Q hq
 exact mQ.turn (h he hr (Bc hr hq)).wp
theorem W.scope {x:Code} (h:W P lo x fr st Φ):W P lo (.scope x) fr st Φ:=by
 intro ro B D c w a he hr Q hq
 refine DP (h he hr fun e fr' st' D' c' a' w' h1 h2 h3 h4 h5=> ?_).wp
 have:=hq e fr' st' D' c' a' w' h1 h2 h3 h4 h5
 cases e<;>exact this
end
end Sv
